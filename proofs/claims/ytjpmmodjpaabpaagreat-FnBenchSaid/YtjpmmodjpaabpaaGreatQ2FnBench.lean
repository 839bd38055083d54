/-
  Facts and plain laws: what the functions compute, in plain words. Conditions: as each says.
-/
import Derived.Test.YtjpmmodjpaabpaaGreatQ1FnBench
open Int renaming toNat_natCast->Cj,tmod->CM,tdiv->CQ,eq_ofNat_of_zero_le->Ew
open Bool renaming not_true->BZ,not_false->Cn,and_eq_true->Ck,eq_iff_iff->CG,and_false->DM,and_true->P9,true_and->Cw,or_eq_false_iff->Kf
open List renaming getElem?_eq_getElem->Cs,length_set->Ml,mem_of_getElem?->Cm,mem_cons_of_mem->C1,mem_flatMap->Ev,mem_singleton->Cy,length_append->C7,length_singleton->IF,mem_append->C0,not_mem_nil->Dl,map_cons->CA,sum_cons->D6,length_cons->C6,length->Cr,length_nil->CE,replicate->Dx,foldl_cons->EX,map_append->IG,append_nil->CU,append_assoc->CY,length_map->CF,mem_map->Ch,getElem?_append_right->Z9,getElem?_map->FV,cons->GH,all_eq_true->Dg
open Option renaming getD_some->CJ,map_eq_some_iff->CX
open Nat renaming zero_le->C3,le_trans->B5,le_succ->Et,le_refl->Cz,reduceEqDiff->P6
open Sum renaming inl->A7,inr->A2,elim->Cd,elim_inl->Ea
open Array renaming length_toList->N9
set_option linter.unusedVariables false
set_option linter.unusedSimpArgs false
set_option maxRecDepth 100000
open Option renaming some→U
open Option renaming none→W
open Decidable renaming decide→D
open Bool renaming true→X
open Bool renaming false→Y
namespace Go.Proofs.YtjpmmodjpaabpaaGreat
open Go.Ab Go.V
theorem bXa{t:den B2}{r:Int}{l:bX}{g:den fM}(ht:eU t)(hl:l.length<=12)(h:FM l)(hg:g.2.2.2.length<=9):sB t r l g=U (Lu t r l g):=by
 have hl':l.length<=1000000:=by omega
 have hc:nE t g.2 r g.1=U (DE t g.2 r g.1):=XS ht (by omega) r g.1;have hk:l.findIdx (zI g)<=l.length:=List.findIdx_le_length;have hcp:eB g.2=U g.2:=Jx (by omega);unfold sB Lu BX A1 A6;simp only[aD,bJ6 hl' h,hc,cGw hl' h hg,aA];rw[bJk (l:=l) (zI g) hl' (λk x hx hm hd hw=>by
  simp only[hd,bF,zZ,Cj,hx,aA,cEo hg (h x hm),hw];cases zI g x<;>rfl) (by simp)]
 have hn:=Wn (g:=g) hk;generalize l.findIdx (zI g)=k at *;cases DE t g.2 r g.1 with
 | false=>rfl
 | true=>cases L4 l g with
  | true=>rfl
  | false=>
   simp only[BZ,Cn,zY,aA,Bool.or_self,bB,cB,bL,bJ,bO,hcp];rw[show bG (0:Int) (k:Int) (l.length:Int)=X from GS hk,show bG (k:Int) (l.length:Int) (l.length:Int)=X from wS hk,fL,HS];simp only[zZ,aD,aA,aC (b:=48) (n:=([]:bX).length) (m:=(l.take k).length) (by decide) (by simp;omega),aC (b:=48) (n:=(([]:bX)++l.take k).length) (m:=1) (by decide) (by simp;omega),aC (b:=48) (n:=((([]:bX)++l.take k)++[g]).length) (m:=(l.drop k).length) (by decide) (by simp;omega)];show Option.bind (cond (D (((qK l g k).length:Int)>12)) (cond (bG (0:Int) (wr (((qK l g k).length:Int) - 1)) ((qK l g k).length:Int)) (U (cut (qK l g k) (0:Int) (wr (((qK l g k).length:Int) - 1)))) W) (U (qK l g k))) (λs16=>U s16)=_;rw[show wr (((qK l g k).length:Int) - 1)=(((qK l g k).length - 1:Nat):Int) from (dO (by omega)).trans (by omega),fL,show bG (0:Int) (((qK l g k).length - 1:Nat):Int) ((qK l g k).length:Int)=X from GS (Nat.sub_le _ _)];cases D (((qK l g k).length:Int)>12)<;>rfl
theorem ltI{a b:Int}(h:a<b):a<b:=h
noncomputable def Hq(t:den B2)(st:List bX)(m:den sT):List bX:=
 cond (B3 m.1 0 ((st.length:Int) - 1)) (st.set m.1.toNat (Lu t m.1 ((st[m.1.toNat]?).getD []) m.2)) st
noncomputable def Fq(t:den B2)(b:den hP)(l:aZ):den hP:=cond (mO t) (b.1,l.foldl (Hq t) b.2) b
def J8(l:aZ):Prop:= ∀m∈l,m.2.2.2.2.length<=9
theorem WG{t:den B2}{st:List bX}{m:den sT}(h:tD st)(hm:m.2.2.2.2.length<=9):(Hq t st m).length=st.length/\tD (Hq t st m):=by
 unfold Hq;cases c:B3 m.1 0 ((st.length:Int) - 1) with
 | false=>exact⟨rfl,h⟩
 | true=>
  obtain⟨g0,g1⟩:=bQ.1 c;have e:st[m.1.toNat]? =U (st[m.1.toNat]'(by omega)):=Cs (by omega);refine⟨Ml,λx hx=> ?_⟩;rcases List.mem_or_eq_of_mem_set hx with hx | rfl
  .exact h x hx
  .rw[e];obtain⟨h1,h2⟩:=h _ (Cm e);exact bSe h1 h2 hm
theorem cGk{t:den B2}{b:den hP}{l:aZ}(h:tD b.2)(hm:J8 l):(Fq t b l).2.length=b.2.length/\tD (Fq t b l).2:=by
 unfold Fq;cases mO t with
 | false=>exact⟨rfl,h⟩
 | true=>
  have key:∀(l:aZ) (st:List bX),J8 l->tD st->(l.foldl (Hq t) st).length=st.length/\tD (l.foldl (Hq t) st):=by
   intro l
   induction l with
   | nil=>intro st _ hs;exact⟨rfl,hs⟩
   | cons m l ih=>
    intro st hl hs;obtain⟨a,b⟩:=WG (t:=t) hs (hl m (by simp));obtain⟨c,d⟩:=ih (Hq t st m) (λx hx=>hl x (C1 _ hx)) b;exact⟨c.trans a,d⟩
  exact key l b.2 hm h
theorem cIi{t:den B2}{b:den hP}{l:aZ}(ht:eU t)(hb:b.2.length<=1000000)(h:tD b.2)(hl:l.length<=1000000)(hm:J8 l):jG t b l=U (Fq t b l):=by
 unfold jG Fq BX A1 A6;simp only[aD,bY2 hb h,MR ht.sm,aA];cases mO t with
 | false=>rfl
 | true=>
  simp only[BZ,zY,zZ];rw[(KP (l:=l) (Hq t) (λ_ st=>st.length=b.2.length/\tD st) (out:=λx=>x) (by omega) ⟨rfl,h⟩ (λk m (st:List bX) hi hd hw hx hk hI=>by
   obtain⟨d1,d2⟩:=WG (t:=t) hI.2 (hm m hx);refine⟨?_,d1.trans hI.1,d2⟩;have w1:wr ((st.length:Int) - 1)=(st.length:Int) - 1:=dO (by rw[hI.1];omega);unfold Hq;simp only[hd,zZ,hi,aA,w1,gX,hw];cases c:B3 m.1 0 ((st.length:Int) - 1) with
   | false=>rfl
   | true=>
    obtain⟨g0,g1⟩:=bQ.1 c;have hlt:m.1.toNat<st.length:=by omega
    have hlt2:m.1<(st.length:Int):=ltI (show (st.length:Int)>m.1 by omega);have e:st[m.1.toNat]? =U (st[m.1.toNat]'hlt):=Cs hlt;obtain⟨h1,h2⟩:=hI.2 _ (Cm e);have es:sG (t.1,t.2) m.1 (st[m.1.toNat]'hlt) (m.2.1,(m.2.2.1,m.2.2.2.1,m.2.2.2.2))=U _:=bZz (t:=t) (g:=m.2) ht h1 h2 (hm m hx);simp only[zX g0,zX hlt2,zX hlt,zZ,e,aA,es,CJ]) (λa=>by simp)).1]
  rfl
theorem bT1{t:den B2}{b:den hP}{l:aZ}(ht:eU t)(hb:b.2.length<=1000000)(h:tD b.2)(hl:l.length<=1000000)(hm:J8 l):hH t b l=U (Fq t b l):=by
 unfold hH Fq BX A1 A6;simp only[aD,bZ3 hb h,GU ht.sm,aA];cases mO t with
 | false=>
  rw[aH (r:=b.2) (by cases D ((0:Int)<(l.length:Int))<;>rfl)];rfl
 | true=>
  simp only[zZ];rw[(KP (l:=l) (Hq t) (λ_ st=>st.length=b.2.length/\tD st) (out:=λx=>x) (by omega) ⟨rfl,h⟩ (λk m (st:List bX) hi hd hw hx hk hI=>by
   obtain⟨d1,d2⟩:=WG (t:=t) hI.2 (hm m hx);refine⟨?_,d1.trans hI.1,d2⟩;have w1:wr ((st.length:Int) - 1)=(st.length:Int) - 1:=dO (by rw[hI.1];omega);unfold Hq;simp only[hd,zZ,hi,aA,w1,fC,hw];cases c:B3 m.1 0 ((st.length:Int) - 1) with
   | false=>rfl
   | true=>
    obtain⟨g0,g1⟩:=bQ.1 c;have hlt:m.1.toNat<st.length:=by omega
    have hlt2:m.1<(st.length:Int):=ltI (show (st.length:Int)>m.1 by omega);have e:st[m.1.toNat]? =U (st[m.1.toNat]'hlt):=Cs hlt;obtain⟨h1,h2⟩:=hI.2 _ (Cm e);have es:sB (t.1,t.2) m.1 (st[m.1.toNat]'hlt) (m.2.1,(m.2.2.1,m.2.2.2.1,m.2.2.2.2))=U _:=bXa (t:=t) (g:=m.2) ht h1 h2 (hm m hx);simp only[zX g0,zX hlt2,zX hlt,zZ,e,aA,es,CJ]) (λa=>by simp)).1]
  rfl
theorem Wo(t:den B2)(l:dF)(r ts:Int):(En t l r ts).length<=6:=by
 unfold En;cases mO t with
 | false=>exact C3 _
 | true=>
  have h:=KX (g:=ES t (cE l r) r ts) (c:=1) (l:=Fm t (cE l r) r) λx _=>VQ _ _ _ _ _
  have h6:(Fm t (cE l r) r).length<=6:=O4 _;show (List.flatMap _ _).length<=6;omega
theorem Wx(t:den B2)(l:dF)(r:Int){m:bX}(h:m.length<=12):(EN t l r m).length<=72:=by
 unfold EN;cases mO t with
 | false=>exact C3 _
 | true=>
  have h:=KX (g:=Fw t (cE l r) r) (c:=6) (l:=m) λx _=>SG _ _ _ _
  show (List.flatMap _ _).length<=72;omega
theorem bUu(t:den B2)(l:dF)(r ts:Int):J8 (En t l r ts):=by
 intro m hm;unfold En at hm;cases c:mO t with
 | false=>rw[c]at hm;cases hm
 | true=>
  rw[c]at hm;obtain⟨o,ho,hm⟩:=Ev.1 hm;unfold ES at hm;cases c2:(wJ t (cE l r) r o ts (Mf t r ts o)).2.2.1 with
  | false=>rw[c2]at hm;cases hm
  | true=>
   rw[c2]at hm;rw[Cy.1 hm];show (wJ t (cE l r) r o ts (Mf t r ts o)).2.2.2.length<=9;unfold wJ;cases OZ t (cE l r) r o ts (Mf t r ts o)
   .exact C3 _
   .exact (show (1:Nat)<=9 by decide)
theorem bWa(t:den B2)(l:dF)(r:Int){m:bX}(h:FM m):J8 (EN t l r m):=by
 intro x hx;unfold EN at hx;cases c:mO t with
 | false=>rw[c]at hx;cases hx
 | true=>
  rw[c]at hx;obtain⟨g,hg,hx⟩:=Ev.1 hx;unfold Fw at hx;obtain⟨o,ho,hx⟩:=Ev.1 hx;rw[Cy.1 hx];show (D9 t (cE l r) g.2 r g.1 o).2.2.2.length<=9;unfold D9;cases c2:Rx t (cE l r) g.2 r g.1 o with
  | false=>exact h g hg
  | true=>
   unfold Rx at c2;rw[Ck]at c2;have :=(RL (OC c2.1).2).2;show (g.2.2.2++[_]).length<=9;rw[C7,IF];omega
def I2(t:den B2)(l:dF)(b:den hP):aZ:=cW (λk m a=>(a++En t l (k:Int) b.1)++EN t l (k:Int) m) 0 b.2 []
theorem VI(t:den B2)(l:dF){b:den hP}(h:tD b.2):J8 (I2 t l b):=by
 have key:∀(st:List bX) (k:Nat) (a:aZ),tD st->J8 a->J8 (cW (λk m a=>(a++En t l (k:Int) b.1)++EN t l (k:Int) m) k st a):=by
  intro st
  induction st with
  | nil=>intro k a _ ha;exact ha
  | cons m st ih=>
   intro k a hs ha;refine ih (k+1) _ (λx hx=>hs x (C1 _ hx)) λx hx=> ?_
   rcases C0.1 hx with hx | hx
   .rcases C0.1 hx with hx | hx
    .exact ha x hx
    .exact bUu t l _ _ x hx
   .exact bWa t l _ (hs m (by simp)).2 x hx
 exact key b.2 0 [] h λx hx=>(Dl hx).elim
theorem bEj(t:den B2)(l:dF){b:den hP}{m:bX}(h:m.length<=12)(k:Nat)(a:aZ):((a++En t l (k:Int) b.1)++EN t l (k:Int) m).length<=a.length+78:=by
 have h1:=Wo t l (k:Int) b.1;have h2:=Wx t l (k:Int) h;rw[C7,C7];omega
theorem bG4{m:bX}(h:FM m):∀g∈m,g.2.2.2.length<=1000000:=λg hg=>B5 (h g hg) (by decide)
theorem Tu{α:Type}(l:List α):(l.map λ_=>78).sum=l.length * 78:=by
 induction l with
 | nil=>rfl
 | cons x l ih=>rw[CA,D6,ih,C6,Nat.succ_mul];omega
noncomputable def FN(t:den B2)(l:dF)(b:den hP):den hP:=Fq t b (I2 t l b)
theorem cJ4{t:den B2}{l:dF}{b:den hP}(ht:eU t)(hl:l.length<=1000000)(hb:b.2.length<=1000)(h:tD b.2):gN t l b=U ((FN t l b).1,(FN t l b).2,l):=by
 unfold gN FN A1;obtain⟨e1,e2⟩:=jJ (λk (a:aZ)=>((k:Int),a,l)) ((0:Int),[],l) [] b.2 (λk m a=>(a++En t l (k:Int) b.1)++EN t l (k:Int) m) Cr (λ_=>78) 100000 (λa=>(a,l)) rfl (by omega) (by rw[Tu];simp only[CE];omega) (step:=λ(s5:Int×q39)=>cond (D (s5.1<(b.2.length:Int))) (Option.bind (idx b.2 s5.1) λx6=>Option.bind (pZ (t.1,t.2) s5.2.2 s5.1 b.1) λy7=>cond (aF 56 s5.2.1.length y7.1.length) (Option.bind (pR (t.1,t.2) y7.2 s5.1 x6) λy8=>cond (aF 56 (s5.2.1++y7.1).length y8.1.length) (U (A7 (wr (s5.1+(1:Int)),(s5.2.1++y7.1)++y8.1,y8.2))) W) W) (U (A2 (s5.2.1,s5.2.2)))) (λk m a hi hx hd hw hk hb=>by
  obtain⟨h1,h2⟩:=h m (Cm hx);have g1:=Wo t l (k:Int) b.1;have g2:=Wx t l (k:Int) h1;refine⟨?_,bEj t l h1 k a⟩;simp only[hd,zZ,hi,aA,aD,cJ5 ht hl,cHx ht hl (B5 h1 (by decide)) (bG4 h2),hw,aC (b:=56) (n:=a.length) (m:=(En t l (k:Int) b.1).length) (by decide) (by omega),aC (b:=56) (n:=(a++En t l (k:Int) b.1).length) (m:=(EN t l (k:Int) m).length) (by decide) (by rw[C7];omega)]) (λa=>by simp)
 rw[e1,aA];have e2:(I2 t l b).length<=_:=e2;rw[Tu]at e2;simp only[CE]at e2;have e3:jG (t.1,t.2) (b.1,b.2) (I2 t l b)=U (Fq t b (I2 t l b)):=cIi (b:=b) ht (by omega) h (by omega) (VI t l h);show Option.bind (jG (t.1,t.2) (b.1,b.2) (I2 t l b)) _=_;rw[e3];rfl
theorem cJc{t:den B2}{l:dF}{b:den hP}(ht:eU t)(hl:l.length<=1000000)(hb:b.2.length<=1000)(h:tD b.2):gQ t l b=U ((FN t l b).1,(FN t l b).2,l):=by
 unfold gQ FN A1;simp only[aD,GU ht.sm,aA];cases c:mO t with
 | false=>
  rw[aH (r:=[]) (by cases D ((0:Int)<(b.2.length:Int))<;>rfl),aA];have e3:hH t b []=U (Fq t b []):=bT1 ht (by omega) h (by decide) λx hx=>(Dl hx).elim
  rw[e3];unfold Fq;rw[c];rfl
 | true=>
  obtain⟨e1,e2⟩:=jJ (λk (a:aZ)=>((k:Int),a)) ((0:Int),[]) [] b.2 (λk m a=>(a++En t l (k:Int) b.1)++EN t l (k:Int) m) Cr (λ_=>78) 100000 id rfl (by omega) (by rw[Tu];simp only[CE];omega) (step:=λ(s7:Int×aZ)=> @Option.bind Bool (q24⊕(aZ)) (cond (D (s7.1<(b.2.length:Int))) (U X) (U Y)) λ(s9:Bool)=>cond s9 (Option.bind (uP t l s7.1 b.1) λy10=>cond (aF 56 s7.2.length y10.length) (Option.bind (idx b.2 s7.1) λx11=>Option.bind (uQ t l s7.1 x11) λy12=>cond (aF 56 (s7.2++y10).length y12.length) (U (A7 (wr (s7.1+(1:Int)),(s7.2++y10)++y12))) W) W) (U (A2 s7.2))) (λk m a hi hx hd hw hk hb=>by
   obtain⟨h1,h2⟩:=h m (Cm hx);have g1:=Wo t l (k:Int) b.1;have g2:=Wx t l (k:Int) h1;refine⟨?_,bEj t l h1 k a⟩;simp only[hd,zZ,hi,aA,aD,cH9 ht hl,cKn ht hl (B5 h1 (by decide)) (bG4 h2),hw,aC (b:=56) (n:=a.length) (m:=(En t l (k:Int) b.1).length) (by decide) (by omega),aC (b:=56) (n:=(a++En t l (k:Int) b.1).length) (m:=(EN t l (k:Int) m).length) (by decide) (by rw[C7];omega)]) (λa=>by simp)
  rw[e1,aA];have e2:(I2 t l b).length<=_:=e2;rw[Tu]at e2;simp only[CE]at e2;have e3:hH t b (I2 t l b)=U (Fq t b (I2 t l b)):=bT1 (b:=b) ht (by omega) h (by omega) (VI t l h);show Option.bind (hH t b (I2 t l b)) _=_;rw[e3];rfl
theorem cEp{t:den B2}{l:dF}{b:den hP}(h:tD b.2):(FN t l b).2.length=b.2.length/\tD (FN t l b).2:=cGk h (VI t l h)
theorem cE6(t:den B2)(b:den hP)(l:aZ):(Fq t b l).1=b.1:=by unfold Fq;cases mO t<;>rfl
theorem cGt{t:den B2}{l:dF}(ht:eU t)(h8:t.1.length<=1000)(hl:l.length<=1000000)(ts:Int):∃st,dA t l ts=U (ts,st,l)/\dB t l ts=U (ts,st,l)/\st.length<=8/\tD st:=by
 obtain⟨st0,e1,e2,e3,e4⟩:∃st0,sO t ts=U (ts,st0)/\sP t ts=U (ts,st0)/\st0.length<=8/\tD st0:=by
  unfold sO sP A1;simp only[aD,MR ht.sm,GU ht.sm,aA];cases c:mO t with
  | false=>exact⟨[],rfl,by rw[aH (r:=(ts,[])) (by cases D ((0:Int)<(t.1.length:Int))<;>rfl)];rfl,by simp,λm hm=>(Dl hm).elim⟩
  | true=>
   have hn:t.1.length<=8:=by
    unfold mO at c;rw[Ck]at c;have :=bQ.1 c.1;omega
   refine⟨Dx t.1.length [],?_,?_,by simp;exact hn,λm hm=> ?_⟩
   .rw[show Nn 24 (t.1.length:Int) (t.1.length:Int)=X from by simp[Nn];omega];rfl
   .rw[show (aB (λ(s4:Int×q16)=> @Option.bind Bool ((Int×q16)⊕q16) (cond (D (s4.1<(t.1.length:Int))) (U X) (U Y)) λ(s6:Bool)=>cond s6 (cond (aF 24 s4.2.2.length 1) (U (A7 (wr (s4.1+(1:Int)),s4.2.1,s4.2.2++[[]]))) W) (U (A2 (s4.2.1,s4.2.2)))) ((0:Int),ts,[]))=U (ts,Dx t.1.length []) from bZl (st:=λk=>((k:Int),ts,Dx k [])) (m:=t.1.length) (λk hk=>by
     simp only[zX (show (k:Int)<(t.1.length:Int) by omega),zZ,aA,aC (b:=24) (n:=(Dx k ([]:bX)).length) (m:=1) (by decide) (by simp;omega),Lo (show k<=4611686018427387904 by omega)];rw[List.replicate_succ']) (by simp)]
    rfl
   .rw[(List.mem_replicate.1 hm).2];exact⟨by simp,λg hg=>(Dl hg).elim⟩
 have step:∀(k:Nat) (st:List bX),k<8->(st.length<=8/\tD st)->gN t l (ts,st)=U (ts,(FN t l (ts,st)).2,l)/\gQ t l (ts,st)=U (ts,(FN t l (ts,st)).2,l)/\((FN t l (ts,st)).2.length<=8/\tD (FN t l (ts,st)).2):=λk st hk hI=>by
  have a:=cJ4 (b:=(ts,st)) ht hl (by show st.length<=1000;omega) hI.2;have b:=cJc (b:=(ts,st)) ht hl (by show st.length<=1000;omega) hI.2;have hts:(FN t l (ts,st)).1=ts:=cE6 _ _ _;rw[hts]at a b;obtain⟨c,d⟩:=cEp (t:=t) (l:=l) (b:=(ts,st)) hI.2;exact⟨a,b,by rw[c];exact hI.1,d⟩
 unfold dA dB A1 A6;simp only[aD,e1,e2,aA];obtain⟨st,g1,g2,g3⟩:=cDc 8 (λk (st:List bX)=>((k:Int),ts,st,l)) (λk (st:List bX)=>((k:Int),ts,st,l)) (λst=>(ts,st,l)) (λst=>(ts,st,l)) (λ_ st=>st.length<=8/\tD st) (fI:=λ(s4:Int×q18)=>cond (D (s4.1<(8:Int))) (Option.bind (gN t s4.2.2.2 (s4.2.1,s4.2.2.1)) λy5=>U (A7 (wr (s4.1+(1:Int)),y5.1,y5.2.1,y5.2.2))) (U (A2 (s4.2.1,s4.2.2.1,s4.2.2.2)))) (fS:=λ(s4:Int×q18)=>cond (D (s4.1<(8:Int))) (Option.bind (gQ t s4.2.2.2 (s4.2.1,s4.2.2.1)) λy5=>U (A7 (wr (s4.1+(1:Int)),y5.1,y5.2.1,y5.2.2))) (U (A2 (s4.2.1,s4.2.2.1,s4.2.2.2)))) (λk st hk hI=>by
  obtain⟨a,b,c⟩:=step k st hk hI;refine⟨_,?_,?_,c⟩
  .simp only[zX (show (k:Int)<8 by omega),zZ,a,aA,Lo (show k<=4611686018427387904 by omega)]
  .simp only[zX (show (k:Int)<8 by omega),zZ,b,aA,Lo (show k<=4611686018427387904 by omega)]) (λst hI=>⟨rfl,rfl⟩) st0 ⟨e3,e4⟩
 exact⟨st,(congrArg (λo=>Option.bind o _) g1).trans rfl,(congrArg (λo=>Option.bind o _) g2).trans rfl,g3⟩
abbrev Db:=Co×Co
def H0(t:den B2)(k:Db)(s:den B9):Db:=cond (qH t s.2.2==(2:Int)) (k.1++[s],k.2) (k.1,k.2++[s])
def kN(k:Db):Nat:=k.1.length+k.2.length
theorem bV7(t:den B2)(k:Db)(s:den B9):kN (H0 t k s)=kN k+1:=by
 unfold H0 kN;cases qH t s.2.2==(2:Int)<;>simp<;>omega
def KH(n:Nat)(k:Db):Prop:=(∀s∈k.1,s.2.2.length<=n)/\ ∀s∈k.2,s.2.2.length<=n
theorem bVj{t:den B2}{k:Db}{s:den B9}{n:Nat}(h:KH n k)(hs:s.2.2.length<=n):KH n (H0 t k s):=by
 unfold H0;cases qH t s.2.2==(2:Int)
 .refine⟨h.1,λx hx=> ?_⟩;rcases C0.1 hx with hx | hx
  .exact h.2 x hx
  .rw[Cy.1 hx];exact hs
 .refine⟨λx hx=> ?_,h.2⟩;rcases C0.1 hx with hx | hx
  .exact h.1 x hx
  .rw[Cy.1 hx];exact hs
theorem cBf{t:den B2}{k:Db}{s:den B9}(ht:eU t)(hk:kN k<=1000000)(hs:s.2.2.length<=1000000):dP k t s=U (H0 t k s):=by
 unfold kN at hk;unfold dP H0 A1 A6;simp only[aD,Xb ht hs,aA,aC (b:=40) (n:=k.1.length) (m:=1) (by decide) (by omega),aC (b:=40) (n:=k.2.length) (m:=1) (by decide) (by omega),zZ];cases qH t s.2.2==(2:Int)<;>rfl
def Fj(t:den B2)(l:dF)(r:Int)(k:Db)(g:den fM):Db:=
 cond (Fh t (cE l r) g.2 r g.1).2.2.1 (H0 t k ((Fh t (cE l r) g.2 r g.1).1,(Fh t (cE l r) g.2 r g.1).2.1,(Fh t (cE l r) g.2 r g.1).2.2.2)) k
theorem WA{t:den B2}{p:den cJ}{s:den B9}(h:s.2.2.length<=9)(r inn:Int):(Fh t p s r inn).2.2.2.length<=10:=by
 unfold Fh;cases DE t s r inn&&vF p s.2.2 0
 .exact B5 h (by decide)
 .show (s.2.2++[_]).length<=10;rw[C7,IF];omega
theorem XG(t:den B2)(l:dF)(r:Int)(k:Db)(g:den fM):kN (Fj t l r k g)<=kN k+1:=by
 unfold Fj;cases (Fh t (cE l r) g.2 r g.1).2.2.1
 .exact Et _
 .exact Nat.le_of_eq (bV7 t k _)
theorem XH{t:den B2}{l:dF}{r:Int}{k:Db}{g:den fM}(h:KH 10 k)(hg:g.2.2.2.length<=9):KH 10 (Fj t l r k g):=by
 unfold Fj;cases (Fh t (cE l r) g.2 r g.1).2.2.1
 .exact h
 .exact bVj h (WA hg r g.1)
theorem bUg{t:den B2}{l:dF}{b:den hP}(ht:eU t)(hl:l.length<=1000000)(hb:b.2.length<=8)(h:tD b.2):∃k:Db,cM t l b=U (k.1,k.2,l)/\dM t l b=U (k.1,k.2)/\kN k<=96/\KH 10 k:=by
 have inner:∀(r:Int) (m:bX),m.length<=12->FM m-> ∀k:Db,kN k<=100000->KH 10 k->kN (m.foldl (Fj t l r) k)<=kN k+12/\KH 10 (m.foldl (Fj t l r) k):=by
  intro r m hm hN k hk hh;have key:∀(m:bX) (k:Db),FM m->KH 10 k->kN (m.foldl (Fj t l r) k)<=kN k+m.length/\KH 10 (m.foldl (Fj t l r) k):=by
   intro m
   induction m with
   | nil=>intro k _ hk;exact⟨Cz _,hk⟩
   | cons g m ih=>
    intro k hm hk;obtain⟨a,c⟩:=ih (Fj t l r k g) (λx hx=>hm x (C1 _ hx)) (XH hk (hm g (by simp)));have :=XG t l r k g;rw[C6];exact⟨by rw[EX];omega,c⟩
  obtain⟨a,c⟩:=key m k hN hh;exact⟨by omega,c⟩
 obtain⟨k,e1,e2,e3⟩:=cDc b.2.length (λn (k:Db)=>((n:Int),k.1,k.2)) (λn (k:Db)=>((n:Int),k.1,k.2)) (λk=>(k.1,k.2)) (λk=>(k.1,k.2)) (λn k=>kN k<=12 * n/\KH 10 k)
  (fI:=λ(s24:Int×q26)=>cond (D (s24.1<(b.2.length:Int))) (@Option.bind q26 ((Int×q26)⊕q26) (Option.bind (idx b.2 s24.1) λx25=> @aB (Int×q26) q26 (λ(s36:Int×q26)=>cond (D (s36.1<(x25.length:Int))) (@Option.bind q26 ((Int×q26)⊕q26) (Option.bind (idx x25 s36.1) λx37=> @Option.bind (Bool×q41) q26 (Option.bind (kX l s24.1) λy41=>Option.bind (rE (t.1,t.2) (y41.1,y41.2.1,y41.2.2.1,y41.2.2.2) (x37.2.1,x37.2.2.1,x37.2.2.2) s24.1 x37.1) λy42=>U (y42.2.2.1,y42.1,y42.2.1,y42.2.2.2)) λ(s43:Bool×q41)=>cond s43.1 (Option.bind (dP (s36.2.1,s36.2.2) (t.1,t.2) (s43.2.1,s43.2.2.1,s43.2.2.2)) λy44=>U (y44.1,y44.2)) (U (s36.2.1,s36.2.2))) λ(s45:Co×Co)=>U (A7 (wr (s36.1+(1:Int)),s45.1,s45.2))) (U (A2 (s36.2.1,s36.2.2)))) ((0:Int),s24.2.1,s24.2.2)) λ(s46:Co×Co)=>U (A7 (wr (s24.1+(1:Int)),s46.1,s46.2))) (U (A2 (s24.2.1,s24.2.2))))
  (fS:=λ(s27:Int×q26)=>cond (D (s27.1<(b.2.length:Int))) (@Option.bind q26 ((Int×q26)⊕q26) (@aB (Int×q26) q26 (λ(s40:Int×q26)=>Option.bind (idx b.2 s27.1) λx41=>cond (D (s40.1<(x41.length:Int))) (@Option.bind q26 ((Int×q26)⊕q26) (Option.bind (idx b.2 s27.1) λx42=>Option.bind (idx x42 s40.1) λx43=> @Option.bind (Bool×q41) q26 (Option.bind (lA l s27.1) λy47=>Option.bind (rZ (t.1,t.2) (y47.1,y47.2.1,y47.2.2.1,y47.2.2.2) (x43.2.1,x43.2.2.1,x43.2.2.2) s27.1 x43.1) λy48=>U (y48.2.2.1,y48.1,y48.2.1,y48.2.2.2)) λ(s49:Bool×q41)=>cond (!s49.1) (U (s40.2.1,s40.2.2)) (Option.bind (fN (t.1,t.2) (s49.2.1,s49.2.2.1,s49.2.2.2)) λy50=>cond (y50==(2:Int)) (cond (aF 40 s40.2.1.length 1) (U (s40.2.1++[(s49.2.1,s49.2.2.1,s49.2.2.2)],s40.2.2)) W) (cond (aF 40 s40.2.2.length 1) (U (s40.2.1,s40.2.2++[(s49.2.1,s49.2.2.1,s49.2.2.2)])) W))) λ(s51:Co×Co)=>U (A7 (wr (s40.1+(1:Int)),s51.1,s51.2))) (U (A2 (s40.2.1,s40.2.2)))) ((0:Int),s27.2.1,s27.2.2)) λ(s52:Co×Co)=>U (A7 (wr (s27.1+(1:Int)),s52.1,s52.2))) (U (A2 (s27.2.1,s27.2.2))))
  (λn k hn hI=>by
   have hx:b.2[n]? =U b.2[n]:=Cs hn;obtain⟨h1,h2⟩:=h _ (Cm hx);generalize b.2[n]=m at *;obtain⟨q1,q2⟩:=inner (n:Int) m h1 h2 k (by have :=hI.1;omega) hI.2;have hd:D ((n:Int)<(b.2.length:Int))=X:=zX (by omega);have hw:wr ((n:Int)+1)=((n+1:Nat):Int):=Lo (by omega);have hk:=hI.1;refine⟨m.foldl (Fj t l (n:Int)) k,?_,?_,by omega,q2⟩
   .simp only[hd,zZ,aQ,hx,aA,aD,hw];rw[(KP (l:=m) (Fj t l (n:Int)) (λj (a:Db)=>kN a<=12 * n+j/\KH 10 a) (a0:=k) (out:=λa=>(a.1,a.2)) (by omega) ⟨by omega,hI.2⟩ (λj g (a:Db) hi hd' hw' hm hj hJ=>by
     have hg:=h2 g hm;refine⟨?_,by have :=XG t l (n:Int) a g;omega,XH hJ.2 hg⟩;have hs:=WA (t:=t) (p:=cE l (n:Int)) (s:=g.2) hg (n:Int) g.1;have et:rE t (cE l (n:Int)) g.2 (n:Int) g.1=U _:=cJz ht (by omega) (n:Int) g.1;unfold Fj;simp only[hd',zZ,hi,aA,aD,WW hl,et,hw'];generalize Fh t (cE l (n:Int)) g.2 (n:Int) g.1=x at *;have ep:dP a t (x.1,x.2.1,x.2.2.2)=U (H0 t a (x.1,x.2.1,x.2.2.2)):=cBf ht (by omega) (by show x.2.2.2.length<=_;omega);cases x.2.2.1 with
     | false=>rfl
     | true=>simp only[zZ,ep,aA]) (λa=>by simp)).1]
    rfl
   .simp only[hd,zZ,aQ,hx,aA,aD,hw];rw[(KP (l:=m) (Fj t l (n:Int)) (λj (a:Db)=>kN a<=12 * n+j/\KH 10 a) (a0:=k) (out:=λa=>(a.1,a.2)) (by omega) ⟨by omega,hI.2⟩ (λj g (a:Db) hi hd' hw' hm hj hJ=>by
     have hg:=h2 g hm;refine⟨?_,by have :=XG t l (n:Int) a g;omega,XH hJ.2 hg⟩;have hs:=WA (t:=t) (p:=cE l (n:Int)) (s:=g.2) hg (n:Int) g.1;have et:rZ t (cE l (n:Int)) g.2 (n:Int) g.1=U _:=cKi ht (by omega) (n:Int) g.1;have ha:=hJ.1;unfold kN at ha;unfold Fj;simp only[hd',zZ,hi,aA,aD,WC hl,et,hw'];generalize Fh t (cE l (n:Int)) g.2 (n:Int) g.1=x at *;have ek:fN t (x.1,x.2.1,x.2.2.2)=U (qH t x.2.2.2):=SB ht (by show x.2.2.2.length<=_;omega);cases x.2.2.1 with
     | false=>rfl
     | true=>
      simp only[BZ,zY,zZ,ek,aA,aC (b:=40) (n:=a.1.length) (m:=1) (by decide) (by omega),aC (b:=40) (n:=a.2.length) (m:=1) (by decide) (by omega)];unfold H0;cases qH t x.2.2.2==(2:Int)<;>rfl) (λa=>by simp)).1]
    rfl) (λk hI=>by simp) ([],[]) ⟨by decide,λs hs=>(Dl hs).elim,λs hs=>(Dl hs).elim⟩
 refine⟨k,?_,?_,by have :=e3.1;omega,e3.2⟩
 .unfold cM A1 A6 B6;simp only[bB,cB,bL,bJ,bO];exact (congrArg (λo=>Option.bind o _) e1).trans rfl
 .unfold dM A1 A6 B6;simp only[bB,cB,bL,bJ,bO];exact (congrArg (λo=>Option.bind o _) e2).trans rfl
noncomputable def JZ(k:Db)(s:den B9):Bool:=(k.1.any λx=>nW x s)||k.2.any λx=>nW x s
theorem bLc{l:Co}{s:den B9}(hl:l.length<=1000000)(h:∀x∈l,x.2.2.length<=10)(hs:s.2.2.length<=10):uH l s=U (l.any λx=>nW x s):=by
 unfold uH A6;rw[aM (l:=l) (λ_ (x:den B9)=>if nW x s then U X else W) (by omega) (λk x hi hd hw hm hk=>by
  simp only[hd,hi,hw,zZ,aA,aD,bL6 (Kd (B5 (h x hm) (by decide))) (Kd (B5 hs (by decide)))];cases nW x s<;>rfl) (by simp),M6 (λx:den B9=>nW x s)]
 cases l.any λx=>nW x s<;>rfl
theorem bMb{l:Co}{s:den B9}(hl:l.length<=1000000)(h:∀x∈l,x.2.2.length<=10)(hs:s.2.2.length<=10):Jr l s=U (l.any λx=>nW x s):=by
 unfold Jr A6;rw[aM (l:=l) (λ_ (x:den B9)=>if nW x s then U X else W) (by omega) (λk x hi hd hw hm hk=>by
  simp only[hd,hi,hw,zZ,aA,aD,bMs (Kd (B5 (h x hm) (by decide))) (Kd (B5 hs (by decide)))];cases nW x s<;>rfl) (by simp),M6 (λx:den B9=>nW x s)]
 cases l.any λx=>nW x s<;>rfl
noncomputable def Hw(t:den B2)(k:Db)(s:den B9):Db:=cond (yN t s&&(He s.2.2&& !JZ k s)) (H0 t k s) k
theorem Ju{l:Co}(hl:l.length<=1000000)(h:∀x∈l,x.2.2.length<=10):Cc 549755813888 (.sl B9) l:=⟨by omega,λx hx=>Kd (B5 (h x hx) (by decide))⟩
theorem cKu{t:den B2}{k:Db}{s:den B9}(ht:eU t)(hk:kN k<=100000)(hh:KH 10 k)(hs:s.2.2.length<=10):uO t k s=U (Hw t k s):=by
 have hk':=hk;unfold kN at hk';have e1:=MB (Ju (l:=k.1) (by omega) hh.1);have e2:=MB (Ju (l:=k.2) (by omega) hh.2);have e3:wZ k s=U (JZ k s):=by
  unfold wZ JZ A6;simp only[aD,bLc (l:=k.1) (by omega) hh.1 hs,bLc (l:=k.2) (by omega) hh.2 hs,aA];cases k.1.any λx=>nW x s<;>rfl
 unfold uO Hw A1 A6;simp only[bB,cB,bL,bJ,bO,e1,e2,e3,aA,aD,bHy ht (show s.2.2.length<=1000000 by omega),bL9 (show s.2.2.length<=1000000 by omega),Lf (show s.2.2.length<=549755813888 by omega),cBf ht (B5 hk (by decide)) (show s.2.2.length<=1000000 by omega)];cases yN t s<;>cases He s.2.2<;>cases JZ k s<;>rfl
theorem bVo{t:den B2}{k:Db}{s:den B9}(ht:eU t)(hk:kN k<=100000)(hh:KH 10 k)(hs:s.2.2.length<=10):oN t k s=U (Hw t k s):=by
 have hk':=hk;unfold kN at hk';have e1:=Ob (Ju (l:=k.1) (by omega) hh.1);have e2:=Ob (Ju (l:=k.2) (by omega) hh.2);have e3:xI k s=U (JZ k s):=by
  unfold xI JZ A6;simp only[aD,bMb (l:=k.1) (by omega) hh.1 hs,bMb (l:=k.2) (by omega) hh.2 hs,aA];cases k.1.any λx=>nW x s<;>rfl
 unfold oN Hw H0 A1 A6;simp only[bB,cB,bL,bJ,bO,e1,e2,e3,aA,aD,bJ2 ht (show s.2.2.length<=1000000 by omega),WM (show s.2.2.length<=1000000 by omega),Jx (show s.2.2.length<=549755813888 by omega),SB ht (show s.2.2.length<=1000000 by omega),aC (b:=40) (n:=k.1.length) (m:=1) (by decide) (by omega),aC (b:=40) (n:=k.2.length) (m:=1) (by decide) (by omega),zZ];cases yN t s<;>cases He s.2.2<;>cases JZ k s<;>first | rfl | (cases qH t s.2.2==(2:Int)<;>rfl)
theorem To(t:den B2)(k:Db)(s:den B9):kN (Hw t k s)<=kN k+1:=by
 unfold Hw;cases yN t s&&(He s.2.2&& !JZ k s)
 .exact Et _
 .exact Nat.le_of_eq (bV7 t k s)
theorem cKd{t:den B2}{k:Db}{s:den B9}(h:KH 8 k):KH 8 (Hw t k s):=by
 unfold Hw;cases c:yN t s&&(He s.2.2&& !JZ k s)
 .exact h
 .rw[Ck]at c;exact bVj h (RL c.1).2
theorem KH.mono{n m:Nat}{k:Db}(h:KH n k)(hm:n<=m):KH m k:=⟨λs hs=>B5 (h.1 s hs) hm,λs hs=>B5 (h.2 s hs) hm⟩
def FU(n:Int):Int:=IntKind.wrap .u8 (wr ((48:Int)+cond (D (CM n 10<(0:Int))) (wr (0 - CM n 10)) (CM n 10)))
def sE:Nat->Int->List Int->List Int
 | 0,_,a=>a
 | k+1,n,a=>cond (wr (CQ n 10)==(0:Int)) ([FU n]++a) (sE k (wr (CQ n 10)) ([FU n]++a))
theorem bWb(n:Int): -9223372036854775808<=wr n/\wr n<=9223372036854775807:=by
 show -9223372036854775808<=IntKind.i64.wrap n/\IntKind.i64.wrap n<=9223372036854775807;simp only[IntKind.wrap,IntKind.signed,IntKind.bits];simp;omega
theorem cIe(n:Int):(wr n).natAbs<=n.natAbs:=by
 by_cases h: -9223372036854775808<=n/\n<=9223372036854775807
 .rw[show wr n=n from wri h.1 h.2];exact Cz _
 .have :=bWb n;omega
theorem Sr{n:Int}{k:Nat}(h:n.natAbs<10 ^ (k+1)):(wr (CQ n 10)).natAbs<10 ^ k:=by
 have h1:=cIe (CQ n 10);have h2:(CQ n 10).natAbs=n.natAbs / 10:=Int.natAbs_tdiv n 10;rw[Nat.pow_succ]at h;omega
theorem V4:∀(k:Nat) (n:Int) (a:List Int),(sE k n a).length<=a.length+k
 | 0,_,_=>Cz _
 | k+1,n,a=>by
  unfold sE;cases wr (CQ n 10)==(0:Int) with
  | true=>simp
  | false=>
   have :=V4 k (wr (CQ n 10)) ([FU n]++a);rw[C7,IF]at this;show (sE k _ _).length<=_;omega
theorem bSj(a b:List Int):eW a++eW b=eW (a++b):=by
 unfold eW LL;rw[IG];apply ByteArray.ext;simp
theorem PM(a:List Int):(eW a).size=a.length:=by
 unfold eW LL;simp[ByteArray.size]
theorem T1{n:Nat}(h:n<=4000000000000):D (n<=maxLen)=X:=zX (by simp only[maxLen];omega)
theorem bT4{step:Int×List Int->Option ((Int×List Int)⊕List Int)}(h:∀(n:Int) (a:List Int),a.length<=1000->step (n,a)=U (cond (wr (CQ n 10)==(0:Int)) (.inr ([FU n]++a)) (.inl (wr (CQ n 10),[FU n]++a)))):∀(k:Nat) (n:Int) (a:List Int),n.natAbs<10 ^ (k+1)->a.length+k<=1000->aB step (n,a)=U (sE (k+1) n a)
 | 0,n,a,hn,ha=>by
  have hq:wr (CQ n 10)=0:=by
   have :=Sr (k:=0) hn;omega
  have hs:=h n a (by omega);unfold sE;rw[hq]at hs ⊢;exact aH hs
 | k+1,n,a,hn,ha=>by
  have hs:=h n a (by omega);unfold sE;cases c:wr (CQ n 10)==(0:Int) with
  | true=>rw[c]at hs;exact aH hs
  | false=>
   rw[c]at hs;rw[aO hs];exact bT4 h k _ _ (Sr hn) (by simp;omega)
theorem bTs{step:ByteArray×Int->Option (q35⊕ByteArray)}(h0:∀s,step (s,0)=U (.inr s))(h:∀(n:Int) (a:List Int),a.length<=1000->(n==(0:Int))=Y->step (eW a,n)=U (.inl (eW ([FU n]++a),wr (CQ n 10)))):∀(k:Nat) (n:Int) (a:List Int),n.natAbs<10 ^ (k+1)->a.length+k<=1000->(n==(0:Int))=Y->aB step (eW a,n)=U (eW (sE (k+1) n a))
 | 0,n,a,hn,ha,hz=>by
  have hq:wr (CQ n 10)=0:=by
   have :=Sr (k:=0) hn;omega
  have hs:=h n a (by omega) hz;unfold sE;rw[hq]at hs ⊢;rw[aO hs];exact aH (h0 _)
 | k+1,n,a,hn,ha,hz=>by
  have hs:=h n a (by omega) hz;unfold sE;rw[aO hs];cases c:wr (CQ n 10)==(0:Int) with
  | true=>rw[eq_of_beq c];exact aH (h0 _)
  | false=>exact bTs h0 h k _ _ (Sr hn) (by simp;omega) c
def eJ(n:Int):ByteArray:=cond (D (n<(0:Int))) (Ac++eW (sE 22 n [])) (eW (sE 22 n []))
theorem cD4(n:Int):(wr (CQ n 10)).natAbs<10 ^ (20+1):=by
 have :=bWb (CQ n 10);have :(wr (CQ n 10)).natAbs<=9223372036854775808:=by omega
 exact Nat.lt_of_le_of_lt this (by decide)
theorem cJg{step:Int×List Int->Option ((Int×List Int)⊕List Int)}(h:∀(n:Int) (a:List Int),a.length<=1000->step (n,a)=U (cond (wr (CQ n 10)==(0:Int)) (.inr ([FU n]++a)) (.inl (wr (CQ n 10),[FU n]++a))))(n:Int):aB step (n,[])=U (sE 22 n []):=by
 have hs:=h n [] (by simp);unfold sE;cases c:wr (CQ n 10)==(0:Int) with
 | true=>rw[c]at hs;exact aH hs
 | false=>
  rw[c]at hs;rw[aO hs];exact bT4 h 20 _ _ (cD4 n) (by simp)
theorem cH5{step:ByteArray×Int->Option (q35⊕ByteArray)}(h0:∀s,step (s,0)=U (.inr s))(h:∀(n:Int) (a:List Int),a.length<=1000->(n==(0:Int))=Y->step (eW a,n)=U (.inl (eW ([FU n]++a),wr (CQ n 10)))){n:Int}(hz:(n==(0:Int))=Y):aB step (Aa,n)=U (eW (sE 22 n [])):=by
 have hs:step (Aa,n)=_:=h n [] (by simp) hz;unfold sE;rw[aO hs];cases c:wr (CQ n 10)==(0:Int) with
 | true=>rw[eq_of_beq c];exact aH (h0 _)
 | false=>exact bTs h0 h 20 _ _ (cD4 n) (by simp) c
theorem bNi(n:Int):D (Ac.size+(eW (sE 22 n [])).size<=maxLen)=X:=by
 have hl:=V4 22 n [];have hsz:=PM (sE 22 n []);simp only[CE]at hl;exact T1 (by rw[hsz];show 1+_<=_;omega)
theorem L1(n:Int):dU n=U (eJ n):=by
 unfold dU eJ;rw[cJg (λn a ha=>by
  unfold FU;cases D (CM n 10<(0:Int))<;>simp only[zZ,zY,aA]<;>rw[aC (b:=1) (m:=a.length) (by decide) (by simp;omega)]<;>cases wr (CQ n 10)==(0:Int)<;>rfl) n,aA,bNi]
 cases D (n<(0:Int))<;>rfl
theorem JG(n:Int):cQ n=U (eJ n):=by
 unfold cQ;cases hz:n==(0:Int) with
 | true=>rw[eq_of_beq hz];rfl
 | false=>
  unfold eJ;rw[cH5 (λs=>rfl) (λn a ha hz=>by
   have hne:(n != (0:Int))=X:=by rw[kM,hz];rfl
   unfold FU;simp only[hne,zZ];cases D (CM n 10<(0:Int))<;>simp only[zZ,zY,aA,bSj,PM]<;>rw[T1 (by simp;omega)]<;>rfl) hz,zY,aA,bNi]
  cases D (n<(0:Int))<;>rfl
theorem iR(n:Int):(eJ n).size<=30:=by
 have hl:=V4 22 n [];have hsz:=PM (sE 22 n []);simp at hl;unfold eJ;cases D (n<(0:Int)) with
 | false=>show (eW _).size<=30;omega
 | true=>
  show (Ac++eW _).size<=30;rw[ByteArray.size_append];show 1+_<=30;omega
theorem cLu(bs:ByteArray):∀(n i:Nat) (r:List UInt8),n+i=bs.size->ByteArray.toList.loop bs i r=r.reverse++bs.data.toList.drop i:=by
 intro n
 induction n with
 | zero=>
  intro i r h;unfold ByteArray.toList.loop;rw[zS (by omega),List.drop_of_length_le (by rw[N9];show bs.size<=i;omega),CU]
 | succ n ih=>
  intro i r h;unfold ByteArray.toList.loop;rw[zT (by omega),ih (i+1) _ (by omega)];have hi:i<bs.data.toList.length:=by rw[N9];show i<bs.size;omega
  rw[List.drop_eq_getElem_cons hi,List.reverse_cons,CY];congr 2;simp[ByteArray.get!];rw[getElem!_pos bs.data i (by rw[<- N9];exact hi)]
theorem bl(bs:ByteArray):bs.toList=bs.data.toList:=by
 unfold ByteArray.toList;rw[cLu bs bs.size 0 [] (by omega)];simp
theorem nN(s:ByteArray):s.data.toList.length=s.size:=by simp
theorem aZ2(s:ByteArray):(s.toList==Aa.toList)=D (s.size=0):=by
 rw[bl,bl,CG,beq_iff_eq,zR,<- nN];exact List.length_eq_zero_iff.symm
def JR(x:UInt8)(a:Int):Int⊕(Int⊕q23):=cond (B3 (x.toNat:Int) 48 57) (.inl (wr (wr ((10:Int) * a)+wr (IntKind.wrap .u8 ((x.toNat:Int) - (48:Int)))))) (.inr (.inr (0,Y)))
def Mi(s:ByteArray):Int⊕q23:=DV (λ_ x a=>JR x a) A7 0 s.data.toList 0
def N2(s:ByteArray)(n:Int):q23:=cond (D (n>(1000000000000:Int))|| !((eJ n).toList==s.toList)) (0,Y) (n,X)
def G8(s:ByteArray):q23:=cond (B3 (s.size:Int) 1 13) ((Mi s).elim (N2 s) id) (0,Y)
theorem bS6(s:ByteArray):wO s=U (G8 s):=by
 unfold wO G8;have e0: @Option.bind Bool Bool (cond (s.toList==Aa.toList) (U X) (U (D ((s.size:Int)>(13:Int))))) U=U (!B3 (s.size:Int) 1 13):=by
  rw[aZ2];unfold B3
  by_cases h:s.size=0
  .rw[zX h,h];rfl
  .rw[zW h,zX (show (1:Int)<=(s.size:Int) by omega)]
   by_cases h2:(s.size:Int)>13
   .rw[zX h2,zW (show ¬ (s.size:Int)<=13 by omega)];rfl
   .rw[zW h2,zX (show (s.size:Int)<=13 by omega)];rfl
 have e0:cond (s.toList==Aa.toList) (U X) (U (D ((s.size:Int)>(13:Int))))=U (!B3 (s.size:Int) 1 13):=by
  rw[<- e0];cases s.toList==Aa.toList<;>rfl
 rw[e0,aA];cases c:B3 (s.size:Int) 1 13 with
 | false=>rfl
 | true=>
  have hs:=bQ.1 c;rw[Hi (λk (a:Int)=>(a,(k:Int))) ((0:Int),(0:Int)) 0 s.data.toList (λ_ x a=>JR x a) (λ_ _=>True) A7 rfl (by rw[nN];omega) trivial (λk x a hi hx hd hw hk _=>by
   refine⟨?_,λ_ _=>trivial⟩;rw[nN]at hd;simp only[hd,zZ,hi,aA,hw];unfold JR B3
   by_cases c1:(x.toNat:Int)<48
   .rw[zX c1,zW (show ¬ (48:Int)<=(x.toNat:Int) by omega)];rfl
   .rw[zW c1,zX (show (48:Int)<=(x.toNat:Int) by omega)]
    by_cases c2:(x.toNat:Int)>57
    .rw[zX c2,zW (show ¬ (x.toNat:Int)<=57 by omega)];rfl
    .rw[zW c2,zX (show (x.toNat:Int)<=57 by omega)];rfl) (λa _=>by rw[nN];simp)]
  show Option.bind (U (Mi s)) _=U (Cd (N2 s) id (Mi s));cases Mi s with
  | inr r=>rfl
  | inl n=>
   simp only[aA,Ea,L1];unfold N2;cases D (n>(1000000000000:Int))<;>cases (eJ n).toList==s.toList<;>rfl
theorem bSt(s:ByteArray):wH s=U (G8 s):=by
 unfold wH G8;rw[fC,aA];cases c:B3 (s.size:Int) 1 13 with
 | false=>rfl
 | true=>
  have hs:=bQ.1 c;rw[Hi (λk (a:Int)=>(a,(k:Int))) ((0:Int),(0:Int)) 0 s.data.toList (λ_ x a=>JR x a) (λ_ _=>True) A7 rfl (by rw[nN];omega) trivial (λk x a hi hx hd hw hk _=>by
   refine⟨?_,λ_ _=>trivial⟩;rw[nN]at hd;have hx':=x.toNat_lt;rw[hd];simp only[zZ,hi,aA,hw,fC,show wr (x.toNat:Int)=(x.toNat:Int) from wri (by omega) (by omega)];unfold JR;cases B3 (x.toNat:Int) 48 57<;>rfl) (λa _=>by rw[nN];simp)]
  show Option.bind (U (Mi s)) _=U (Cd (N2 s) id (Mi s));cases Mi s with
  | inr r=>rfl
  | inl n=>
   simp only[aA,Ea,JG];unfold N2;cases D (n>(1000000000000:Int))<;>cases (eJ n).toList==s.toList<;>rfl
theorem bHl:∀(l:List UInt8) (k j:Nat) (a n:Int),0<=a->a<10 ^ j->j+l.length<=13->DV (λ_ x a=>JR x a) A7 k l a=(A7 n:Int⊕q23)->0<=n
 | [],_,_,a,n,h0,_,_,h=>by injection h with h;omega
 | x::l,k,j,a,n,h0,h1,hl,h=>by
  unfold DV at h;simp only[JR]at h;rw[C6]at hl;cases c:B3 (x.toNat:Int) 48 57 with
  | false=>rw[c]at h;cases h
  | true=>
   rw[c]at h;obtain⟨g0,g1⟩:=bQ.1 c;have hj:(10:Int) ^ j<=10 ^ 13:=by
    have :=Nat.pow_le_pow_right (show 0<10 by decide) (show j<=13 by omega)
    exact_mod_cast this
   have hj:(10:Int) ^ j<=10000000000000:=hj;have e1:wr ((10:Int) * a)=10 * a:=wri (by omega) (by omega);have e2:IntKind.wrap .u8 ((x.toNat:Int) - 48)=(x.toNat:Int) - 48:=by
    simp only[IntKind.wrap,IntKind.signed,IntKind.bits];simp;omega
   have e3:wr ((x.toNat:Int) - 48)=(x.toNat:Int) - 48:=wri (by omega) (by omega);have e4:wr (10 * a+((x.toNat:Int) - 48))=10 * a+((x.toNat:Int) - 48):=wri (by omega) (by omega);rw[e1,e2,e3,e4]at h;refine bHl l (k+1) (j+1) _ n (by omega) ?_ (by omega) h;rw[Int.pow_succ];omega
theorem bYt{s:ByteArray}{n:Int}(h:G8 s=(n,X)):0<=n/\n<=1000000000000:=by
 unfold G8 at h;cases c:B3 (s.size:Int) 1 13 with
 | false=>rw[c]at h;cases h
 | true=>
  rw[c]at h;have hs:=bQ.1 c;cases c2:Mi s with
  | inr r=>
   exfalso;rw[c2]at h;have h:r=(n,X):=h;have key:∀(l:List UInt8) (k:Nat) (a:Int),DV (λ_ x a=>JR x a) A7 k l a=(A2 r:Int⊕q23)->r=(0,Y):=by
    intro l
    induction l with
    | nil=>intro k a h;cases h
    | cons x l ih=>
     intro k a h;unfold DV at h;simp only[JR]at h;cases c:B3 (x.toNat:Int) 48 57 with
     | false=>rw[c]at h;injection h with h;exact h.symm
     | true=>rw[c]at h;exact ih _ _ h
   have :=key _ _ _ c2;rw[this]at h;injection h with _ h;cases h
  | inl m=>
   rw[c2]at h;have h:N2 s m=(n,X):=h;have h0:=bHl s.data.toList 0 0 0 m (by decide) (by decide) (by rw[nN];omega) c2;unfold N2 at h;cases c3:D (m>(1000000000000:Int)) with
   | true=>rw[c3]at h;cases h
   | false=>
    rw[c3]at h;have hm:=of_decide_eq_false c3;cases c4:(eJ m).toList==s.toList with
    | false=>rw[c4]at h;cases h
    | true=>
     rw[c4]at h;injection h with h _;omega
def oH(b:Int):List UInt8->List UInt8->List (List UInt8)
 | cur,[]=>[cur]
 | cur,x::xs=>cond ((x.toNat:Int)==b) (cur::oH b [] xs) (oH b (cur++[x]) xs)
def mkS(l:List UInt8):ByteArray:=⟨l.toArray⟩
theorem bZ6(l:List UInt8):(mkS l).size=l.length:=by simp[mkS,ByteArray.size]
theorem bX0(l:List UInt8):(mkS l).data.toList=l:=by simp[mkS]
def gH(s:ByteArray)(b:Int):List ByteArray:=(oH b [] s.data.toList).map mkS
theorem WX(b:Int):∀(l cur:List UInt8),0<(oH b cur l).length
 | [],_=>by simp[oH]
 | x::l,cur=>by
  unfold oH;cases (x.toNat:Int)==b with
  | true=>simp
  | false=>exact WX b l (cur++[x])
theorem S8(b:Int):∀(l cur:List UInt8),((oH b cur l).map λx=>x.length+1).sum=cur.length+l.length+1
 | [],cur=>by simp[oH]
 | x::l,cur=>by
  unfold oH;cases (x.toNat:Int)==b with
  | true=>
   have :=S8 b l [];simp only[zZ,CA,D6,C6,CE]at this ⊢;omega
  | false=>
   have :=S8 b l (cur++[x]);simp only[zY,C7,C6,CE]at this ⊢;omega
theorem Xd(b:Int):∀(l cur:List UInt8),(∀x∈cur,((x.toNat:Int)==b)=Y)-> ∀p∈oH b cur l,∀x∈p,((x.toNat:Int)==b)=Y
 | [],cur,h,p,hp=>by
  have :p=cur:=by simpa [oH] using hp
  rw[this];exact h
 | x::l,cur,h,p,hp=>by
  unfold oH at hp;cases c:(x.toNat:Int)==b with
  | true=>
   rw[c]at hp;rcases List.mem_cons.1 hp with rfl | hp
   .exact h
   .exact Xd b l [] (λy hy=>(Dl hy).elim) p hp
  | false=>
   rw[c]at hp;refine Xd b l (cur++[x]) (λy hy=> ?_) p hp;rcases C0.1 hy with hy | hy
   .exact h y hy
   .rw[Cy.1 hy];exact c
theorem aY4:∀(l:List (List UInt8)),l.length<=(l.map λx=>x.length+1).sum
 | []=>Cz _
 | x::l=>by
  have :=aY4 l;simp only[CA,D6,C6];omega
theorem NY(s:ByteArray)(b:Int):0<(gH s b).length/\(gH s b).length<=s.size+1:=by
 unfold gH;rw[CF];refine⟨WX b _ _,?_⟩;have h1:=S8 b s.data.toList [];have h2:=aY4 (oH b [] s.data.toList);rw[nN]at h1;simp only[CE]at h1;omega
theorem NT{s x:ByteArray}{b:Int}(h:x∈gH s b):x.size<=s.size:=by
 obtain⟨p,hp,rfl⟩:=Ch.1 h;rw[bZ6];have h1:=S8 b s.data.toList [];have h2:=SW (f:=λx:List UInt8=>x.length+1) hp;rw[nN]at h1;simp only[CE]at h1;omega
theorem bAg{s:ByteArray}{d c r:List UInt8}(h:s.data.toList=d++c++r):s.extract d.length (d.length+c.length)=mkS c:=by
 apply ByteArray.ext;apply Array.ext';rw[ByteArray.data_extract,Array.toList_extract,h];simp[mkS]
theorem bYq{s:ByteArray}{b:Int}{step:Int×Int×List ByteArray->Option ((Int×Int×List ByteArray)⊕List ByteArray)}(h1:∀(f i:Nat) (out:List ByteArray),i<s.size->f<=i->out.length<=i->step ((f:Int),(i:Int),out)=Option.bind s.data.toList[i]? λx=>U (.inl (cond ((x.toNat:Int)==b) (((i+1:Nat):Int),((i+1:Nat):Int),out++[s.extract f i]) ((f:Int),((i+1:Nat):Int),out))))
  (h2:∀(f:Nat) (out:List ByteArray),f<=s.size->out.length<=s.size->step ((f:Int),(s.size:Int),out)=U (.inl (((s.size+1:Nat):Int),((s.size+1:Nat):Int),out++[s.extract f s.size])))
  (h3:∀(f:Int) (out:List ByteArray),step (f,((s.size+1:Nat):Int),out)=U (.inr out)):aB step ((0:Int),(0:Int),[])=U (gH s b):=by
 have key:∀(rest d c:List UInt8) (out:List ByteArray),s.data.toList=d++c++rest->out.length<=d.length->aB step ((d.length:Int),((d.length+c.length:Nat):Int),out)=U (out++(oH b c rest).map mkS):=by
  intro rest
  induction rest with
  | nil=>
   intro d c out hd ho;have hn:d.length+c.length=s.size:=by rw[<- nN s,hd];simp
   rw[hn,aO (h2 d.length out (by omega) (by omega))];rw[aH (h3 _ _)];rw[<- hn,bAg (r:=[]) hd];rfl
  | cons x rest ih=>
   intro d c out hd ho;have hlt:d.length+c.length<s.size:=by rw[<- nN s,hd];simp
   have hx:s.data.toList[d.length+c.length]? =U x:=by rw[hd,CY,Z9 (by omega),Z9 (by omega)];simp
   have hs:=h1 d.length (d.length+c.length) out hlt (by omega) (by omega);rw[hx,aA]at hs;unfold oH;cases e:(x.toNat:Int)==b with
   | true=>
    rw[e,zZ]at hs;rw[aO hs,zZ];have hd':s.data.toList=(d++c++[x])++[]++rest:=by rw[hd];simp
    have :=ih (d++c++[x]) [] (out++[s.extract d.length (d.length+c.length)]) hd' (by simp;omega);rw[bAg hd]at this ⊢;have hl:(d++c++[x]).length=d.length+c.length+1:=by simp;omega
    rw[hl]at this;simp only[CE,Nat.add_zero]at this;rw[this];simp
   | false=>
    rw[e,zY]at hs;rw[aO hs,zY];have hd':s.data.toList=d++(c++[x])++rest:=by rw[hd];simp
    have :=ih d (c++[x]) out hd' ho;have hl:d.length+(c++[x]).length=d.length+c.length+1:=by simp;omega
    rw[hl]at this;exact this
 exact key s.data.toList [] [] [] rfl (Cz _)
theorem MQ{s:ByteArray}{b:Int}(hs:s.size<=1000000000):HD s b=U (gH s b):=by
 unfold HD;rw[bYq (s:=s) (b:=b) (λf i out hi hf ho=>by
  have hd:D ((i:Int)<=(s.size:Int))=X:=zX (by omega);have hb:((i:Int)==(s.size:Int))=Y:=beq_eq_false_iff_ne.2 (by omega);have hx:s.data.toList[i]? =U (s.data.toList[i]'(by rw[nN];exact hi)):=Cs _;have hw:wr ((i:Int)+1)=((i+1:Nat):Int):=Lo (by omega);have hsl:bG (f:Int) (i:Int) (s.size:Int)=X:=by rw[yK];simp;omega
  simp only[hd,hb,zZ,zY,aQ,hx,aA,hw,hsl,aC (b:=16) (n:=out.length) (m:=1) (by decide) (by omega),Cj];cases ((s.data.toList[i]'(by rw[nN];exact hi)).toNat:Int)==b<;>rfl) (λf out hf ho=>by
  have hd:D ((s.size:Int)<=(s.size:Int))=X:=zX (by omega);have hw:wr ((s.size:Int)+1)=((s.size+1:Nat):Int):=Lo (by omega);have hsl:bG (f:Int) (s.size:Int) (s.size:Int)=X:=wS hf;simp only[hd,beq_self_eq_true,zZ,aA,hw,hsl,aC (b:=16) (n:=out.length) (m:=1) (by decide) (by omega),Cj]) (λf out=>by
  have hd:D (((s.size+1:Nat):Int)<=(s.size:Int))=Y:=zW (by omega);simp only[hd,zY])]
 rfl
theorem Tg{s:ByteArray}{b:Int}(hs:s.size<=1000000000):yW s b=U (gH s b):=MQ hs
def Hm(by_:ByteArray)(l:List ByteArray):ByteArray:=cW (λk x a=>(cond (D ((k:Int)>0)) (a++by_) a)++x) 0 l Aa
def E3(l:List ByteArray):Nat:=(l.map λx=>x.size+1).sum
theorem PZ{step:ByteArray×Int->Option (q35⊕ByteArray)}(by_:ByteArray)(l:List ByteArray)(hb:by_.size<=1)(hl:l.length<=4611686018427387904)(hn:E3 l<=1000000000000)
  (h:∀(k:Nat) (x a:ByteArray),l[k]? =U x->k<l.length->D ((k:Int)<(l.length:Int))=X->wr ((k:Int)+1)=((k+1:Nat):Int)->a.size+(x.size+1)<=1000000000000->step (a,(k:Int))=U (.inl ((cond (D ((k:Int)>0)) (a++by_) a)++x,((k+1:Nat):Int))))
  (he:∀a,step (a,(l.length:Int))=U (.inr a)):aB step (Aa,(0:Int))=U (Hm by_ l)/\(Hm by_ l).size<=E3 l:=by
 obtain⟨a,b⟩:=jJ (λk (a:ByteArray)=>(a,(k:Int))) (Aa,(0:Int)) Aa l (λk x a=>(cond (D ((k:Int)>0)) (a++by_) a)++x) ByteArray.size (λx=>x.size+1) 1000000000000 id rfl hl (by show 0+E3 l<=_;omega) (step:=step) (λk x a hi hx hd hw hk hN=>by
  refine⟨h k x a hx hk hd hw hN,?_⟩;rw[ByteArray.size_append];cases D ((k:Int)>0) with
  | true=>show (a++by_).size+x.size<=_;rw[ByteArray.size_append];omega
  | false=>show a.size+x.size<=_;omega) he
 refine⟨a,?_⟩;have b:(Hm by_ l).size<=0+E3 l:=b;omega
theorem DP{n:Nat}(h:n<=1000000000001):D (n<=maxLen)=X:=T1 (by omega)
theorem Xi{l:List ByteArray}{by_:ByteArray}(hb:by_.size<=1)(hl:l.length<=4611686018427387904)(hn:E3 l<=1000000000000):jH l by_=U (Hm by_ l):=by
 unfold jH;rw[(PZ by_ l hb hl hn (λk x a hx hk hd hw hN=>by
  have e:idx l (k:Int)=U x:=by rw[aQ];exact hx
  simp only[hd,zZ,e,aA,hw];cases D ((k:Int)>0) with
  | true=>
   simp only[zZ,DP (n:=a.size+by_.size) (by omega),aA,DP (n:=(a++by_).size+x.size) (by rw[ByteArray.size_append];omega)]
  | false=>simp only[zY,aA,DP (n:=a.size+x.size) (by omega),zZ]) (λa=>by simp)).1]
 rfl
def sp1:ByteArray:=Ak
def Lg(l:List ByteArray):ByteArray:=cond (D (l.length=0)) Ac (Hm sp1 l)
theorem QA{α:Type}(l:List α):((l.length:Int)==(0:Int))=D (l.length=0):=by
 rw[CG];simp
theorem bFa{l:List ByteArray}(hl:l.length<=4611686018427387904)(hn:E3 l<=1000000000000):xY l=U (Lg l):=by
 unfold xY Lg;rw[QA,show jH l Ak=_ from Xi (by_:=sp1) (by decide) hl hn];cases D (l.length=0)<;>rfl
theorem Qb{l:List ByteArray}{c:Nat}(h:∀x∈l,x.size<=c):E3 l<=l.length * (c+1):=Fb λx hx=>by have :=h x hx;omega
def Dp(t:den B2)(r:Int):ByteArray:=cond (cK t r) ((eJ ((t.1[r.toNat]?).getD (0,Y,0)).1++Ac)++eJ r) AS
theorem MA(t:den B2)(r:Int):(Dp t r).size<=70:=by
 have h1:=iR ((t.1[r.toNat]?).getD (0,Y,0)).1;have h2:=iR r;unfold Dp;cases cK t r with
 | false=>exact (by decide:(1:Nat)<=70)
 | true=>
  show (_++_++_:ByteArray).size<=70;rw[ByteArray.size_append,ByteArray.size_append];show _+1+_<=70;omega
theorem YH{t:den B2}(ht:eU t)(r:Int):pY t r=U (Dp t r):=by
 unfold pY Dp A1;simp only[aD,Fa ht.a,aA,L1];cases c:cK t r with
 | false=>rfl
 | true=>
  obtain⟨x,hx,ix⟩:=Gq c;have h1:=iR x.1;have h2:=iR r;rw[ix,hx];simp only[aA,CJ,BZ,zY];rw[DP (n:=(eJ x.1).size+Ac.size) (by show _+1<=_;omega),DP (n:=(eJ x.1++Ac).size+(eJ r).size) (by rw[ByteArray.size_append];show _+1+_<=_;omega)];rfl
theorem Ys{t:den B2}(ht:eU t)(r:Int):qG t r=U (Dp t r):=by
 unfold qG Dp A1;simp only[aD,F7 ht.a,aA,JG];cases c:cK t r with
 | false=>rfl
 | true=>
  obtain⟨x,hx,ix⟩:=Gq c;have h1:=iR x.1;have h2:=iR r;rw[ix,hx];simp only[aA,CJ,BZ,zY];rw[DP (n:=(eJ x.1).size+Ac.size) (by show _+1<=_;omega),DP (n:=(eJ x.1++Ac).size+(eJ r).size) (by rw[ByteArray.size_append];show _+1+_<=_;omega)];rfl
def Fl(t:den B2)(r d:Int):ByteArray:=(Dp t r++AW)++eJ d
theorem NS(t:den B2)(r d:Int):(Fl t r d).size<=110:=by
 have h1:=MA t r;have h2:=iR d;unfold Fl;rw[ByteArray.size_append,ByteArray.size_append];show _+1+_<=110;omega
theorem cIw{t:den B2}(ht:eU t)(r d:Int):jR t r d=U (Fl t r d):=by
 have h1:=MA t r;have h2:=iR d;unfold jR Fl A1;simp only[aD,YH ht,aA,L1];rw[DP (n:=(Dp t r).size+AW.size) (by show _+1<=_;omega),DP (n:=(Dp t r++AW).size+(eJ d).size) (by rw[ByteArray.size_append];show _+1+_<=_;omega)];rfl
theorem cKo{t:den B2}(ht:eU t)(r d:Int):jS t r d=U (Fl t r d):=by
 have h1:=MA t r;have h2:=iR d;unfold jS Fl A1;simp only[aD,Ys ht,aA,JG];rw[DP (n:=(Dp t r).size+AW.size) (by show _+1<=_;omega),DP (n:=(Dp t r++AW).size+(eJ d).size) (by rw[ByteArray.size_append];show _+1+_<=_;omega)];rfl
def JL(k:Int):ByteArray:=cond (k==1) AX (cond (k==2) AT (cond (k==3) AY AS))
def Ep(t:den B2)(x:den C8):ByteArray:=(Fl t x.1 x.2.1++JL x.2.2.2.2)++Fl t x.2.2.1 x.2.2.2.1
theorem Vv(k:Int):(JL k).size=1:=by unfold JL;cases k==1<;>cases k==2<;>cases k==3<;>rfl
theorem bE1(t:den B2)(x:den C8):(Ep t x).size<=230:=by
 have h1:=NS t x.1 x.2.1;have h2:=NS t x.2.2.1 x.2.2.2.1;have h3:=Vv x.2.2.2.2;unfold Ep;rw[ByteArray.size_append,ByteArray.size_append];omega
theorem bNg(k:Int):cond (k==(1:Int)) (U AX) (cond (k==(2:Int)) (U AT) (cond (k==(3:Int)) (U AY) (U AS)))=U (JL k):=by
 unfold JL;cases k==1<;>cases k==2<;>cases k==3<;>rfl
theorem bNf{t:den B2}(ht:eU t){k:Nat}{x:den C8}(hx:t.2[k]? =U x):B3 (k:Int) 0 (wr ((t.2.length:Int) - 1))=X:=by
 have :=(List.getElem?_eq_some_iff.1 hx).1;rw[show wr ((t.2.length:Int) - 1)=(t.2.length:Int) - 1 from dO (by have :=ht.links;omega)];exact bQ.2 (by omega)
theorem cIo{t:den B2}(ht:eU t){k:Nat}{x:den C8}(hx:t.2[k]? =U x):xO t (k:Int)=U (Ep t x):=by
 have h1:=NS t x.1 x.2.1;have h2:=NS t x.2.2.1 x.2.2.2.1;have h3:=Vv x.2.2.2.2;have e:idx t.2 (k:Int)=U x:=by rw[aQ];exact hx
 unfold xO Ep A1 A0;simp only[gX,bNf ht hx,aA,BZ,zY,e,aD,bNg,cIw ht];rw[DP (n:=(Fl t x.1 x.2.1).size+(JL x.2.2.2.2).size) (by omega),DP (n:=(Fl t x.1 x.2.1++JL x.2.2.2.2).size+(Fl t x.2.2.1 x.2.2.2.1).size) (by rw[ByteArray.size_append];omega)];rfl
theorem cJt{t:den B2}(ht:eU t){k:Nat}{x:den C8}(hx:t.2[k]? =U x):xJ t (k:Int)=U (Ep t x):=by
 have h1:=NS t x.1 x.2.1;have h2:=NS t x.2.2.1 x.2.2.2.1;have h3:=Vv x.2.2.2.2;have e:idx t.2 (k:Int)=U x:=by rw[aQ];exact hx
 unfold xJ Ep A1 A0;simp only[fC,bNf ht hx,aA,BZ,zY,e,aD,bNg,cKo ht];rw[DP (n:=(Fl t x.1 x.2.1).size+(JL x.2.2.2.2).size) (by omega),DP (n:=(Fl t x.1 x.2.1++JL x.2.2.2.2).size+(Fl t x.2.2.1 x.2.2.2.1).size) (by rw[ByteArray.size_append];omega)];rfl
def LO(t:den B2):ByteArray:=Lg (t.2.map (Ep t))
theorem cJ6{t:den B2}(ht:eU t):E3 (t.2.map (Ep t))<=1000000000000:=by
 have h1:=Qb (l:=t.2.map (Ep t)) (c:=230) λx hx=>by
  obtain⟨y,_,rfl⟩:=Ch.1 hx;exact bE1 t y
 have :=ht.links;rw[CF]at h1;omega
theorem cH4{t:den B2}(ht:eU t):mI t=U (LO t):=by
 have hl:=ht.links;unfold mI LO A1;rw[(jJ (λk (a:List ByteArray)=>((k:Int),a)) ((0:Int),[]) [] t.2 (λ_ x a=>a++[Ep t x]) Cr (λ_=>1) 1000000 id rfl (by omega) (by rw[cT];simpa using hl) (λk x a hi hx hd hw hk hb=>by
  simp only[hd,zZ,cIo ht hx,aA,hw,aC (b:=16) (n:=a.length) (m:=1) (by decide) (by omega)];simp) (λa=>by simp)).1,dR (Ep t)]
 show Option.bind (xY (t.2.map (Ep t))) _=_;rw[bFa (by simp;omega) (cJ6 ht)];rfl
theorem cI5{t:den B2}(ht:eU t):mG t=U (LO t):=by
 have hl:=ht.links;unfold mG LO Lg A1;rw[(PZ sp1 (t.2.map (Ep t)) (by decide) (by simp;omega) (cJ6 ht) (λk x a hx hk hd hw hN=>by
  rw[FV]at hx;obtain⟨y,hy,rfl⟩:=CX.1 hx;rw[CF]at hd;simp only[hd,zZ,cJt ht hy,aA,hw];have e1:sp1.size=1:=rfl;cases D ((k:Int)>0) with
  | true=>
   simp only[zZ,DP (n:=a.size+Ak.size) (by show a.size+1<=_;omega),aA,DP (n:=(a++Ak).size+(Ep t y).size) (by rw[ByteArray.size_append];show a.size+1+_<=_;omega)];rfl
  | false=>simp only[zY,aA,DP (n:=a.size+(Ep t y).size) (by omega),zZ]) (λa=>by simp)).1,aA,QA]
 rw[CF];cases D (t.2.length=0)<;>rfl
theorem fit{a b:ByteArray}(h:a.size+b.size<=4000000000000):D (a.size+b.size<=maxLen)=X:=T1 h
def gt1:ByteArray:=AT
def Gn(t:den B2)(x:den EE):ByteArray:=(((eJ x.2.1++gt1)++Dp t x.1)++gt1)++eJ x.2.2
theorem bAn(t:den B2)(x:den EE):(Gn t x).size<=150:=by
 have h1:=iR x.2.1;have h2:=iR x.2.2;have h3:=MA t x.1;have h4:gt1.size=1:=rfl;unfold Gn;simp only[ByteArray.size_append];omega
def Ni(t:den B2)(p:den B4):ByteArray:=Lg ((iD p).map (Gn t))
theorem cAn{t:den B2}{p:den B4}(h:tot B4 p<=1000):E3 ((iD p).map (Gn t))<=1000000000000:=by
 have h1:=Qb (l:=(iD p).map (Gn t)) (c:=150) λx hx=>by
  obtain⟨y,_,rfl⟩:=Ch.1 hx;exact bAn t y
 have :=Jb p;rw[CF]at h1;omega
theorem cGr{t:den B2}{p:den B4}(ht:eU t)(h:tot B4 p<=1000):uA t p=U (Ni t p):=by
 have hl:=Jb p;unfold uA Ni A1;rw[Oy (B5 h (by decide)),aA];unfold yJ A1;rw[(jJ (λk (a:List ByteArray)=>((k:Int),a)) ((0:Int),[]) [] (iD p) (λ_ x a=>a++[Gn t x]) Cr (λ_=>1) 1000000 id rfl (by omega) (by rw[cT];simp;omega) (λk x a hi hx hd hw hk hb=>by
  have h1:=iR x.2.1;have h2:=iR x.2.2;have h3:=MA t x.1;have h4:gt1.size=1:=rfl;simp only[hd,zZ,hi,aA,L1,aD,YH ht,hw,aC (b:=16) (n:=a.length) (m:=1) (by decide) (by omega)];rw[show D ((eJ x.2.1).size+AT.size<=maxLen)=X from fit (b:=gt1) (by omega),show D ((eJ x.2.1++AT).size+(Dp t x.1).size<=maxLen)=X from fit (a:=eJ x.2.1++gt1) (by rw[ByteArray.size_append];omega),show D (((eJ x.2.1++AT)++Dp t x.1).size+AT.size<=maxLen)=X from fit (a:=(eJ x.2.1++gt1)++Dp t x.1) (b:=gt1) (by simp only[ByteArray.size_append];omega),show D ((((eJ x.2.1++AT)++Dp t x.1)++AT).size+(eJ x.2.2).size<=maxLen)=X from fit (a:=((eJ x.2.1++gt1)++Dp t x.1)++gt1) (by simp only[ByteArray.size_append];omega)];exact⟨rfl,by simp⟩) (λa=>by simp)).1,dR (Gn t)]
 show Option.bind (xY ((iD p).map (Gn t))) _=_;rw[bFa (by simp;omega) (cAn h)];rfl
theorem cFk{t:den B2}{p:den B4}(ht:eU t)(h:tot B4 p<=1000):uI t p=U (Ni t p):=by
 have hl:=Jb p;unfold uI Ni Lg BX A1;rw[O6 (B5 h (by decide)),aA];rw[(PZ sp1 ((iD p).map (Gn t)) (by decide) (by simp;omega) (cAn h) (λk x a hx hk hd hw hN=>by
  rw[FV]at hx;obtain⟨y,hy,rfl⟩:=CX.1 hx;rw[CF]at hd;have h1:=iR y.2.1;have h2:=iR y.2.2;have h3:=MA t y.1;have h4:gt1.size=1:=rfl;have h5:sp1.size=1:=rfl;have e0:cond (D ((k:Int)>0)) (cond (D (a.size+Ak.size<=maxLen)) (U (a++Ak)) W) (U a)=U (cond (D ((k:Int)>0)) (a++sp1) a):=by
   rw[show D (a.size+Ak.size<=maxLen)=X from fit (b:=sp1) (by omega)];cases D ((k:Int)>0)<;>rfl
  have hq:(cond (D ((k:Int)>0)) (a++sp1) a).size<=a.size+1:=by
   cases D ((k:Int)>0) with
   | true=>show (a++sp1).size<=_;rw[ByteArray.size_append];omega
   | false=>exact Et _
  simp only[hd,bF,zZ,Cj,hy,aA,JG,aD,Ys ht,hw,e0];generalize cond (D ((k:Int)>0)) (a++sp1) a=c at *;rw[show D (c.size+(eJ y.2.1).size<=maxLen)=X from fit (by omega),show D ((c++eJ y.2.1).size+AT.size<=maxLen)=X from fit (b:=gt1) (by rw[ByteArray.size_append];omega),show D (((c++eJ y.2.1)++AT).size+(Dp t y.1).size<=maxLen)=X from fit (a:=(c++eJ y.2.1)++gt1) (by simp only[ByteArray.size_append];omega),show D ((((c++eJ y.2.1)++AT)++Dp t y.1).size+AT.size<=maxLen)=X from fit (a:=((c++eJ y.2.1)++gt1)++Dp t y.1) (b:=gt1) (by simp only[ByteArray.size_append];omega),show D (((((c++eJ y.2.1)++AT)++Dp t y.1)++AT).size+(eJ y.2.2).size<=maxLen)=X from fit (a:=(((c++eJ y.2.1)++gt1)++Dp t y.1)++gt1) (by simp only[ByteArray.size_append];omega)];unfold Gn;simp only[zZ,ByteArray.append_assoc];rfl) (λa=>by simp)).1,aA,QA]
 rw[CF];cases D ((iD p).length=0)<;>rfl
theorem Ve{by_:ByteArray}(l:List ByteArray)(hb:by_.size<=1):(Hm by_ l).size<=E3 l:=by
 have :=Ib (f:=λ(k:Nat) (x a:ByteArray)=>(cond (D ((k:Int)>0)) (a++by_) a)++x) (m:=ByteArray.size) (cost:=λx=>x.size+1) (λk x a=>by
  rw[ByteArray.size_append];cases D ((k:Int)>0) with
  | true=>show (a++by_).size+x.size<=_;rw[ByteArray.size_append];omega
  | false=>show a.size+x.size<=_;omega) l 0 Aa
 have h0:Aa.size=0:=rfl;rw[h0]at this;unfold Hm E3;omega
theorem aUg(l:List ByteArray):(Lg l).size<=E3 l+1:=by
 unfold Lg;cases D (l.length=0) with
 | true=>exact Nat.le_add_left 1 _
 | false=>
  have :=Ve l (by_:=sp1) (by decide);show (Hm sp1 l).size<=_;omega
def DU(s:ByteArray)(b:den aT):q5:=
 (s,b.2.2.1,b.1.1,b.1.2,b.2.1.1,b.2.1.2,b.2.2.2.1,b.2.2.2.2.1.1,b.2.2.2.2.1.2,b.2.2.2.2.2.1.1,b.2.2.2.2.2.1.2,b.2.2.2.2.2.2.1.1,b.2.2.2.2.2.2.1.2.1,b.2.2.2.2.2.2.1.2.2,b.2.2.2.2.2.2.2.1,b.2.2.2.2.2.2.2.2.1,b.2.2.2.2.2.2.2.2.2.1,b.2.2.2.2.2.2.2.2.2.2.1,b.2.2.2.2.2.2.2.2.2.2.2.1,b.2.2.2.2.2.2.2.2.2.2.2.2)
def Di(b:den aT):den IQ:=(b.1,b.2.2.1,b.2.1,b.2.2.2.1,b.2.2.2.2)
abbrev bT(b:den aT):den B2:=b.1
abbrev bK(b:den aT):Db:=b.2.1
abbrev bP(b:den aT):dF:=b.2.2.1
abbrev bN(b:den aT):Int:=b.2.2.2.1
abbrev bW(b:den aT):den B1:=b.2.2.2.2
def JP(b:den aT)(w:den B1):den aT:=(b.1,b.2.1,b.2.2.1,b.2.2.2.1,w)
structure BI (k:Nat) (b:den aT):Prop where
 as:(bT b).1.length<=8
 links:(bT b).2.length<=k
 db:kN (bK b)<=96 * k
 hops:KH 8 (bK b)
 pol:(bP b).length=(bT b).1.length
 net:NB (1000000+330000000 * k) (bW b)
def Fx(k:Nat)(o o':Option q5):Prop:=
 ∃s b,o=U (DU s b)/\o'=U (DU s b)/\s.size<=100000000000/\BI (k+1) b
theorem BI.next{k:Nat}{b:den aT}(h:BI k b):BI (k+1) b:=⟨h.as,by have :=h.links;omega,by have :=h.db;omega,h.hops,h.pol,h.net.mono (by omega)⟩
theorem BI.top{k:Nat}{b:den aT}(h:BI k b)(hk:k<=80):eU (bT b):=⟨by have :=h.as;omega,by have :=h.links;omega⟩
theorem BI.netw{k:Nat}{b:den aT}{w:den B1}(h:BI k b)(hw:NB (1000000+330000000 * (k+1)) w):BI (k+1) (JP b w):=⟨h.as,by have :=h.links;show (bT b).2.length<=k+1;omega,by have :=h.db;show kN (bK b)<=96 * (k+1);omega,h.hops,h.pol,hw⟩
theorem BI.dbs{k:Nat}{b:den aT}(h:BI k b)(hk:k<=80):Dv (bK b):=by
 have :=h.db;unfold kN at this;exact⟨by omega,by omega,h.hops.1,h.hops.2⟩
theorem Jk{k:Nat}{b:den aT}(h:BI k b)(s:ByteArray)(hs:s.size<=100000000000):Fx k (U (DU s b)) (U (DU s b)):=⟨s,b,rfl,rfl,hs,h.next⟩
def LK(w:den B1):ByteArray:=Hm sp1 ((EQ w).map eJ)
theorem Z1{B:Nat}{w:den B1}(h:NB B w):E3 ((EQ w).map eJ)<=1000/\(EQ w).length<=8:=by
 have hf:=h.keep.flows;have hl:(EQ w).length<=8:=by
  unfold EQ;rw[C7,CF];show 4+(aG w).length<=8;omega
 have h1:=Qb (l:=(EQ w).map eJ) (c:=30) λx hx=>by
  obtain⟨y,_,rfl⟩:=Ch.1 hx;exact iR y
 rw[CF]at h1;exact⟨by omega,hl⟩
theorem bUj{B:Nat}{b:den aT}(h:NB B (bW b))(hB:B<=34000000000):eN b=U (DU (LK (bW b)) b):=by
 obtain⟨h1,h2⟩:=Z1 h;have e0:wK (bW b)=U (EQ (bW b)):=cD5 (B5 h.keep.tot (by omega));unfold eN BX Cv aL A0 A4 A3 A8;simp only[aD];rw[show wK b.2.2.2.2=U (EQ (bW b)) from e0,aA];rw[(jJ (λk (a:List ByteArray)=>((k:Int),a)) ((0:Int),[]) [] (EQ (bW b)) (λ_ x a=>a++[eJ x]) Cr (λ_=>1) 1000000 id rfl (by omega) (by rw[cT];simp;omega) (λk x a hi hx hd hw hk hb=>by
  simp only[hd,bF,zZ,Cj,hx,aA,L1,hw,aC (b:=16) (n:=a.length) (m:=1) (by decide) (by omega)];simp) (λa=>by simp)).1,dR eJ]
 show Option.bind (jH ((EQ (bW b)).map eJ) sp1) _=_;rw[Xi (by decide) (by simp;omega) (B5 h1 (by decide))];rfl
theorem bVi{B:Nat}{w:den B1}(h:NB B w)(hB:B<=34000000000):jI w=U (LK w):=by
 obtain⟨h1,h2⟩:=Z1 h;have e0:K3 w=U (EQ w):=cLd (B5 h.keep.tot (by omega));unfold jI LK BX aL;simp only[aD];rw[e0,aA];rw[(PZ sp1 ((EQ w).map eJ) (by decide) (by simp;omega) (B5 h1 (by decide)) (λk x a hx hk hd hw hN=>by
  rw[FV]at hx;obtain⟨y,hy,rfl⟩:=CX.1 hx;rw[CF]at hd;have h5:sp1.size=1:=rfl;simp only[hd,bF,zZ,Cj,hy,aA,JG,hw];cases D ((k:Int)>0) with
  | true=>
   simp only[zZ,show D (a.size+Ak.size<=maxLen)=X from fit (b:=sp1) (by omega),aA,show D ((a++Ak).size+(eJ y).size<=maxLen)=X from fit (a:=a++sp1) (by rw[ByteArray.size_append];omega)];rfl
  | false=>simp only[zY,aA,fit (a:=a) (b:=eJ y) (by omega),zZ]) (λa=>by simp)).1]
 rfl
theorem bEv{B:Nat}{w:den B1}(h:NB B w):(LK w).size<=1000:=B5 (Ve _ (by decide)) (Z1 h).1
def Nu:ByteArray:=AV
def cA0:ByteArray:=AU
def N1(w:den B1)(i:Int):ByteArray:=cond (B3 i 0 (((cR w).length:Int) - 1)) (cond (D ((((cR w)[i.toNat]?).getD (0,0,0,[])).2.2.2.length=0)) Ac (Hm Nu ((((cR w)[i.toNat]?).getD (0,0,0,[])).2.2.2.map eW))) cA0
theorem Zo{B:Nat}{w:den B1}(h:NB B w)(hB:B<=34000000000){x:den Cq}(hx:x∈cR w):E3 ((show List lI from x.2.2.2).map eW)<=34000000000:=by
 have h1:=kE (t:=Cq) hx;have h2:=dX w;have h3:=h.keep.tot;have e:E3 ((show List lI from x.2.2.2).map eW)=tot (.sl Dd) x.2.2.2:=by
  unfold E3;rw[List.map_map,<- Ql];refine congrArg List.sum (List.map_congr_left λm _=> ?_);show (eW m).size+1=1+tot Dd m;rw[PM,show tot Dd m=m.length from qW (t:=tb) rfl];omega
 have e2:tot Cq x=tot (.sl Dd) x.2.2.2:=by simp[sI,vZ]
 omega
theorem cIv{B:Nat}{b:den aT}(h:NB B (bW b))(hB:B<=34000000000){i:Int}(h0:0<=i):mD b i=U (DU (N1 (bW b) i) b):=by
 unfold mD N1 Cv bA A0 A4 A3 A8
 by_cases c:i>=(b.2.2.2.2.2.2.2.2.2.2.2.1.length:Int)
 .rw[zX c,show B3 i 0 (((cR (bW b)).length:Int) - 1)=Y from SN.2 λ⟨_,g⟩=>by have :((cR (bW b)).length:Int)<=i:=c;omega];rfl
 .have hlt:i<((cR (bW b)).length:Int):=Int.not_le.1 c;rw[zW c,show B3 i 0 (((cR (bW b)).length:Int) - 1)=X from bQ.2 ⟨h0,by omega⟩];have hx:(cR (bW b))[i.toNat]? =U ((cR (bW b))[i.toNat]'(by omega)):=Cs (by omega);have hm:=Cm hx;generalize (cR (bW b))[i.toNat]'(by omega)=x at *;have ex:idx b.2.2.2.2.2.2.2.2.2.2.2.1 i=U x:=J5 h0 hx;have hN:=Zo h hB hm;have hl:(show List lI from x.2.2.2).length<=34000000000:=by
   have h1:=kE (t:=Cq) hm;have h2:=dX (bW b);have h3:=h.keep.tot;have h4:=cO (t:=Dd) x.2.2.2;have e2:tot Cq x=tot (.sl Dd) x.2.2.2:=by simp[sI,vZ]
   show Cr x.2.2.2<=_;omega
  rw[ex,hx];simp only[zY,zZ,aA,CJ];rw[(jJ (λk (a:List ByteArray)=>((k:Int),a)) ((0:Int),[]) [] (show List lI from x.2.2.2) (λ_ x a=>a++[eW x]) Cr (λ_=>1) 34000000000 id rfl (by omega) (by rw[cT];simpa using hl) (λk x a hi hx hd hw hk hb=>by
   simp only[hd,zZ,hi,aA,hw,aC (b:=16) (n:=a.length) (m:=1) (by decide) (by omega)];simp) (λa=>by simp)).1,dR eW]
  simp only[aA,id,List.nil_append,QA];rw[show jH ((show List lI from x.2.2.2).map eW) AV=U (Hm Nu _) from Xi (by_:=Nu) (by decide) (by rw[CF];exact B5 hl (by decide)) (B5 hN (by decide))];rw[CF];cases D (Cr (α:=List Int) x.2.2.2=0)<;>rfl
theorem cH2{B:Nat}{w:den B1}(h:NB B w)(hB:B<=34000000000){i:Int}(h0:0<=i):Jl w i=U (N1 w i):=by
 have hbl:(cR w).length<=34000000000:=by
  have h2:=dX w;have h3:=h.keep.tot;have h4:=cO (t:=Cq) (cR w);omega
 unfold Jl N1 A8;rw[show wr ((w.2.2.2.2.2.2.2.1.length:Int) - 1)=((cR w).length:Int) - 1 from dO (by show (cR w).length<=_;omega),fC,aA];cases c:B3 i 0 (((cR w).length:Int) - 1) with
 | false=>rfl
 | true=>
  obtain⟨g0,g1⟩:=bQ.1 c;have hx:(cR w)[i.toNat]? =U ((cR w)[i.toNat]'(by omega)):=Cs (by omega);have hm:=Cm hx;generalize (cR w)[i.toNat]'(by omega)=x at *;have ex:idx w.2.2.2.2.2.2.2.1 i=U x:=J5 h0 hx;have hN:=Zo h hB hm;have hl:(show List lI from x.2.2.2).length<=34000000000:=by
   have h1:=kE (t:=Cq) hm;have h2:=dX w;have h3:=h.keep.tot;have h4:=cO (t:=Dd) x.2.2.2;have e2:tot Cq x=tot (.sl Dd) x.2.2.2:=by simp[sI,vZ]
   show Cr x.2.2.2<=_;omega
  simp only[ex,hx,BZ,zY,zZ,aA,CJ];rw[(PZ Nu ((show List lI from x.2.2.2).map eW) (by decide) (by rw[CF];exact B5 hl (by decide)) (B5 hN (by decide)) (λk z a hz hk hd hw hN=>by
   rw[FV]at hz;obtain⟨y,hy,rfl⟩:=CX.1 hz;rw[CF]at hd;have h5:Nu.size=1:=rfl;have ey:idx (show List lI from x.2.2.2) (k:Int)=U y:=by rw[aQ];exact hy
   simp only[hd,zZ,ey,aA,hw];cases D ((k:Int)>0) with
   | true=>
    simp only[zZ,show D (a.size+AV.size<=maxLen)=X from fit (b:=Nu) (by omega),aA,show D ((a++AV).size+(eW y).size<=maxLen)=X from fit (a:=a++Nu) (by rw[ByteArray.size_append];omega)];rfl
   | false=>simp only[zY,aA,fit (a:=a) (b:=eW y) (by omega),zZ]) (λa=>by simp)).1,aA,QA]
  cases D (Cr (α:=List Int) x.2.2.2=0)<;>rfl
theorem bUm{B:Nat}{w:den B1}(h:NB B w)(hB:B<=34000000000)(i:Int):(N1 w i).size<=34000000000:=by
 unfold N1;cases c:B3 i 0 (((cR w).length:Int) - 1) with
 | false=>exact (by decide:4<=34000000000)
 | true=>
  obtain⟨g0,g1⟩:=bQ.1 c;have hx:(cR w)[i.toNat]? =U ((cR w)[i.toNat]'(by omega)):=Cs (by omega);have hN:=Zo h hB (Cm hx);rw[hx,CJ];generalize (cR w)[i.toNat]'(by omega)=x at *;cases D (Cr (α:=List Int) x.2.2.2=0) with
  | true=>exact (by decide:1<=34000000000)
  | false=>exact B5 (Ve _ (by decide)) hN
theorem BI.big{k:Nat}(hk:k<=80):1000000+330000000 * k<=34000000000:=by omega
def DG(b:Bool):ByteArray:=cond b AR AQ
theorem HX(b:Bool):(DG b).size<=100000000000:=by cases b<;>exact (by decide:2<=100000000000)
theorem Vr{k:Nat}{b:den aT}{e:den yP}(h:BI k b)(hk:k<=80)(he:ND e):Fx k (cU b e) (sD (Di b) e):=by
 have e1:=cHm h.net (BI.big hk) he;have e2:=cHs h.net (BI.big hk) he;have hn:=(bW5 h.net he).mono (show 1000000+330000000 * k+2000000<=1000000+330000000 * (k+1) by omega);refine⟨DG (Gd (bW b) e).1,JP b (Gd (bW b) e).2,?_,?_,HX _,h.netw hn⟩
 .unfold cU pN DG aK aL aS bA bZ dS A0 A4 A3 A8 B0 B8;simp only[bB,cB,bL,bJ,bO,aD];rw[show rV b.2.2.2.2 e=_ from e1,aA,aA];unfold I3;cases (Gd (bW b) e).1<;>rfl
 .unfold sD Fy DG Di aK A6 aL aS bA bZ dS A0 A4 A3 A8 B0 B8;simp only[bB,cB,bL,bJ,bO,aD];rw[show rL b.2.2.2.2 e=_ from e2,aA,aA];unfold cCo;cases (Gd (bW b) e).1<;>rfl
def UK(b:den aT)(t:den B2)(p:dF):den aT:=(t,b.2.1,p,b.2.2.2.1,b.2.2.2.2)
theorem bXp{t:den B2}(h:mO t=X):t.1.length<=8:=by
 unfold mO at h;rw[Ck]at h;have :=bQ.1 h.1;omega
theorem bUi{k:Nat}{b:den aT}{t:den B2}(h:BI k b)(ht:eU t)(hl:t.1.length=(bP b).length\/t.1.length=(bP b).length+1):mM b t=U (cond (mO t) (X,(DU Aa (UK b t (cond (D (t.1.length=(bP b).length)) (bP b) (bP b++[G7])))).2) (Y,(DU Aa b).2)):=by
 have hp:=h.pol;have ha:=h.as;unfold mM cHt I1 DX A1 B6 Cv A0 A4 A3 A8;simp only[aD,MR ht.sm,aA];cases mO t with
 | false=>rfl
 | true=>
  simp only[BZ,zY,zZ];rcases hl with hl | hl
  .rw[aH (r:=(b.2.2.1,b.1.1,b.1.2,b.2.1.1,b.2.1.2,b.2.2.2.1,b.2.2.2.2.1.1,b.2.2.2.2.1.2,b.2.2.2.2.2.1.1,b.2.2.2.2.2.1.2,b.2.2.2.2.2.2.1.1,b.2.2.2.2.2.2.1.2.1,b.2.2.2.2.2.2.1.2.2,b.2.2.2.2.2.2.2.1,b.2.2.2.2.2.2.2.2.1,b.2.2.2.2.2.2.2.2.2.1,b.2.2.2.2.2.2.2.2.2.2.1,b.2.2.2.2.2.2.2.2.2.2.2.1,b.2.2.2.2.2.2.2.2.2.2.2.2)) (by
    have hd:D ((b.2.2.1.length:Int)<(t.1.length:Int))=Y:=zW (by rw[hl];exact Int.lt_irrefl _);simp only[hd,zY]),aA,zX hl]
   rfl
  .rw[aO (s':=(b.2.2.1++[G7],b.1.1,b.1.2,b.2.1.1,b.2.1.2,b.2.2.2.1,b.2.2.2.2.1.1,b.2.2.2.2.1.2,b.2.2.2.2.2.1.1,b.2.2.2.2.2.1.2,b.2.2.2.2.2.2.1.1,b.2.2.2.2.2.2.1.2.1,b.2.2.2.2.2.2.1.2.2,b.2.2.2.2.2.2.2.1,b.2.2.2.2.2.2.2.2.1,b.2.2.2.2.2.2.2.2.2.1,b.2.2.2.2.2.2.2.2.2.2.1,b.2.2.2.2.2.2.2.2.2.2.2.1,b.2.2.2.2.2.2.2.2.2.2.2.2)) (by
    have hd:D ((b.2.2.1.length:Int)<(t.1.length:Int))=X:=zX (by rw[hl];show ((bP b).length:Int)<_;omega);simp only[hd,zZ,aC (b:=32) (n:=b.2.2.1.length) (m:=1) (by decide) (show (bP b).length+1<=_ by omega)];rfl),aH (r:=(b.2.2.1++[G7],b.1.1,b.1.2,b.2.1.1,b.2.1.2,b.2.2.2.1,b.2.2.2.2.1.1,b.2.2.2.2.1.2,b.2.2.2.2.2.1.1,b.2.2.2.2.2.1.2,b.2.2.2.2.2.2.1.1,b.2.2.2.2.2.2.1.2.1,b.2.2.2.2.2.2.1.2.2,b.2.2.2.2.2.2.2.1,b.2.2.2.2.2.2.2.2.1,b.2.2.2.2.2.2.2.2.2.1,b.2.2.2.2.2.2.2.2.2.2.1,b.2.2.2.2.2.2.2.2.2.2.2.1,b.2.2.2.2.2.2.2.2.2.2.2.2)) (by
    have hd:D (((b.2.2.1++[G7]).length:Int)<(t.1.length:Int))=Y:=zW (by rw[hl,C7];show ¬ ((((bP b).length+1:Nat):Int)<_);omega);simp only[hd,zY]),aA,zW (show ¬ t.1.length=(bP b).length by omega)]
   rfl
theorem BI.topw{k:Nat}{b:den aT}(h:BI k b){t:den B2}{p:dF}(h1:t.1.length<=8)(h2:t.2.length<=k+1)(h3:p.length=t.1.length):BI (k+1) (UK b t p):=
 ⟨h1,h2,by have :=h.db;show kN (bK b)<=_;omega,h.hops,h3,h.net.mono (by omega)⟩
theorem bE3{k:Nat}{b:den aT}(h:BI k b)(hk:k<=80)(core:Bool)(isd:Int):Fx k (mL b core isd) (K6 (Di b) isd core):=by
 have ht:=h.top hk;have ha:=h.as;have hp:=h.pol;generalize hT:((bT b).1++[(isd,core,wr ((1000:Int)+((bT b).1.length:Int)))],(bT b).2)=t;have h1:t.1.length=(bT b).1.length+1:=by rw[<- hT];simp
 have h2:t.2=(bT b).2:=by rw[<- hT]
 have ht':eU t:=⟨by omega,by rw[h2];exact ht.links⟩
 have eg:=bUi (t:=t) h ht' (.inr (by omega));have ec:eQ b.1=U b.1:=SK ht.sm;have ec':mC b.1=U b.1:=SP ht.sm;have ap1:aF 24 b.1.1.length 1=X:=aC (by decide) (show (bT b).1.length+1<=_ by omega);have ap2:aF 32 b.2.2.1.length 1=X:=aC (by decide) (show (bP b).length+1<=_ by omega);have hT':(b.1.1++[(isd,core,wr ((1000:Int)+(b.1.1.length:Int)))],b.1.2)=t:=hT;have hw:wr (((b.1.1++[(isd,core,wr ((1000:Int)+(b.1.1.length:Int)))]).length:Int) - 1)=(b.1.1.length:Int):=by
  rw[C7,IF];exact (wri (by omega) (by show ((((bT b).1.length+1:Nat):Int) - 1)<=_;omega)).trans (by omega)
 have hfst:b.1.1++[(isd,core,wr ((1000:Int)+(b.1.1.length:Int)))]=t.1:=congrArg Prod.fst hT';rw[zW (show ¬ t.1.length=(bP b).length by omega)]at eg;unfold mL K6 Di DX A1 B6 Cv aL A0 A4 A3 A8;simp only[aD,ec,ec',aA,ap1,ap2,zZ,hw];simp only[hfst,show b.1.2=t.2 from h2.symm];cases cv:mO t with
 | false=>
  rw[cv]at eg;refine⟨DG Y,b,?_,?_,HX _,h.next⟩
  .rw[show mM b (t.1,t.2)=_ from eg];rfl
  .rw[show bY (t.1,t.2)=U (mO t) from GU ht'.sm,cv,h2];rfl
 | true=>
  rw[cv]at eg;have h8:=bXp cv;have hs:=MA t (b.1.1.length:Int);refine⟨Dp t (b.1.1.length:Int),UK b t (bP b++[G7]),?_,?_,by omega,h.topw h8 (by have hh:=h.links;rw[<- h2]at hh;omega) (by rw[C7,IF];omega)⟩
  .rw[show mM b (t.1,t.2)=_ from eg];simp only[aA,zZ,BZ,zY];rw[show pY (t.1,t.2) (b.1.1.length:Int)=U (Dp t (b.1.1.length:Int)) from YH ht' _];rfl
  .rw[show bY (t.1,t.2)=U (mO t) from GU ht'.sm,cv];simp only[aA,BZ,zY];rw[show qG (t.1,t.2) (b.1.1.length:Int)=U (Dp t (b.1.1.length:Int)) from Ys ht' _];rfl
def OY(a b c:Bool):Int:=cond a 1 (cond b 2 (cond c 3 0))
theorem bIp{R:Type}(a b c:Bool)(r:R):(cond a (U (A7 (1:Int))) (cond b (U (A7 (2:Int))) (cond c (U (A7 (3:Int))) (U (A2 r)))):Option (Int⊕R))=cond (a||(b||c)) (U (A7 (OY a b c))) (U (A2 r)):=by
 cases a<;>cases b<;>cases c<;>rfl
def DD:ByteArray:=AH
def J4(w:ByteArray):Bool:=w.toList==Bz.toList
def Jv(w:ByteArray):Bool:=w.toList==BA.toList
def Jz(w:ByteArray):Bool:=w.toList==BB.toList
theorem bXg(b:den aT)(n:List Int){w:ByteArray}(hw:(J4 w||(Jv w||Jz w))=Y):HH (Di b) n w=U (DU DD b):=by
 unfold HH A1 Cv A0 A4 A3 A8;rw[bIp,show (w.toList==Bz.toList||(w.toList==BA.toList||w.toList==BB.toList))=Y from hw];rfl
theorem bKm{k:Nat}{b:den aT}(h:BI k b)(hk:k<=80)(x0 x1 x2 x3:Int){w:ByteArray}(hw:(J4 w||(Jv w||Jz w))=X):Fx k (eK b [x0,x1,x2,x3] (OY (J4 w) (Jv w) (Jz w))) (HH (Di b) [x0,x1,x2,x3] w):=by
 have ht:=h.top hk;have ha:=h.as;have hl:=h.links;have hp:=h.pol;unfold HH A1 Cv A0 A4 A3 A8;rw[bIp,show (w.toList==Bz.toList||(w.toList==BA.toList||w.toList==BB.toList))=X from hw];simp only[zZ,aA,Ea]
 change Fx k (eK b [x0,x1,x2,x3] (OY (J4 w) (Jv w) (Jz w))) _
 rw[show OY (w.toList==Bz.toList) (w.toList==BA.toList) (w.toList==BB.toList)=OY (J4 w) (Jv w) (Jz w) from rfl];generalize OY (J4 w) (Jv w) (Jz w)=q;generalize hT:((bT b).1,(bT b).2++[(x0,x1,x2,x3,q)])=t;have h1:t.1=(bT b).1:=by rw[<- hT]
 have h2:t.2.length=(bT b).2.length+1:=by rw[<- hT];simp
 have ht':eU t:=⟨by rw[h1];exact ht.as,by omega⟩
 have eg:=bUi (t:=t) h ht' (.inl (by rw[h1];exact hp.symm));rw[zX (show t.1.length=(bP b).length by rw[h1];exact hp.symm)]at eg;have ec:eQ b.1=U b.1:=SK ht.sm;have ec':mC b.1=U b.1:=SP ht.sm;have ap1:aF 40 b.1.2.length 1=X:=aC (by decide) (show (bT b).2.length+1<=_ by omega);have hT':(b.1.1,b.1.2++[(x0,x1,x2,x3,q)])=t:=hT;have hsnd:b.1.2++[(x0,x1,x2,x3,q)]=t.2:=congrArg Prod.snd hT';unfold eK Di DX A1 aL A0;rw[show idx [x0,x1,x2,x3] (0:Int)=U x0 from rfl,show idx [x0,x1,x2,x3] (1:Int)=U x1 from rfl,show idx [x0,x1,x2,x3] (2:Int)=U x2 from rfl,show idx [x0,x1,x2,x3] (3:Int)=U x3 from rfl];simp only[aD,ec,ec',aA,ap1,zZ,hT'];cases cv:mO t with
 | false=>
  rw[cv]at eg;refine⟨DG Y,b,?_,?_,HX _,h.next⟩
  .rw[eg];rfl
  .rw[GU ht'.sm,cv];rfl
 | true=>
  rw[cv]at eg;refine⟨DG X,UK b t (bP b),?_,?_,HX _,h.topw (by rw[h1];exact ha) (by omega) (by rw[h1];exact hp)⟩
  .rw[eg];rfl
  .rw[GU ht'.sm,cv,hsnd,show b.1.1=t.1 from h1.symm];rfl
def IK(b:den aT)(k:Db):q2:=
 (b.1.1,b.1.2,k.1,k.2,b.2.2.2.1,b.2.2.2.2.1.1,b.2.2.2.2.1.2,b.2.2.2.2.2.1.1,b.2.2.2.2.2.1.2,b.2.2.2.2.2.2.1.1,b.2.2.2.2.2.2.1.2.1,b.2.2.2.2.2.2.1.2.2,b.2.2.2.2.2.2.2.1,b.2.2.2.2.2.2.2.2.1,b.2.2.2.2.2.2.2.2.2.1,b.2.2.2.2.2.2.2.2.2.2.1,b.2.2.2.2.2.2.2.2.2.2.2.1,b.2.2.2.2.2.2.2.2.2.2.2.2)
abbrev K8:={k:Db // KH 8 k}
noncomputable def Gw(t:den B2)(a:K8)(x:den B9):K8:=⟨Hw t a.1 x,cKd a.2⟩
def cMy(b:den aT)(k:Db):den aT:=(b.1,k,b.2.2)
theorem bQ1{k:Nat}{b:den aT}(h:BI k b)(hk:k<=80):Fx k (pT b) (Kw (Di b)):=by
 have ht:=h.top hk;have ha:=h.as;have hp:=h.pol;have hd:=h.db;obtain⟨st,e1,e2,e3,e4⟩:=cGt (t:=bT b) (l:=bP b) ht (by omega) (by omega) (bN b);obtain⟨j,f1,f2,f3,f4⟩:=bUg (t:=bT b) (l:=bP b) (b:=(bN b,st)) ht (by omega) e3 e4;unfold kN at f3;have ec:dY j.1=U j.1:=MB (Ju (by omega) f4.1);have run:∀(l:Co) (a:K8),(∀x∈l,x.2.2.length<=10)->l.length<=96->kN a.1+l.length<=10000->
   kN (l.foldl (Gw (bT b)) a).1<=kN a.1+l.length:=by
  intro l
  induction l with
  | nil=>intro a _ _ _;exact Cz _
  | cons x l ih=>
   intro a h1 h2 h3;have :=To (bT b) a.1 x;rw[C6]at h2 h3;have :=ih (Gw (bT b) a x) (λy hy=>h1 y (C1 _ hy)) (by omega) (by show kN (Hw (bT b) a.1 x)+_<=_;omega);rw[EX,C6];have e:kN (Gw (bT b) a x).1=kN (Hw (bT b) a.1 x):=rfl;omega
 let a0:K8:=⟨bK b,h.hops⟩
 have hb:∀x∈j.1++j.2,x.2.2.length<=10:=λx hx=>(C0.1 hx).elim (f4.1 x) (f4.2 x)
 have hn:((j.1++j.2).length)<=96:=by rw[C7];exact f3
 let a1:=j.1.foldl (Gw (bT b)) a0
 let a2:=(j.1++j.2).foldl (Gw (bT b)) a0
 have g2:=run (j.1++j.2) a0 hb hn (by show kN (bK b)+_<=_;omega);have g1:=run j.1 a0 (λx hx=>hb x (C0.2 (.inl hx))) (by omega) (by show kN (bK b)+_<=_;omega);have ea:a2=j.2.foldl (Gw (bT b)) a1:=List.foldl_append;have h0:kN (bK b)<=7680:=by omega
 refine⟨eJ (wr ((a2.1.1.length:Int)+(a2.1.2.length:Int))),cMy b a2.1,?_,?_,by have :=iR (wr ((a2.1.1.length:Int)+(a2.1.2.length:Int)));omega,⟨h.as,by have :=h.links;show (bT b).2.length<=_;omega,?_,a2.2,hp,h.net.mono (by omega)⟩⟩
 .unfold pT dd BX ET I1 A1 A6 Cv A0 A4 A3 A8;simp only[aD];rw[show dA b.1 b.2.2.1 b.2.2.2.1=_ from e1];simp only[aA];rw[show cM b.1 b.2.2.1 (b.2.2.2.1,st)=_ from f1];simp only[aA,bB,cB,bL,bJ,bO,ec,aC (b:=40) (n:=j.1.length) (m:=j.2.length) (by decide) (by omega),zZ];rw[(jJ (λn (a:K8)=>((n:Int),IK b a.1)) ((0:Int),b.1.1,b.1.2,b.2.1.1,b.2.1.2,b.2.2.2.1,b.2.2.2.2.1.1,b.2.2.2.2.1.2,b.2.2.2.2.2.1.1,b.2.2.2.2.2.1.2,b.2.2.2.2.2.2.1.1,b.2.2.2.2.2.2.1.2.1,b.2.2.2.2.2.2.1.2.2,b.2.2.2.2.2.2.2) a0 (j.1++j.2) (λ_ x a=>Gw (bT b) a x) (λa=>kN a.1) (λ_=>1) 10000 (λa=>IK b a.1) rfl (by omega) (by rw[cT];show kN (bK b)+_<=_;omega) (λn x a hi hx hd hw hk hb'=>by
   have hx':=hb x (Cm hx);have e:=cKu (t:=bT b) (k:=a.1) (s:=x) ht (by omega) (a.2.mono (by decide)) hx';refine⟨?_,To _ _ _⟩;simp only[IK,hd,bF,zZ,Cj,hx,aA,aD,hw];rw[show uO b.1 a.1 x=_ from e];rfl) (λa=>by simp)).1,rS (Gw (bT b))]
  simp only[aA];show Option.bind (sV (a2.1.1,a2.1.2)) _=_;unfold sV;simp only[aA,L1];rfl
 .unfold Kw Di dd BX ET I1 A1 A6 Cv A0 A4 A3 A8;simp only[aD];rw[show dB b.1 b.2.2.1 b.2.2.2.1=_ from e2];simp only[aA];rw[show dM b.1 b.2.2.1 (b.2.2.2.1,st)=_ from f2];simp only[aA,bB,cB,bL,bJ,bO];rw[(jJ (λn (a:K8)=>((n:Int),IK b a.1)) ((0:Int),b.1.1,b.1.2,b.2.1.1,b.2.1.2,b.2.2.2.1,b.2.2.2.2.1.1,b.2.2.2.2.1.2,b.2.2.2.2.2.1.1,b.2.2.2.2.2.1.2,b.2.2.2.2.2.2.1.1,b.2.2.2.2.2.2.1.2.1,b.2.2.2.2.2.2.1.2.2,b.2.2.2.2.2.2.2) a0 j.1 (λ_ x a=>Gw (bT b) a x) (λa=>kN a.1) (λ_=>1) 10000 (λa=>IK b a.1) rfl (by omega) (by rw[cT];show kN (bK b)+_<=_;omega) (λn x a hi hx hd hw hk hb'=>by
   have hx':=f4.1 x (Cm hx);have e:=bVo (t:=bT b) (k:=a.1) (s:=x) ht (by omega) (a.2.mono (by decide)) hx';refine⟨?_,To _ _ _⟩;simp only[IK,hd,bF,zZ,Cj,hx,aA,aD,hw];rw[show oN b.1 a.1 x=_ from e];rfl) (λa=>by simp)).1,rS (Gw (bT b))]
  simp only[aA];rw[(jJ (λn (a:K8)=>((n:Int),IK b a.1)) ((0:Int),IK b a1.1) a1 j.2 (λ_ x a=>Gw (bT b) a x) (λa=>kN a.1) (λ_=>1) 10000 (λa=>IK b a.1) rfl (by omega) (by rw[cT];show kN a1.1+_<=_;have :kN a1.1<=kN (bK b)+j.1.length:=g1;omega) (λn x a hi hx hd hw hk hb'=>by
   have hx':=f4.2 x (Cm hx);have e:=bVo (t:=bT b) (k:=a.1) (s:=x) ht (by omega) (a.2.mono (by decide)) hx';refine⟨?_,To _ _ _⟩;simp only[IK,hd,bF,zZ,Cj,hx,aA,aD,hw];rw[show oN b.1 a.1 x=_ from e];rfl) (λa=>by simp)).1,rS (Gw (bT b)),<- ea]
  simp only[aA];show Option.bind (sZ (a2.1.1,a2.1.2)) _=_;unfold sZ;simp only[aA,JG];rfl
 .have :kN a2.1<=kN (bK b)+(j.1++j.2).length:=g2;show kN a2.1<=_;omega
theorem bL3:∀{a b x y:List UInt8},(∀c∈a,c≠32)->(∀c∈b,c≠32)->a++32::x=b++32::y->a=b/\x=y
 | [],[],_,_,_,_,h=>⟨rfl,(GH.inj h).2⟩
 | [],b::bs,_,_,_,hb,h=>absurd (GH.inj h).1.symm (hb b (by simp))
 | a::as,[],_,_,ha,_,h=>absurd (GH.inj h).1 (ha a (by simp))
 | a::as,b::bs,_,_,ha,hb,h=>by
  have h1:=GH.inj h;have h2:=bL3 (λc hc=>ha c (C1 _ hc)) (λc hc=>hb c (C1 _ hc)) h1.2;exact⟨by rw[h1.1,h2.1],h2.2⟩
theorem bI9:∀(k:Nat) (n:Int) (a:List Int),a.length+1<=(sE (k+1) n a).length
 | 0,n,a=>by
  unfold sE;cases wr (CQ n 10)==(0:Int) with
  | true=>simp
  | false=>unfold sE;simp
 | k+1,n,a=>by
  unfold sE;cases wr (CQ n 10)==(0:Int) with
  | true=>simp
  | false=>
   have :=bI9 k (wr (CQ n 10)) ([FU n]++a);rw[C7,IF]at this;show _<=(sE (k+1) _ _).length;omega
theorem bW8{n:Nat}(h:10<=n)(h2:n<=1000000):2<=(eJ (n:Int)).size:=by
 unfold eJ;rw[zW (by omega),zY,PM];unfold sE;have e:CQ (n:Int) 10=((n / 10:Nat):Int):=rfl;have hq:wr (CQ (n:Int) 10)=((n / 10:Nat):Int):=by rw[e];exact wri (by omega) (by omega)
 rw[hq,beq_false_of_ne (show ((n / 10:Nat):Int)≠0 by omega),zY];exact bI9 20 ((n / 10:Nat):Int) ([FU (n:Int)]++[])
theorem W7:∀{n:Nat},n<10->(eJ (n:Int)).data.toList=[48+UInt8.ofNat n]
 | 0,_=>by decide
 | 1,_=>by decide
 | 2,_=>by decide
 | 3,_=>by decide
 | 4,_=>by decide
 | 5,_=>by decide
 | 6,_=>by decide
 | 7,_=>by decide
 | 8,_=>by decide
 | 9,_=>by decide
 | n+10,h=>by omega
theorem cFg:∀n<10,∀d<10,(48+UInt8.ofNat n=48+UInt8.ofNat d)->n=d:=by decide
theorem cmp{w cmd aHe:ByteArray}{n d:Nat}(hw:∀c∈w.data.toList,c≠32)(hn:n<=1000000)(hc:∀c∈cmd.data.toList,c≠32)(hd:d<10)(hf:aHe.data.toList=cmd.data.toList++[32,48+UInt8.ofNat d]):
  (((w++Ak)++eJ (n:Int)).toList==aHe.toList)=(w.toList==cmd.toList&&D (n=d)):=by
 rw[bl,bl,bl,bl,hf,CG,Ck,beq_iff_eq,beq_iff_eq,zR];have e:((w++Ak)++eJ (n:Int)).data.toList=w.data.toList++32::(eJ (n:Int)).data.toList:=by simp
 rw[e];constructor
 .intro h;obtain⟨h1,h2⟩:=bL3 hw hc h;refine⟨h1,?_⟩
  by_cases hlt:n<10
  .rw[W7 hlt]at h2;exact cFg _ hlt _ hd (GH.inj h2).1
  .have h3:=bW8 (n:=n) (by omega) hn;rw[<- nN,h2]at h3;exact absurd h3 (by simp)
 .rintro⟨h1,h2⟩
  rw[h1,h2,W7 hd]
theorem Dw{w a b:ByteArray}(h:(w.toList==a.toList)=X)(hab:(a.data.toList==b.data.toList)=Y):(w.toList==b.toList)=Y:=by
 rw[bl,bl,beq_iff_eq]at h;rw[bl,bl,h];exact hab
def Y6(w:ByteArray):Int:=cond (w.toList==BF.toList) 2 (cond (w.toList==BG.toList) 3 (cond (w.toList==BH.toList) 4 (cond (w.toList==BJ.toList) 5 (cond (w.toList==BK.toList) 6 (cond (w.toList==BM.toList) 9 0)))))
theorem bZ7(a b:List UInt8):(a==b)=(b==a):=by rw[CG,beq_iff_eq,beq_iff_eq];exact eq_comm
theorem cJ3(w:ByteArray):KG w=U (Y6 w):=by
 have n1:cI 1=U As:=by rfl
 have n2:cI 2=U BF:=by rfl
 have n3:cI 3=U BG:=by rfl
 have n4:cI 4=U BH:=by rfl
 have n5:cI 5=U BJ:=by rfl
 have n6:cI 6=U BK:=by rfl
 have n7:cI 7=U BL:=by rfl
 have n8:cI 8=U Bx:=by rfl
 have n9:cI 9=U BM:=by rfl
 unfold KG Y6;simp only[bZ7 w.toList];rw[aO (s':=(2:Int)) (by
  show cond _ (Option.bind (Option.bind (cI 1) _) _) _=_;rw[n1];cases h:(As.toList==w.toList)<;>simp only[aA,h]<;>rfl)]
 cases h2:(BF.toList==w.toList) with
 | true=>rw[aH (r:= .inr (2:Int)) (by
   show cond _ (Option.bind (Option.bind (cI 2) _) _) _=_;rw[n2];simp only[aA,h2];rfl)];rfl
 | false=>
  rw[aO (s':=(3:Int)) (by
   show cond _ (Option.bind (Option.bind (cI 2) _) _) _=_;rw[n2];simp only[aA,h2];rfl)]
  cases h3:(BG.toList==w.toList) with
  | true=>rw[aH (r:= .inr (3:Int)) (by
    show cond _ (Option.bind (Option.bind (cI 3) _) _) _=_;rw[n3];simp only[aA,h3];rfl)];rfl
  | false=>
   rw[aO (s':=(4:Int)) (by
    show cond _ (Option.bind (Option.bind (cI 3) _) _) _=_;rw[n3];simp only[aA,h3];rfl)]
   cases h4:(BH.toList==w.toList) with
   | true=>rw[aH (r:= .inr (4:Int)) (by
     show cond _ (Option.bind (Option.bind (cI 4) _) _) _=_;rw[n4];simp only[aA,h4];rfl)];rfl
   | false=>
    rw[aO (s':=(5:Int)) (by
     show cond _ (Option.bind (Option.bind (cI 4) _) _) _=_;rw[n4];simp only[aA,h4];rfl)]
    cases h5:(BJ.toList==w.toList) with
    | true=>rw[aH (r:= .inr (5:Int)) (by
      show cond _ (Option.bind (Option.bind (cI 5) _) _) _=_;rw[n5];simp only[aA,h5];rfl)];rfl
    | false=>
     rw[aO (s':=(6:Int)) (by
      show cond _ (Option.bind (Option.bind (cI 5) _) _) _=_;rw[n5];simp only[aA,h5];rfl)]
     cases h6:(BK.toList==w.toList) with
     | true=>rw[aH (r:= .inr (6:Int)) (by
       show cond _ (Option.bind (Option.bind (cI 6) _) _) _=_;rw[n6];simp only[aA,h6];rfl)];rfl
     | false=>
      rw[aO (s':=(7:Int)) (by
       show cond _ (Option.bind (Option.bind (cI 6) _) _) _=_;rw[n6];simp only[aA,h6];rfl),aO (s':=(8:Int)) (by
       show cond _ (Option.bind (Option.bind (cI 7) _) _) _=_;rw[n7];cases h:(BL.toList==w.toList)<;>simp only[aA,h]<;>rfl),aO (s':=(9:Int)) (by
       show cond _ (Option.bind (Option.bind (cI 8) _) _) _=_;rw[n8];cases h:(Bx.toList==w.toList)<;>simp only[aA,h]<;>rfl)]
      cases h9:(BM.toList==w.toList) with
      | true=>rw[aH (r:= .inr (9:Int)) (by
        show cond _ (Option.bind (Option.bind (cI 9) _) _) _=_;rw[n9];simp only[aA,h9];rfl)];rfl
      | false=>
       rw[aO (s':=(10:Int)) (by
        show cond _ (Option.bind (Option.bind (cI 9) _) _) _=_;rw[n9];simp only[aA,h9];rfl),aH (r:= .inl ()) (by rfl)]
       rfl
abbrev Dr:=ByteArray×den aT
def tW(p:Dr):Option q5:=U (DU p.1 p.2)
def Fk(k:Nat)(p:Dr):Prop:=p.1.size<=100000000000/\BI (k+1) p.2
theorem Qw{k:Nat}{p:Dr}(h:Fk k p):Fx k (tW p) (tW p):=⟨p.1,p.2,rfl,rfl,h.1,h.2⟩
def cNk(b:den aT)(p:dF):den aT:=(b.1,b.2.1,p,b.2.2.2)
def Rr(b:den aT)(x0 x1 x2 x3 x4:Int):Dr:=cond (cK (bT b) x0&&Gs (x1,x3,x4,x2)) (DG X,cNk b ((bP b).set x0.toNat (x1,x3,x4,x2))) (DG Y,b)
theorem bWk{k:Nat}{b:den aT}(h:BI k b)(x0 x1 x2 x3 x4:Int):Fk k (Rr b x0 x1 x2 x3 x4):=by
 unfold Rr;cases cK (bT b) x0&&Gs (x1,x3,x4,x2) with
 | false=>exact⟨HX Y,h.next⟩
 | true=>exact⟨HX X,⟨h.as,by have :=h.links;show (bT b).2.length<=_;omega,by have :=h.db;show kN (bK b)<=_;omega,h.hops,by show Cr (List.set _ _ _)=_;rw[Ml];exact h.pol,h.net.mono (by omega)⟩⟩
theorem cHj{k:Nat}{b:den aT}(h:BI k b)(hk:k<=80)(x0 x1 x2 x3 x4:Int):jU b [x0,x1,x2,x3,x4]=tW (Rr b x0 x1 x2 x3 x4):=by
 have ha:=h.as;have hp:=h.pol;unfold jU Rr A1 Cv A0 A4 A3 A8;rw[show idx [x0,x1,x2,x3,x4] (0:Int)=U x0 from rfl,show idx [x0,x1,x2,x3,x4] (1:Int)=U x1 from rfl,show idx [x0,x1,x2,x3,x4] (2:Int)=U x2 from rfl,show idx [x0,x1,x2,x3,x4] (3:Int)=U x3 from rfl,show idx [x0,x1,x2,x3,x4] (4:Int)=U x4 from rfl];simp only[aD,aA,bMg];rw[show fT b.1 x0=U (cK (bT b) x0) from Fa (show (bT b).1.length<=_ by omega),aA];cases c:cK (bT b) x0 with
 | false=>rfl
 | true=>
  cases Gs (x1,x3,x4,x2) with
  | false=>rfl
  | true=>
   obtain⟨g0,g1⟩:=bQ.1 c;have hlt:x0<(b.2.2.1.length:Int):=by show x0<((bP b).length:Int);rw[hp];omega
   have hlt2:x0.toNat<b.2.2.1.length:=by omega
   simp only[BZ,zY,aA,zX g0,zX hlt,zX hlt2,zZ];rfl
theorem cI4{k:Nat}{b:den aT}(h:BI k b){x0:Int}(h0:0<=x0):D (x0>=(b.2.2.1.length:Int))= !cK (bT b) x0:=by
 have hp:=h.pol;have e:(b.2.2.1.length:Int)=((bT b).1.length:Int):=by rw[<- hp]
 rw[e];unfold cK;cases c:B3 x0 0 (((bT b).1.length:Int) - 1) with
 | true=>obtain⟨g0,g1⟩:=bQ.1 c;exact zW (by omega)
 | false=>exact zX (by have :=SN.1 c;omega)
noncomputable def bVm(b:den aT)(x y:Int):Dr:=(eJ ((hZ (bT b) (bK b) x y (bN b)).length:Int),b)
theorem bKn{k:Nat}{b:den aT}(h:BI k b)(x y:Int):Fk k (bVm b x y):=⟨B5 (iR ((hZ (bT b) (bK b) x y (bN b)).length:Int)) (by decide),h.next⟩
theorem BI.find{k:Nat}{b:den aT}(h:BI k b)(hk:k<=80)(x y:Int):iC b.1 b.2.1 x y b.2.2.2.1=U (hZ (bT b) (bK b) x y (bN b))/\fO b.1 b.2.1 x y b.2.2.2.1=U (hZ (bT b) (bK b) x y (bN b)):=by
 have ha:=h.as;have hl:=h.links;exact⟨Xq (t:=bT b) (k:=bK b) (by omega) (by omega) (h.dbs hk) x y (bN b),WF (t:=bT b) (k:=bK b) (by omega) (by omega) (h.dbs hk) x y (bN b)⟩
theorem bIh{k:Nat}{b:den aT}(h:BI k b)(hk:k<=80)(x y:Int):mN b x y=U (hZ (bT b) (bK b) x y (bN b),(DU Aa b).2):=by
 unfold mN A1 Cv A0 A4 A3 A8;simp only[aD];rw[(h.find hk x y).1];rfl
noncomputable def QI(b:den aT)(x y i:Int):Dr:=(cond (D (i>=((uL (hZ (bT b) (bK b) x y (bN b))).length:Int))) cA0 (Ni (bT b) (((uL (hZ (bT b) (bK b) x y (bN b)))[i.toNat]?).getD [])),b)
theorem Vp{k:Nat}{b:den aT}(h:BI k b)(hk:k<=80)(x y:Int):tot (.sl B4) (hZ (bT b) (bK b) x y (bN b))<=672/\tot (.sl B4) (uL (hZ (bT b) (bK b) x y (bN b)))<=672:=by
 have h1:=bEq (WI (t:=bT b) (h.dbs hk) x y (bN b));have h2:=RT (hZ (bT b) (bK b) x y (bN b));exact⟨by omega,by omega⟩
theorem bPe{t:den B2}{p:den B4}(h:tot B4 p<=1000):(Ni t p).size<=100000000000:=by
 have h1:=aUg ((iD p).map (Gn t));have h2:=Qb (l:=(iD p).map (Gn t)) (c:=150) λx hx=>by
  obtain⟨y,_,rfl⟩:=Ch.1 hx;exact bAn t y
 have :=Jb p;rw[CF]at h2;unfold Ni;omega
theorem Wt{k:Nat}{b:den aT}(h:BI k b)(hk:k<=80){x y i:Int}(h0:0<=i)(hi:D (i>=((uL (hZ (bT b) (bK b) x y (bN b))).length:Int))=Y):∃p:den B4,idx (uL (hZ (bT b) (bK b) x y (bN b))) i=U p/\(uL (hZ (bT b) (bK b) x y (bN b)))[i.toNat]? =U p/\tot B4 p<=1000:=by
 have hlt:=of_decide_eq_false hi;have hg:(uL (hZ (bT b) (bK b) x y (bN b)))[i.toNat]? =U _:=Cs (by omega);refine⟨_,J5 h0 hg,hg,?_⟩;have :=kE (t:=B4) (Cm hg);have :=(Vp h hk x y).2;omega
theorem bQb{k:Nat}{b:den aT}(h:BI k b)(hk:k<=80){x y i:Int}(h0:0<=i):Fk k (QI b x y i):=by
 refine⟨?_,h.next⟩;unfold QI;cases c:D (i>=((uL (hZ (bT b) (bK b) x y (bN b))).length:Int)) with
 | true=>exact (by decide:4<=100000000000)
 | false=>
  obtain⟨p,_,e2,e3⟩:=Wt h hk h0 c;rw[e2];exact bPe e3
theorem cEl{k:Nat}{b:den aT}(h:BI k b)(hk:k<=80){x y i:Int}(h0:0<=i):tL b x y i=tW (QI b x y i):=by
 unfold tL QI DX A1 aL A0;simp only[aD];rw[show mN b x y=_ from bIh h hk x y];simp only[aA];rw[bMk (B5 (Vp h hk x y).1 (by decide)),aA];cases c:D (i>=((uL (hZ (bT b) (bK b) x y (bN b))).length:Int)) with
 | true=>rfl
 | false=>
  obtain⟨p,e1,e2,e3⟩:=Wt h hk h0 c;rw[zY,e1,e2,aA];show Option.bind (uA (bT b) p) _=_;rw[cGr (h.top hk) e3];rfl
def QW(b:den aT)(x:Int):Dr:=cond (D (x>(1000000:Int))) (DG Y,b) (DG X,(b.1,b.2.1,b.2.2.1,x,b.2.2.2.2))
theorem bO3{k:Nat}{b:den aT}(h:BI k b)(x:Int):Fk k (QW b x):=by
 unfold QW;cases D (x>(1000000:Int)) with
 | true=>exact⟨HX Y,h.next⟩
 | false=>exact⟨HX X,⟨h.as,by have :=h.links;show (bT b).2.length<=_;omega,by have :=h.db;show kN (bK b)<=_;omega,h.hops,h.pol,h.net.mono (by omega)⟩⟩
def Gx(b:den aT)(x:Int):den B1:=cond (LD (bT b) (bN b)) ((bT b),(bK b),(cond (B3 x 1 20) x 1,[],[]),bN b,[],[],[],[],0) (([],[]),([],[]),(0,[],[]),0,[],[],[],[],0)
theorem bHi{l:Co}(h:∀s∈l,s.2.2.length<=8):tot (.sl B9) l<=9 * l.length:=S9 λs hs=>by
 have e:tot B9 s=s.2.2.length:=by
  show _+(_+tot (.sl cH) s.2.2)=_;rw[qW rfl];simp[tot]
 have :=h s hs;omega
theorem bN5{w:den B1}(h1:bS w=[])(h2:aG w=[]):tB w:=⟨λx hx=>(Dl (h1▸hx)).elim,λx hx=>(Dl (h2▸hx)).elim⟩
theorem Wr(t:den B2)(k:den CS)(c n d:Int)(ht:t.1.length+t.2.length<=1000)(hk:Dv k)(hn:k.1.length+k.2.length<=100000):NB 1000000 (t,k,(c,[],[]),n,[],[],[],[],d):=by
 have h1:tot (.sl B9) k.1<=9 * k.1.length:=bHi hk.hd1;have h2:tot (.sl B9) k.2<=9 * k.2.length:=bHi hk.hc1;have h3:tot (.sl CN) t.1=t.1.length:=qW rfl;have h4:tot (.sl C8) t.2=t.2.length:=qW rfl;refine⟨⟨?_,C3 _,bN5 rfl rfl⟩,λx hx=>(Dl hx).elim,⟨by show t.1.length<=_;omega,by show t.2.length<=_;omega,hk⟩⟩;rw[dX];show (tot (.sl CN) t.1+tot (.sl C8) t.2)+((tot (.sl B9) k.1+tot (.sl B9) k.2)+((0+(tot (.sl C9) []+tot (.sl CW) []))+(0+(tot (.sl ti) []+(tot (.sl C5) []+(tot (.sl B7) []+(tot (.sl Cq) []+0)))))))<=1000000;have z1:tot (.sl C9) []=0:=rfl;have z2:tot (.sl CW) []=0:=rfl;have z3:tot (.sl ti) []=0:=rfl;have z4:tot (.sl C5) []=0:=rfl;have z5:tot (.sl B7) []=0:=rfl;have z6:tot (.sl Cq) []=0:=rfl;omega
theorem Xg{k:Nat}{b:den aT}(h:BI k b)(hk:k<=80)(x:Int):NB 1000000 (Gx b x):=by
 have ha:=h.as;have hl:=h.links;have hd:=h.db;unfold Gx;cases LD (bT b) (bN b) with
 | true=>exact Wr _ _ _ _ _ (by omega) (h.dbs hk) (by unfold kN at hd;omega)
 | false=>exact Wr ([],[]) ([],[]) _ _ _ (by simp) ⟨by simp,by simp,λs hs=>(Dl hs).elim,λs hs=>(Dl hs).elim⟩ (by simp)
def Qy(b:den aT)(x:Int):Dr:=(DG (DZ (Gx b x)),JP b (Gx b x))
theorem bK6{k:Nat}{b:den aT}(h:BI k b)(hk:k<=80)(x:Int):Fk k (Qy b x):=⟨HX _,h.netw ((Xg h hk x).mono (by omega))⟩
theorem bSi{b:den aT}(x:Int):cond (LD (bT b) (bN b)) (cond (B3 x 1 20) x 1,bN b,(0:Int),(bT b).1,(bT b).2,(bK b).1,(bK b).2,([]:C4),([]:Dk),([]:List Int),([]:CR),([]:CK),([]:Dj)) (0,0,0,[],[],[],[],[],[],[],[],[],[])=E6 (Gx b x):=by
 unfold Gx;cases LD (bT b) (bN b)<;>rfl
theorem bXo{k:Nat}{b:den aT}(h:BI k b)(hk:k<=80)(x:Int):vT b x=tW (Qy b x):=by
 have hs:Cc 549755813888 CS (bK b):=by
  have hd:=h.db;unfold kN at hd;exact⟨Ju (by omega) (λs hs=>B5 (h.hops.1 s hs) (by decide)),Ju (by omega) (λs hs=>B5 (h.hops.2 s hs) (by decide))⟩
 have e:=cIb (c:=x) (now:=bN b) (h.top hk).sm hs;unfold vT Qy A1 aS bA bZ A0 A4 A3 A8 B0 B8;simp only[aD];rw[show tY b.1 b.2.1 x b.2.2.2.1=U (E6 (Gx b x)) from e.trans (congrArg U (bSi x)),aA];show Option.bind (gS (Gx b x)) _=_;rw[XE (B5 (Xg h hk x).keep.tot (by decide)),aA];unfold pN;cases DZ (Gx b x)<;>rfl
theorem cLa{k:Nat}{b:den aT}(h:BI k b)(hk:k<=80)(x:Int):rW b.1 b.2.1 x b.2.2.2.1=U (E6 (Gx b x)):=by
 have hs:Cc 549755813888 CS (bK b):=by
  have hd:=h.db;unfold kN at hd;exact⟨Ju (by omega) (λs hs=>B5 (h.hops.1 s hs) (by decide)),Ju (by omega) (λs hs=>B5 (h.hops.2 s hs) (by decide))⟩
 exact (cJp (c:=x) (now:=bN b) (h.top hk).sm hs).trans (congrArg U (bSi x))
noncomputable def TC(b:den aT)(x y:Int):Dr:=(DG (!EC (bW b) (x,y,0,0,[],[],0,0,[])),JP b (Np (bW b) (x,y,0,0,[],[],0,0,[])))
theorem bOd{k:Nat}{b:den aT}(h:BI k b)(x y:Int):Fk k (TC b x y):=⟨HX _,h.netw ((bK1 h.net (f:=(x,y,0,0,[],[],0,0,[])) (by rw[Jm];simp[tot]) rfl).mono (by omega))⟩
noncomputable def SM(b:den aT)(n:Int):Dr:=(LK (jM (bW b) n),JP b (jM (bW b) n))
theorem aUm{k:Nat}{b:den aT}(h:BI k b)(n:Int):Fk k (SM b n):=by
 have hn:NB (1000000+330000000 * (k+1)) (jM (bW b) n):=(X8 h.net).mono (by omega);exact⟨B5 (bEv hn) (by decide),h.netw hn⟩
theorem bUp{k:Nat}{b:den aT}(h:BI k b)(hk:k<=80)(n:Int):eN (JP b (jM (bW b) n))=tW (SM b n):=by
 have hn:NB (1000000+330000000 * (k+1)) (jM (bW b) n):=(X8 h.net).mono (by omega);exact bUj (b:=JP b (jM (bW b) n)) hn (by omega)
theorem bVf{k:Nat}{b:den aT}(h:BI k b)(hk:k<=80)(n:Int):jI (jM (bW b) n)=U (LK (jM (bW b) n)):=by
 have hn:NB (1000000+330000000 * (k+1)) (jM (bW b) n):=(X8 h.net).mono (by omega);exact bVi hn (by omega)
theorem BI.tot{k:Nat}{b:den aT}(h:BI k b)(hk:k<=80):tot B1 (bW b)<=34000000000:=B5 h.net.keep.tot (BI.big hk)
theorem bS4{k:Nat}{b:den aT}(h:BI k b):Fk k (LK (bW b),b):=⟨B5 (bEv h.net) (by decide),h.next⟩
theorem bV4{k:Nat}{b:den aT}(h:BI k b)(hk:k<=80)(i:Int):Fk k (N1 (bW b) i,b):=⟨B5 (bUm h.net (BI.big hk) i) (by decide),h.next⟩
def Ma(b:Bool):ByteArray:=cond b Bu AQ
theorem bSf(y:Bool):(Ma y).size<=100000000000:=by
 cases y
 .exact (by decide:2<=100000000000)
 .exact (by decide:3<=100000000000)
theorem bIn{k:Nat}{b:den aT}(h:BI k b)(y:Bool):Fk k (Ma y,b):=⟨bSf y,h.next⟩
theorem bSd{t:den B2}(h:t.2.length<=100):(LO t).size<=100000000000:=by
 have h1:=aUg (t.2.map (Ep t));have h2:=Qb (l:=t.2.map (Ep t)) (c:=230) λx hx=>by
  obtain⟨y,_,rfl⟩:=Ch.1 hx;exact bE1 t y
 rw[CF]at h2;unfold LO;omega
theorem bUx{k:Nat}{b:den aT}(h:BI k b)(hk:k<=80):Fk k (LO (bT b),b):=⟨bSd (by have :=h.links;omega),h.next⟩
def CP(kind n:Int)(d:List Int):den yP:=(kind,n,d,((0:Int),(0:Int),((0:Int),(0:Int),(0:Int),[],(0:Int),(0:Int),(0:Int),(0:Int),(0:Int),[])))
theorem X4{kind n:Int}{d:List Int}(h:d.length<=5000)(hb:Gg d):ND (CP kind n d):=⟨⟨h,hb⟩,by simp[CP,tot],λx hx=>(Dl hx).elim⟩
noncomputable def Fi(b:den aT)(w:ByteArray)(l:List Int):Option q5:=
 cond (w.toList==Bz.toList&&D (l.length=1)) (Option.bind (idx l (0:Int)) λx=>mL b X x)<|
 cond (w.toList==BN.toList&&D (l.length=1)) (Option.bind (idx l (0:Int)) λx=>mL b Y x)<|
 cond (w.toList==BV.toList&&D (l.length=5)) (jU b l)<|
 cond (w.toList==BE.toList&&D (l.length=0)) (pT b)<|
 cond (w.toList==BO.toList&&D (l.length=1)) (Option.bind (idx l (0:Int)) λx=>tW (QW b x))<|
 cond (w.toList==BS.toList&&D (l.length=2)) (Option.bind (idx l (0:Int)) λx=>Option.bind (idx l (1:Int)) λy=>tW (bVm b x y))<|
 cond (w.toList==BT.toList&&D (l.length=3)) (Option.bind (idx l (0:Int)) λx=>Option.bind (idx l (1:Int)) λy=>Option.bind (idx l (2:Int)) λz=>tL b x y z)<|
 cond (w.toList==BP.toList&&D (l.length=1)) (Option.bind (idx l (0:Int)) λx=>tW (Qy b x))<|
 cond (w.toList==BU.toList&&D (l.length=2)) (Option.bind (idx l (0:Int)) λx=>Option.bind (idx l (1:Int)) λy=>tW (TC b x y))<|
 cond (w.toList==BM.toList&&D (l.length=1)) (Option.bind (idx l (0:Int)) λx=>cU b (CP 9 x []))<|
 cond (w.toList==As.toList&&D (l.length=0)) (cU b (CP 1 0 []))<|
 cond (w.toList==BF.toList&&D (l.length=1)) (Option.bind (idx l (0:Int)) λx=>cU b (CP 2 x []))<|
 cond (w.toList==BG.toList&&D (l.length=1)) (Option.bind (idx l (0:Int)) λx=>cU b (CP 3 x []))<|
 cond (w.toList==BH.toList&&D (l.length=1)) (Option.bind (idx l (0:Int)) λx=>cU b (CP 4 x []))<|
 cond (w.toList==BJ.toList&&D (l.length=1)) (Option.bind (idx l (0:Int)) λx=>cU b (CP 5 x []))<|
 cond (w.toList==BK.toList&&D (l.length=1)) (Option.bind (idx l (0:Int)) λx=>cU b (CP 6 x []))<|
 cond (w.toList==BQ.toList&&D (l.length=1)) (Option.bind (idx l (0:Int)) λx=>tW (SM b x))<|
 cond (w.toList==AB.toList&&D (l.length=0)) (tW (SM b (wr (8+F4 (bW b)))))<|
 cond (w.toList==AD.toList&&D (l.length=0)) (tW (LK (bW b),b))<|
 cond (w.toList==BR.toList&&D (l.length=1)) (Option.bind (idx l (0:Int)) λx=>mD b x)<|
 cond (w.toList==AE.toList&&D (l.length=0)) (tW (Ma ((aG (bW b)).all (FE (bW b))),b))<|
 cond (w.toList==AF.toList&&D (l.length=0)) (tW (Ma (MX (bW b)),b))<|
 cond (w.toList==AG.toList&&D (l.length=0)) (tW (LO (bT b),b))<|
 tW (DD,b)
theorem gY{α:Type}{c:Bool}{x x' y y':α}(h1:x=x')(h2:y=y'):cond c x y=cond c x' y':=by rw[h1,h2]
theorem cHp{k:Nat}{b:den aT}(h:BI k b)(hk:k<=80){w:ByteArray}(hw:∀c∈w.data.toList,c≠32)(hs:w.size<=1000000){l:List Int}(hl:l.length<=1000000):oE b w l=Fi b w l:=by
 have f:=iR (l.length:Int);have C:=λ(aHe cmd:ByteArray) (d:Nat) (hc:∀c∈cmd.data.toList,c≠32) (hd:d<10) (hf:aHe.data.toList=cmd.data.toList++[32,48+UInt8.ofNat d])=>cmp (w:=w) (cmd:=cmd) (aHe:=aHe) (n:=l.length) (d:=d) hw hl hc hd hf
 unfold oE aK DX A1 iN Cv aL aS bA bZ dS A0 A4 A3 A8 B0 B8;rw[show D (w.size+Ak.size<=maxLen)=X from fit (b:=sp1) (by show w.size+1<=_;omega),L1,aA,show D ((w++Ak).size+(eJ (l.length:Int)).size<=maxLen)=X from fit (a:=w++sp1) (by rw[ByteArray.size_append];show (w.size+1)+_<=_;omega),zZ,zZ];rw[C AZ Bz 1 (by decide) (by decide) (by decide),
  C Ba BN 1 (by decide) (by decide) (by decide),
  C Bb BV 5 (by decide) (by decide) (by decide),
  C Bc BE 0 (by decide) (by decide) (by decide),
  C Bd BO 1 (by decide) (by decide) (by decide),
  C Be BS 2 (by decide) (by decide) (by decide),
  C Bf BT 3 (by decide) (by decide) (by decide),
  C Bg BP 1 (by decide) (by decide) (by decide),
  C Bh BU 2 (by decide) (by decide) (by decide),
  C Bi BM 1 (by decide) (by decide) (by decide),
  C Bj As 0 (by decide) (by decide) (by decide),
  C Bk BF 1 (by decide) (by decide) (by decide),
  C Bl BG 1 (by decide) (by decide) (by decide),
  C Bm BH 1 (by decide) (by decide) (by decide),
  C Bn BJ 1 (by decide) (by decide) (by decide),
  C Bo BK 1 (by decide) (by decide) (by decide),
  C Bp BQ 1 (by decide) (by decide) (by decide),
  C Bq AB 0 (by decide) (by decide) (by decide),
  C Br AD 0 (by decide) (by decide) (by decide),
  C Bs BR 1 (by decide) (by decide) (by decide),
  C Bt AE 0 (by decide) (by decide) (by decide),
  C Bv AF 0 (by decide) (by decide) (by decide),
  C Bw AG 0 (by decide) (by decide) (by decide)]
 unfold Fi;simp only[aD];refine gY ?_ (gY ?_ (gY ?_ (gY ?_ (gY ?_ (gY ?_ (gY ?_ (gY ?_ (gY ?_ (gY ?_ (gY ?_ (gY ?_ (gY ?_ (gY ?_ (gY ?_ (gY ?_ (gY ?_ (gY ?_ (gY ?_ (gY ?_ (gY ?_ (gY ?_ (gY ?_ (rfl)))))))))))))))))))))))
 .first | rfl | (simp only[Option.bind_fun_some,CP]) | (simp only[Option.bind_fun_some,CP];rfl)
 .first | rfl | (simp only[Option.bind_fun_some,CP]) | (simp only[Option.bind_fun_some,CP];rfl)
 .first | rfl | (simp only[Option.bind_fun_some,CP]) | (simp only[Option.bind_fun_some,CP];rfl)
 .first | rfl | (simp only[Option.bind_fun_some,CP]) | (simp only[Option.bind_fun_some,CP];rfl)
 .cases idx l (0:Int) with
  | none=>rfl
  | some x=>
   unfold QW;simp only[aA];cases D (x>(1000000:Int))<;>rfl
 .cases idx l (0:Int) with
  | none=>rfl
  | some x=>cases idx l (1:Int) with
   | none=>rfl
   | some y=>
    simp only[aA];rw[bIh h hk,aA,L1,aA];rfl
 .first | rfl | (simp only[Option.bind_fun_some,CP]) | (simp only[Option.bind_fun_some,CP];rfl)
 .cases idx l (0:Int) with
  | none=>rfl
  | some x=>
   simp only[aA];rw[bXo h hk];rfl
 .cases idx l (0:Int) with
  | none=>rfl
  | some x=>cases idx l (1:Int) with
   | none=>rfl
   | some y=>
    simp only[aA,bB,cB,bL,bJ,bO];rw[show KV x y 0=U (x,y,0,0,0,0,[],[],[]) from rfl,aA];rw[show wQ b.2.2.2.2 _=U (I3 (Np (bW b) (x,y,0,0,[],[],0,0,[])) (!EC (bW b) (x,y,0,0,[],[],0,0,[]))) from cI1 h.net (BI.big hk) (by rw[Jm];simp[tot])];unfold TC pN;simp only[aA,I3];cases EC (bW b) (x,y,0,0,[],[],0,0,[])<;>rfl
 .first | rfl | (simp only[Option.bind_fun_some,CP]) | (simp only[Option.bind_fun_some,CP];rfl)
 .first | rfl | (simp only[Option.bind_fun_some,CP]) | (simp only[Option.bind_fun_some,CP];rfl)
 .first | rfl | (simp only[Option.bind_fun_some,CP]) | (simp only[Option.bind_fun_some,CP];rfl)
 .first | rfl | (simp only[Option.bind_fun_some,CP]) | (simp only[Option.bind_fun_some,CP];rfl)
 .first | rfl | (simp only[Option.bind_fun_some,CP]) | (simp only[Option.bind_fun_some,CP];rfl)
 .first | rfl | (simp only[Option.bind_fun_some,CP]) | (simp only[Option.bind_fun_some,CP];rfl)
 .first | rfl | (simp only[Option.bind_fun_some,CP]) | (simp only[Option.bind_fun_some,CP];rfl)
 .cases idx l (0:Int) with
  | none=>rfl
  | some x=>
   simp only[aA];rw[show rK b.2.2.2.2 x=U (E6 (jM (bW b) x)) from bS1 (h.tot hk) h.net.keep.bytes,aA];show Option.bind (eN (JP b (jM (bW b) x))) _=_;rw[bUp h hk];rfl
 .rw[show Jo b.2.2.2.2=U (E6 (jM (bW b) (wr (8+F4 (bW b))))) from cKp (h.tot hk) h.net.keep.bytes,aA];show Option.bind (eN (JP b (jM (bW b) _))) _=_;rw[bUp h hk];rfl
 .rw[show eN b=_ from bUj h.net (BI.big hk)];rfl
 .first | rfl | (simp only[Option.bind_fun_some,CP]) | (simp only[Option.bind_fun_some,CP];rfl)
 .rw[show pO b.2.2.2.2=_ from cGb (w:=bW b) (B5 (h.tot hk) (by decide)),aA];unfold pN Ma;cases (bW b).2.2.2.2.2.2.1.all (FE (bW b))<;>rfl
 .rw[show Jp b.2.2.2.2=_ from cKh (w:=bW b) (B5 (h.tot hk) (by decide)),aA];unfold pN Ma;cases MX (bW b)<;>rfl
 .rw[show mI b.1=_ from cH4 (h.top hk),aA];rfl
theorem qN{k:Nat}{p:Dr}{o o':Option q5}(h:Fk k p)(e:o=tW p)(e':o'=tW p):Fx k o o':=by
 subst e;subst e';exact Qw h
theorem bD5:Gg []:=λx hx=>(Dl hx).elim
theorem bJl{k:Nat}{b:den aT}(h:BI k b)(hk:k<=80)(w:ByteArray):Fx k (Fi b w []) (zL (Di b) w):=by
 unfold Fi zL Di A1 iN Cv aL aS bA bZ A0 A4 A3 A8 B0 B8;simp only[CE,P6,decide_false,decide_true,DM,P9,zY,aD,Option.bind_fun_some,reduceCtorEq,Nat.zero_ne_one];cases w.toList==BE.toList with
 | true=>exact bQ1 h hk
 | false=>
  rw[zY,zY];cases w.toList==As.toList with
  | true=>exact Vr h hk (X4 (C3 _) bD5)
  | false=>
   rw[zY,zY];cases w.toList==AB.toList with
   | true=>
    refine qN (aUm h _) rfl ?_;rw[zZ,show Jn b.2.2.2.2=U (hO (jM (bW b) (wr (8+F4 (bW b))))) from cJ8 (h.tot hk) h.net.keep.bytes,aA];show Option.bind (jI (jM (bW b) _)) _=_;rw[bVf h hk];rfl
   | false=>
    rw[zY,zY];cases w.toList==AD.toList with
    | true=>
     refine qN (bS4 h) rfl ?_;rw[zZ,show jI b.2.2.2.2=_ from bVi h.net (BI.big hk),aA];rfl
    | false=>
     rw[zY,zY];cases w.toList==AE.toList with
     | true=>
      refine qN (bIn h _) rfl ?_;rw[zZ,show pU b.2.2.2.2=_ from cF8 (w:=bW b) (B5 (h.tot hk) (by decide)),aA];unfold Jj Ma;cases (bW b).2.2.2.2.2.2.1.all (FE (bW b))<;>rfl
     | false=>
      rw[zY,zY];cases w.toList==AF.toList with
      | true=>
       refine qN (bIn h _) rfl ?_;rw[zZ,show Jt b.2.2.2.2=_ from cJv (w:=bW b) (B5 (h.tot hk) (by decide)),aA];unfold Jj Ma;cases MX (bW b)<;>rfl
      | false=>
       rw[zY,zY];cases w.toList==AG.toList with
       | true=>
        refine qN (bUx h hk) rfl ?_;rw[zZ,show mG b.1=_ from cI5 (h.top hk),aA];rfl
       | false=>exact Jk h DD (by decide)
theorem cEy{k:Nat}{b:den aT}(h:BI k b)(hk:k<=80)(w:ByteArray){x:Int}(h0:0<=x):Fx k (Fi b w [x]) (Le (Di b) w x):=by
 unfold Fi Le Di eG A1 iN Cv aL aS bA bZ A0 A4 A3 A8 B0 B8;rw[show idx [x] (0:Int)=U x from rfl];simp only[C6,CE,Nat.reduceAdd,P6,decide_false,decide_true,DM,P9,zY,aD,Option.bind_fun_some,reduceCtorEq,Nat.zero_ne_one,Nat.one_ne_zero,aA,cJ3];cases c1:w.toList==Bz.toList with
 | true=>exact bE3 h hk X x
 | false=>
  rw[zY,zY,aA];cases c2:w.toList==BN.toList with
  | true=>exact bE3 h hk Y x
  | false=>
   rw[zY,zY];cases c3:w.toList==BO.toList with
   | true=>
    refine qN (bO3 h x) rfl ?_;unfold QW;cases D (x>(1000000:Int))<;>rfl
   | false=>
    rw[zY,zY];cases c4:w.toList==BP.toList with
    | true=>
     refine qN (bK6 h hk x) rfl ?_;simp only[zZ,bB,cB,bL,bJ,bO];rw[show rW b.1 b.2.1 x b.2.2.2.1=_ from cLa h hk x,aA];show Option.bind (gT (Gx b x)) _=_;rw[XA (B5 (Xg h hk x).keep.tot (by decide)),aA];unfold Fy Qy;cases DZ (Gx b x)<;>rfl
    | false=>
     rw[zY,zY];unfold Y6;cases c5:w.toList==BQ.toList with
     | true=>
      refine qN (aUm h x) ?_ ?_
      .rw[Dw (b:=BM) c5 (by decide),Dw (b:=BF) c5 (by decide),Dw (b:=BG) c5 (by decide),Dw (b:=BH) c5 (by decide),Dw (b:=BJ) c5 (by decide),Dw (b:=BK) c5 (by decide)];rfl
      .rw[zZ,show rX b.2.2.2.2 x=U (hO (jM (bW b) x)) from bSw (h.tot hk) h.net.keep.bytes,aA];show Option.bind (jI (jM (bW b) x)) _=_;rw[bVf h hk];rfl
     | false=>
      cases c6:w.toList==BR.toList with
      | true=>
       refine qN (bV4 h hk x) ?_ ?_
       .rw[Dw (b:=BM) c6 (by decide),Dw (b:=BF) c6 (by decide),Dw (b:=BG) c6 (by decide),Dw (b:=BH) c6 (by decide),Dw (b:=BJ) c6 (by decide),Dw (b:=BK) c6 (by decide)];exact cIv h.net (BI.big hk) h0
       .rw[zY,zZ,show Jl b.2.2.2.2 x=_ from cH2 h.net (BI.big hk) h0,aA];rfl
      | false=>
       simp only[zY];have ev:=λq:Int=>Vr (e:=CP q x []) h hk (X4 (C3 _) bD5)
       cases d1:w.toList==BM.toList with
       | true=>
        rw[Dw (b:=BF) d1 (by decide),Dw (b:=BG) d1 (by decide),Dw (b:=BH) d1 (by decide),Dw (b:=BJ) d1 (by decide),Dw (b:=BK) d1 (by decide)];exact ev 9
       | false=>
        cases w.toList==BF.toList with
        | true=>exact ev 2
        | false=>
         cases w.toList==BG.toList with
         | true=>exact ev 3
         | false=>
          cases w.toList==BH.toList with
          | true=>exact ev 4
          | false=>
           cases w.toList==BJ.toList with
           | true=>exact ev 5
           | false=>
            cases w.toList==BK.toList with
            | true=>exact ev 6
            | false=>exact Jk h DD (by decide)
theorem bJd{k:Nat}{b:den aT}(h:BI k b)(hk:k<=80)(w:ByteArray):∀{l:List Int},(∀x∈l,0<=x)->l≠[]->Fx k (Fi b w l) (oK (Di b) w l)
 | [],_,hn=>absurd rfl hn
 | [x],h0,_=>by
  unfold oK aK A1 iN Cv aL aS bA bZ dS A0 A4 A3 A8 B0 B8;rw[show (([x].length:Int)==(1:Int))=X from rfl,zZ,show idx [x] (0:Int)=U x from rfl,aA];simp only[aD,Option.bind_fun_some];exact cEy h hk w (h0 x (by simp))
 | [x,y],h0,_=>by
  unfold Fi oK Di aK A1 iN Cv aL aS bA bZ dS A0 A4 A3 A8 B0 B8;rw[show (([x,y].length:Int)==(1:Int))=Y from rfl,show (([x,y].length:Int)==(2:Int))=X from rfl,show (([x,y].length:Int)==(3:Int))=Y from rfl,show (([x,y].length:Int)==(5:Int))=Y from rfl,show idx [x,y] (0:Int)=U x from rfl,show idx [x,y] (1:Int)=U y from rfl];simp only[C6,CE,Nat.reduceAdd,P6,decide_false,decide_true,DM,P9,zY,aD,aA,reduceCtorEq];cases w.toList==BS.toList with
  | true=>
   refine qN (bKn h x y) rfl ?_;rw[zZ,aA,zZ,show fO b.1 b.2.1 x y b.2.2.2.1=_ from (h.find hk x y).2,aA,JG];rfl
  | false=>
   simp only[zY,aA];cases w.toList==BT.toList<;>simp only[zY,zZ,aA]<;>cases w.toList==BU.toList
   case true.false=>cases w.toList==BV.toList<;>exact Jk h DD (by decide)
   case false.false=>cases w.toList==BV.toList<;>exact Jk h DD (by decide)
   all_goals
    refine qN (bOd h x y) rfl ?_;simp only[zZ,bB,cB,bL,bJ,bO,aA];rw[show KF x y 0=U (x,y,0,0,0,0,[],[],[]) from rfl,aA];rw[show wY b.2.2.2.2 _=U (I3 (Np (bW b) (x,y,0,0,[],[],0,0,[])) (!EC (bW b) (x,y,0,0,[],[],0,0,[]))) from cJ0 h.net (BI.big hk) (by rw[Jm];simp[tot])];unfold TC Fy;simp only[aA,I3];cases EC (bW b) (x,y,0,0,[],[],0,0,[])<;>rfl
 | [x,y,z],h0,_=>by
  unfold Fi oK Di aK A1 iN Cv aL aS bA bZ dS A0 A4 A3 A8 B0 B8;rw[show (([x,y,z].length:Int)==(1:Int))=Y from rfl,show (([x,y,z].length:Int)==(2:Int))=Y from rfl,show (([x,y,z].length:Int)==(3:Int))=X from rfl,show (([x,y,z].length:Int)==(5:Int))=Y from rfl,show idx [x,y,z] (0:Int)=U x from rfl,show idx [x,y,z] (1:Int)=U y from rfl,show idx [x,y,z] (2:Int)=U z from rfl];simp only[C6,CE,Nat.reduceAdd,P6,decide_false,decide_true,DM,P9,zY,aD,aA,reduceCtorEq];have hz:=h0 z (by simp);cases w.toList==BS.toList<;>simp only[zY,zZ,aA]<;>cases w.toList==BT.toList
  case true.false=>cases w.toList==BU.toList<;>cases w.toList==BV.toList<;>exact Jk h DD (by decide)
  case false.false=>cases w.toList==BU.toList<;>cases w.toList==BV.toList<;>exact Jk h DD (by decide)
  all_goals
   refine qN (bQb h hk hz) (cEl h hk hz) ?_;unfold QI;rw[zZ,aA,zZ,show fO b.1 b.2.1 x y b.2.2.2.1=_ from (h.find hk x y).2,aA,bLt (B5 (Vp h hk x y).1 (by decide)),aA];cases c:D (z>=((uL (hZ (bT b) (bK b) x y (bN b))).length:Int)) with
   | true=>rfl
   | false=>
    obtain⟨p,e1,e2,e3⟩:=Wt h hk hz c;rw[zY,e1,e2,aA,show uI b.1 p=_ from cFk (h.top hk) e3];rfl
 | [x,y,z,u],h0,_=>by
  unfold Fi oK Di aK A1 iN Cv aL aS bA bZ dS A0 A4 A3 A8 B0 B8;rw[show (([x,y,z,u].length:Int)==(1:Int))=Y from rfl,show (([x,y,z,u].length:Int)==(2:Int))=Y from rfl,show (([x,y,z,u].length:Int)==(3:Int))=Y from rfl,show (([x,y,z,u].length:Int)==(5:Int))=Y from rfl];simp only[C6,CE,Nat.reduceAdd,P6,decide_false,decide_true,DM,P9,zY,aD,aA,reduceCtorEq];cases w.toList==BS.toList<;>cases w.toList==BT.toList<;>cases w.toList==BU.toList<;>cases w.toList==BV.toList<;>exact Jk h DD (by decide)
 | [x0,x1,x2,x3,x4],h0,_=>by
  unfold Fi oK Di aK A1 iN Cv aL aS bA bZ dS A0 A4 A3 A8 B0 B8;rw[show (([x0,x1,x2,x3,x4].length:Int)==(1:Int))=Y from rfl,show (([x0,x1,x2,x3,x4].length:Int)==(2:Int))=Y from rfl,show (([x0,x1,x2,x3,x4].length:Int)==(3:Int))=Y from rfl,show (([x0,x1,x2,x3,x4].length:Int)==(5:Int))=X from rfl];simp only[C6,CE,Nat.reduceAdd,P6,decide_false,decide_true,DM,P9,zY,aD,aA,reduceCtorEq];have hz:=h0 x0 (by simp);have ep:mR (x1,x3,x4,x2)=U (Gs (x1,x3,x4,x2)):=bL1 _;cases w.toList==BS.toList<;>cases w.toList==BT.toList<;>cases w.toList==BU.toList<;>simp only[zY,zZ,aA]<;>cases w.toList==BV.toList
  any_goals exact Jk h DD (by decide)
  all_goals
   refine qN (bWk h x0 x1 x2 x3 x4) (cHj h hk x0 x1 x2 x3 x4) ?_;unfold Rr;rw[zZ,aA,zZ,show idx [x0,x1,x2,x3,x4] (0:Int)=U x0 from rfl,show idx [x0,x1,x2,x3,x4] (1:Int)=U x1 from rfl,show idx [x0,x1,x2,x3,x4] (2:Int)=U x2 from rfl,show idx [x0,x1,x2,x3,x4] (3:Int)=U x3 from rfl,show idx [x0,x1,x2,x3,x4] (4:Int)=U x4 from rfl];simp only[aA,ep,cI4 h hz];cases c:cK (bT b) x0 with
   | false=>rfl
   | true=>
    cases Gs (x1,x3,x4,x2) with
    | false=>rfl
    | true=>
     obtain⟨g0,g1⟩:=bQ.1 c;have hp:=h.pol;have hlt:x0<(b.2.2.1.length:Int):=by show x0<((bP b).length:Int);rw[hp];omega
     have hlt2:x0.toNat<b.2.2.1.length:=by omega
     simp only[BZ,zY,aA,zX g0,zX hlt,zX hlt2,zZ];rfl
 | x0::x1::x2::x3::x4::x5::r,h0,_=>by
  have e:∀d:Nat,d<6->D ((x0::x1::x2::x3::x4::x5::r).length=d)=Y:=λd hd=>zW (by simp only[C6];omega)
  have e':∀d:Nat,d<6->(((x0::x1::x2::x3::x4::x5::r).length:Int)==(d:Int))=Y:=λd hd=>beq_false_of_ne (by simp only[C6];omega)
  unfold Fi oK Di aK A1 iN Cv aL aS bA bZ dS A0 A4 A3 A8 B0 B8;rw[show (((x0::x1::x2::x3::x4::x5::r).length:Int)==(1:Int))=Y from e' 1 (by decide),show (((x0::x1::x2::x3::x4::x5::r).length:Int)==(2:Int))=Y from e' 2 (by decide),show (((x0::x1::x2::x3::x4::x5::r).length:Int)==(3:Int))=Y from e' 3 (by decide),show (((x0::x1::x2::x3::x4::x5::r).length:Int)==(5:Int))=Y from e' 5 (by decide)];simp only[e 0 (by decide),e 1 (by decide),e 2 (by decide),e 3 (by decide),e 5 (by decide),DM,zY,aA];cases w.toList==BS.toList<;>cases w.toList==BT.toList<;>cases w.toList==BU.toList<;>cases w.toList==BV.toList<;>exact Jk h DD (by decide)
def Dz(x:ByteArray):Bool:=(G8 x).2
def vlW(x:ByteArray):Int:=(G8 x).1
theorem bFn{ws:List ByteArray}{bad:List Int->List Int}{step:Int×List Int->Option ((Int×List Int)⊕(List Int⊕(Bool×List Int)))}
  (h:∀(k:Nat) (x:ByteArray) (a:List Int),ws[k]? =U x->k<ws.length->a.length=k->step ((k:Int),a)=U (cond (!Dz x) (.inr (.inr (Y,bad a))) (.inl (((k+1:Nat):Int),a++[vlW x])))) (he:∀a,step ((ws.length:Int),a)=U (.inr (.inl a))):
  ∀(rest pre:List ByteArray),pre++rest=ws->(rest.all Dz=X->aB step ((pre.length:Int),pre.map vlW)=U (.inl (ws.map vlW)))/\(rest.all Dz=Y-> ∃l,aB step ((pre.length:Int),pre.map vlW)=U (.inr (Y,l)))
 | [],pre,hp=>by
  rw[CU]at hp;subst hp;exact⟨λ_=>aH (he _),λc=>absurd c (by simp)⟩
 | x::rest,pre,hp=>by
  have hx:ws[pre.length]? =U x:=by rw[<- hp];simp
  have hs:=h pre.length x (pre.map vlW) hx (by rw[<- hp];simp) (by simp);have ih:=bFn h he rest (pre++[x]) (by rw[<- hp];simp);rw[C7,IF,IG]at ih;cases c:Dz x with
  | false=>
   rw[c]at hs;exact⟨λg=>absurd g (by simp[c]),λ_=>⟨_,aH hs⟩⟩
  | true=>
   rw[c]at hs;rw[aO hs];simp only[List.all_cons,c,Cw];exact ih
theorem bI0{ws:List ByteArray}{bad:List Int->List Int}{step:Int×List Int->Option ((Int×List Int)⊕(List Int⊕(Bool×List Int)))}
  (h:∀(k:Nat) (x:ByteArray) (a:List Int),ws[k]? =U x->k<ws.length->a.length=k->step ((k:Int),a)=U (cond (!Dz x) (.inr (.inr (Y,bad a))) (.inl (((k+1:Nat):Int),a++[vlW x])))) (he:∀a,step ((ws.length:Int),a)=U (.inr (.inl a))):
  (ws.all Dz=X->Option.bind (aB step ((0:Int),[])) (λz=>Cd (λs7=>U (X,s7)) U z)=U (X,ws.map vlW))/\(ws.all Dz=Y-> ∃l,Option.bind (aB step ((0:Int),[])) (λz=>Cd (λs7=>U (X,s7)) U z)=U (Y,l)):=by
 have key:=bFn h he ws [] rfl;exact⟨λg=>by rw[show ((0:Int),([]:List Int))=((([]:List ByteArray).length:Int),([]:List ByteArray).map vlW) from rfl,key.1 g];rfl,λg=>by
  obtain⟨l,e⟩:=key.2 g;exact⟨l,by rw[show ((0:Int),([]:List Int))=((([]:List ByteArray).length:Int),([]:List ByteArray).map vlW) from rfl,e];rfl⟩⟩
theorem Tn{ws:List ByteArray}(hl:ws.length<=1000000):(ws.all Dz=X->tG ws=U (X,ws.map vlW))/\(ws.all Dz=Y-> ∃l,tG ws=U (Y,l)):=by
 unfold tG;exact bI0 (bad:=λ_=>[]) (λk x a hx hk ha=>by
  have e:idx ws (k:Int)=U x:=by rw[aQ];exact hx
  simp only[zX (show (k:Int)<(ws.length:Int) by omega),zZ,e,aA,bS6];cases c:(G8 x).2 with
  | false=>simp only[Dz,c];rfl
  | true=>
   have hw:wr ((k:Int)+1)=((k+1:Nat):Int):=(wri (by omega) (by omega)).trans (by omega);simp only[Dz,c,BZ,zY,aC (b:=8) (n:=a.length) (m:=1) (by decide) (by omega),zZ,hw];rfl) (λa=>by simp)
theorem Tj{ws:List ByteArray}(hl:ws.length<=1000000):(ws.all Dz=X->HI ws=U (X,ws.map vlW))/\(ws.all Dz=Y-> ∃l,HI ws=U (Y,l)):=by
 unfold HI;exact bI0 (bad:=id) (λk x a hx hk ha=>by
  have e:idx ws (k:Int)=U x:=by rw[aQ];exact hx
  simp only[zX (show (k:Int)<(ws.length:Int) by omega),zZ,e,aA,bSt];cases c:(G8 x).2 with
  | false=>simp only[Dz,c];rfl
  | true=>
   have hw:wr ((k:Int)+1)=((k+1:Nat):Int):=(wri (by omega) (by omega)).trans (by omega);simp only[Dz,c,BZ,zY,aC (b:=8) (n:=a.length) (m:=1) (by decide) (by omega),zZ,hw];rfl) (λa=>by simp)
theorem bSm{ws:List ByteArray}(h:ws.all Dz=X):∀x∈ws.map vlW,0<=x:=λx hx=>by
 obtain⟨w,hw,rfl⟩:=Ch.1 hx;have :=Dg.1 h w hw;exact (bYt (s:=w) (n:=vlW w) (Prod.ext rfl this)).1
def Q4:List ByteArray:=[Bz,BN,BV,BE,BO,BS,BT,BP,BU,BM,As,BF,BG,BH,BJ,BK,BQ,AB,AD,BR,AE,AF,AG]
theorem bM7{b:den aT}{w:ByteArray}{l:List Int}(E:∀x∈Q4,(w.toList==x.toList)=Y):Fi b w l=tW (DD,b):=by
 unfold Fi;have e:=λ(i:Nat) (x:ByteArray) (hx:Q4[i]? =U x)=>E x (Cm hx)
 rw[e 0 Bz rfl,e 1 BN rfl,e 2 BV rfl,e 3 BE rfl,e 4 BO rfl,e 5 BS rfl,e 6 BT rfl,e 7 BP rfl,e 8 BU rfl,e 9 BM rfl,e 10 As rfl,e 11 BF rfl,e 12 BG rfl,e 13 BH rfl,e 14 BJ rfl,e 15 BK rfl,e 16 BQ rfl,e 17 AB rfl,e 18 AD rfl,e 19 BR rfl,e 20 AE rfl,e 21 AF rfl,e 22 AG rfl];rfl
def Hh:ByteArray:=Bx
def Hl:ByteArray:=By
theorem bMq{w:ByteArray}(h:(w.toList==Hh.toList)=X\/(w.toList==Hl.toList)=X):∀x∈Q4,(w.toList==x.toList)=Y:=by
 have h1:∀x∈Q4,(Hh.data.toList==x.data.toList)=Y:=by decide
 have h2:∀x∈Q4,(Hl.data.toList==x.data.toList)=Y:=by decide
 intro x hx;rcases h with h | h
 .exact Dw h (h1 x hx)
 .exact Dw h (h2 x hx)
theorem bNa{k:Nat}{p:Dr}{o:Option q5}(h:Fx k (tW p) o):o=tW p:=by
 obtain⟨s,b,e1,e2,_⟩:=h;rw[e2,e1]
theorem bZ8{k:Nat}{b:den aT}(h:BI k b)(hk:k<=80){w:ByteArray}(hw:(w.toList==Hh.toList)=X\/(w.toList==Hl.toList)=X):zL (Di b) w=tW (DD,b):=
 bNa (k:=k) (by have :=bJl h hk w;rwa [bM7 (bMq hw)]at this)
theorem bW7{k:Nat}{b:den aT}(h:BI k b)(hk:k<=80){w:ByteArray}(hw:(w.toList==Hh.toList)=X\/(w.toList==Hl.toList)=X){l:List Int}(h0:∀x∈l,0<=x)(hn:l≠[]):oK (Di b) w l=tW (DD,b):=
 bNa (k:=k) (by have :=bJd h hk w h0 hn;rwa [bM7 (bMq hw)]at this)
theorem bJv(b:Int):∀(l cur x:List UInt8),oH b cur l=[x]->x=cur++l
 | [],cur,x,h=>by
  unfold oH at h;rw[CU];exact (GH.inj h).1.symm
 | y::l,cur,x,h=>by
  unfold oH at h;cases c:(y.toNat:Int)==b with
  | true=>
   rw[c,zZ]at h;have h1:=(GH.inj h).2;have h2:=WX b l [];rw[h1]at h2;exact absurd h2 (by simp)
  | false=>
   rw[c,zY]at h;have :=bJv b l (cur++[y]) x h;rw[this,CY];rfl
theorem bHf{s x:ByteArray}{b:Int}(h:gH s b=[x]):x=s:=by
 unfold gH at h;have hl:(oH b [] s.data.toList).length=1:=by rw[<- CF mkS,h];rfl
 obtain⟨y,hy⟩:=List.length_eq_one_iff.1 hl;rw[hy]at h;have h1:mkS y=x:=(GH.inj h).1;have h2:=bJv b _ _ _ hy;rw[<- h1];apply ByteArray.ext;rw[h2];simp[mkS]
theorem cGg{s x:ByteArray}(h:x∈gH s 32):∀c∈x.data.toList,c≠32:=by
 unfold gH at h;obtain⟨y,hy,rfl⟩:=Ch.1 h;intro c hc;rw[bX0]at hc;have :=Xd 32 s.data.toList [] (λx hx=>(Dl hx).elim) y hy c hc;intro e;rw[e]at this;exact absurd this (by decide)
theorem Sk{w:ByteArray}{ws:List ByteArray}:bG (1:Int) ((w::ws).length:Int) ((w::ws).length:Int)=X/\cut (w::ws) (1:Int) ((w::ws).length:Int)=ws:=by
 have h1:=yK (a:=1) (b:=(w::ws).length) (n:=(w::ws).length);have h2:=S7 (l:=w::ws) (k:=1) (by simp);refine⟨?_,h2⟩;rw[show ((1:Nat):Int)=1 from rfl]at h1;rw[h1];simp
theorem bSp(s:ByteArray):Gg (uB s):=λx hx=>by
 unfold uB at hx;obtain⟨y,_,rfl⟩:=Ch.1 hx;have :=y.toNat_lt;exact⟨by omega,by omega⟩
theorem bZb(s:ByteArray):(uB s).length=s.size:=by simp[uB]
theorem QP(w:ByteArray)(ws:List ByteArray)(n:Nat):(((w::ws).length:Int)==((n+1:Nat):Int))=D (ws.length=n):=by
 rw[CG,beq_iff_eq,zR,C6];omega
theorem bU4{k:Nat}{b:den aT}(h:BI k b)(hk:k<=80){s w:ByteArray}{ws:List ByteArray}(hs:s.size<=5000)(hp:gH s 32=w::ws)(h4:(w.toList==Hl.toList&&D (ws.length=5))=Y)(h9:(w.toList==Hh.toList&&D (ws.length=2))=Y):
  qV (Di b) s=cond (D (ws.length=0)) (zL (Di b) s) (cond (ws.all Dz) (oK (Di b) w (ws.map vlW)) (tW (DD,b))):=by
 have hl:ws.length<=5000:=by
  have :=(NY s 32).2;rw[hp,C6]at this;omega
 unfold qV BX A1 iN Cv aL A0 A4 A3 A8;rw[Tg (by omega),aA,hp];rw[show (((w::ws).length:Int)==(1:Int))=D (ws.length=0) from QP w ws 0,show (((w::ws).length:Int)==(3:Int))=D (ws.length=2) from QP w ws 2,show (((w::ws).length:Int)==(6:Int))=D (ws.length=5) from QP w ws 5];simp only[aD,Option.bind_fun_some];rw[show D ((0:Int)<((w::ws).length:Int))=X from zX (by rw[C6];omega),show (w::ws)[(0:Int).toNat]? =U w from rfl,show D ((0:Int)<=(0:Int))=X from rfl];simp only[zZ,aA];cases D (ws.length=0) with
 | true=>rfl
 | false=>
  rw[zY,zY];have e4:cond (w.toList==By.toList) (U (D (ws.length=5))) (U Y)=U Y:=by
   change (w.toList==By.toList&&D (ws.length=5))=Y at h4
   cases c:w.toList==By.toList with
   | true=>rw[c,Cw]at h4;rw[h4];rfl
   | false=>rfl
  have e9:cond (w.toList==Bx.toList) (U (D (ws.length=2))) (U Y)=U Y:=by
   change (w.toList==Bx.toList&&D (ws.length=2))=Y at h9
   cases c:w.toList==Bx.toList with
   | true=>rw[c,Cw]at h9;rw[h9];rfl
   | false=>rfl
  rw[e4,aA,zY,e9,aA,zY,Sk.1,Sk.2,zZ];cases c:ws.all Dz with
  | false=>
   obtain⟨l,e⟩:=(Tj (ws:=ws) (by omega)).2 c;rw[e];rfl
  | true=>
   rw[(Tj (ws:=ws) (by omega)).1 c];rfl
theorem cHy{k:Nat}{b:den aT}(h:BI k b)(hk:k<=80){s w:ByteArray}{ws:List ByteArray}(hs:s.size<=5000)(hp:gH s 32=w::ws)(h4:(w.toList==Hl.toList)=Y)(h9:(w.toList==Hh.toList)=Y):
  eO b s=cond (ws.all Dz) (oE b w (ws.map vlW)) (tW (DD,b)):=by
 have hl:ws.length<=5000:=by
  have :=(NY s 32).2;rw[hp,C6]at this;omega
 unfold eO BX A1 iN Cv aL A0 A4 A3 A8;rw[MQ (by omega),aA,hp];simp only[aD,Option.bind_fun_some];rw[show D ((0:Int)<((w::ws).length:Int))=X from zX (by rw[C6];omega),show (w::ws)[(0:Int).toNat]? =U w from rfl,show D ((0:Int)<=(0:Int))=X from rfl];simp only[zZ,aA];rw[show (w.toList==Bx.toList)=Y from h9,zY,show (w.toList==By.toList)=Y from h4,zY,Sk.1,Sk.2,zZ];cases c:ws.all Dz with
 | false=>
  obtain⟨l,e⟩:=(Tn (ws:=ws) (by omega)).2 c;rw[e];rfl
 | true=>
  rw[(Tn (ws:=ws) (by omega)).1 c];rfl
theorem cGc{b:den aT}{s w:ByteArray}{ws:List ByteArray}(hs:s.size<=5000)(hp:gH s 32=w::ws)(h9:(w.toList==Hh.toList)=X)(hn:ws.length≠2):eO b s=tW (DD,b):=by
 unfold eO BX A1 iN Cv aL A0 A4 A3 A8;rw[MQ (by omega),aA,hp];simp only[aD,Option.bind_fun_some];rw[show D ((0:Int)<((w::ws).length:Int))=X from zX (by rw[C6];omega),show (w::ws)[(0:Int).toNat]? =U w from rfl,show D ((0:Int)<=(0:Int))=X from rfl];simp only[zZ,aA];rw[show (w.toList==Bx.toList)=X from h9,zZ,kM,show (((w::ws).length:Int)==(3:Int))=D (ws.length=2) from QP w ws 2,zW hn];rfl
theorem cEn{b:den aT}{s w:ByteArray}{ws:List ByteArray}(hs:s.size<=5000)(hp:gH s 32=w::ws)(h4:(w.toList==Hl.toList)=X)(hn:ws.length≠5):eO b s=tW (DD,b):=by
 have h9:(w.toList==Hh.toList)=Y:=Dw h4 (by decide);unfold eO BX A1 iN Cv aL A0 A4 A3 A8;rw[MQ (by omega),aA,hp];simp only[aD,Option.bind_fun_some];rw[show D ((0:Int)<((w::ws).length:Int))=X from zX (by rw[C6];omega),show (w::ws)[(0:Int).toNat]? =U w from rfl,show D ((0:Int)<=(0:Int))=X from rfl];simp only[zZ,aA];rw[show (w.toList==Bx.toList)=Y from h9,zY,show (w.toList==By.toList)=X from h4,zZ,kM,show (((w::ws).length:Int)==(6:Int))=D (ws.length=5) from QP w ws 5,zW hn];rfl
theorem cCh{k:Nat}{b:den aT}(h:BI k b)(hk:k<=80){s w:ByteArray}{ws:List ByteArray}(hs:s.size<=5000)(hp:gH s 32=w::ws)(hw:(w.toList==Hh.toList)=X/\ws.length≠2\/(w.toList==Hl.toList)=X/\ws.length≠5):qV (Di b) s=tW (DD,b):=by
 have hw':(w.toList==Hh.toList)=X\/(w.toList==Hl.toList)=X:=hw.imp And.left And.left;rw[bU4 h hk hs hp (by
  rcases hw with ⟨h1,_⟩ | ⟨_,h2⟩
  .rw[Dw h1 (by decide)];rfl
  .rw[zW h2,DM]) (by
  rcases hw with ⟨_,h2⟩ | ⟨h1,_⟩
  .rw[zW h2,DM]
  .rw[Dw h1 (by decide)];rfl)]
 cases ws with
 | nil=>
  rw[<- bHf hp];exact bZ8 h hk hw'
 | cons a r=>
  cases c:(a::r).all Dz with
  | false=>rfl
  | true=>exact bW7 h hk hw' (bSm c) (by simp)
theorem bWq{k:Nat}{b:den aT}(h:BI k b)(hk:k<=80){s:ByteArray}(hs:s.size<=5000):Fx k (eO b s) (qV (Di b) s):=by
 obtain⟨w,ws,hp⟩:∃w ws,gH s 32=w::ws:=by
  cases e:gH s 32 with
  | nil=>have :=(NY s 32).1;rw[e]at this;exact absurd this (by simp)
  | cons w ws=>exact⟨w,ws,rfl⟩
 have hwm:w∈gH s 32:=by rw[hp];simp
 have hno:=cGg hwm;have hsz:=NT hwm;have hl:ws.length<=5000:=by
  have :=(NY s 32).2;rw[hp,C6]at this;omega
 have syn:Fk k (DD,b):=⟨(by decide:12<=100000000000),h.next⟩
 cases c9:w.toList==Hh.toList with
 | true=>
  by_cases hn:ws.length=2
  .obtain⟨a,x,rfl⟩:∃a x,ws=[a,x]:=by
    match ws,hn with
    | [a,x],_=>exact⟨a,x,rfl⟩
   have hx:x.size<=s.size:=NT (s:=s) (b:=32) (by rw[hp];simp);have cl:(w.toList==Hl.toList)=Y:=Dw c9 (by decide);unfold eO qV BX A1 iN Cv aL A0 A4 A3 A8;rw[MQ (by omega),aA,Tg (by omega),aA,hp];simp only[aD,Option.bind_fun_some];rw[show D ((0:Int)<([w,a,x].length:Int))=X from rfl,show D ((1:Int)<([w,a,x].length:Int))=X from rfl,show D ((2:Int)<([w,a,x].length:Int))=X from rfl,show [w,a,x][(0:Int).toNat]? =U w from rfl,show [w,a,x][(1:Int).toNat]? =U a from rfl,show [w,a,x][(2:Int).toNat]? =U x from rfl,show D ((0:Int)<=(0:Int))=X from rfl,show D ((0:Int)<=(1:Int))=X from rfl,show D ((0:Int)<=(2:Int))=X from rfl,show (([w,a,x].length:Int)==(1:Int))=Y from rfl,show (([w,a,x].length:Int)==(3:Int))=X from rfl,show (([w,a,x].length:Int) != (3:Int))=Y from rfl];simp only[zZ,zY,aA];rw[show (w.toList==Bx.toList)=X from c9,show (w.toList==By.toList)=Y from cl];simp only[zZ,zY,aA,bS6,bSt];cases (G8 a).2 with
   | false=>
    refine qN syn ?_ rfl;cases x.toList==Aa.toList<;>rfl
   | true=>
    cases x.toList==Aa.toList with
    | true=>exact Qw syn
    | false=>exact Vr (e:=CP 8 (G8 a).1 (uB x)) h hk (X4 (by rw[bZb];omega) (bSp x))
  .rw[cGc hs hp c9 hn,cCh h hk hs hp (.inl ⟨c9,hn⟩)];exact Qw syn
 | false=>
  cases c4:w.toList==Hl.toList with
  | true=>
   by_cases hn:ws.length=5
   .obtain⟨a,x,y,z,q,rfl⟩:∃a x y z q,ws=[a,x,y,z,q]:=by
     match ws,hn with
     | [a,x,y,z,q],_=>exact⟨a,x,y,z,q,rfl⟩
    unfold eO qV BX A1 iN Cv aL A0 A4 A3 A8;rw[MQ (by omega),aA,Tg (by omega),aA,hp];simp only[aD,Option.bind_fun_some];rw[show D ((0:Int)<([w,a,x,y,z,q].length:Int))=X from rfl,show [w,a,x,y,z,q][(0:Int).toNat]? =U w from rfl,show D ((0:Int)<=(0:Int))=X from rfl,show (([w,a,x,y,z,q].length:Int)==(1:Int))=Y from rfl,show (([w,a,x,y,z,q].length:Int)==(6:Int))=X from rfl,show (([w,a,x,y,z,q].length:Int) != (6:Int))=Y from rfl,show bG (1:Int) (5:Int) ([w,a,x,y,z,q].length:Int)=X from rfl,show cut [w,a,x,y,z,q] (1:Int) (5:Int)=[a,x,y,z] from rfl,show idx [w,a,x,y,z,q] (5:Int)=U q from rfl];simp only[zZ,zY,aA];rw[show (w.toList==Bx.toList)=Y from c9,show (w.toList==By.toList)=X from c4];simp only[zZ,zY,aA];cases c:[a,x,y,z].all Dz with
    | false=>
     obtain⟨l,e⟩:=(Tn (ws:=[a,x,y,z]) (by simp)).2 c;obtain⟨l',e'⟩:=(Tj (ws:=[a,x,y,z]) (by simp)).2 c;rw[e,e'];simp only[aA];refine qN syn ?_ rfl;rw[aO (s':=(1:Int)) rfl,aO (s':=(2:Int)) rfl,aO (s':=(3:Int)) rfl,aH (r:= .inl ()) rfl];rfl
    | true=>
     rw[(Tn (ws:=[a,x,y,z]) (by simp)).1 c,(Tj (ws:=[a,x,y,z]) (by simp)).1 c];simp only[aA,BZ,zY,zZ];have T:=λhw=>bKm h hk (vlW a) (vlW x) (vlW y) (vlW z) (w:=q) hw
     cases d1:J4 q with
     | true=>
      rw[d1]at T;obtain⟨o,b',g1,g2,g3,g4⟩:=T rfl;refine⟨o,b',?_,g2,g3,g4⟩;rw[aH (r:= .inr (DU o b')) (by
       show cond (J4 q) _ _=_;rw[d1];show Option.bind (eK b [vlW a,vlW x,vlW y,vlW z] 1) _=_;rw[show eK b [vlW a,vlW x,vlW y,vlW z] 1=_ from g1];rfl)]
      rfl
     | false=>
      rw[aO (s':=(1:Int)) (by
       show cond (J4 q) _ _=_;rw[d1];rfl)]
      rw[d1]at T;cases d2:Jv q with
      | true=>
       rw[d2]at T;obtain⟨o,b',g1,g2,g3,g4⟩:=T rfl;refine⟨o,b',?_,g2,g3,g4⟩;rw[aH (r:= .inr (DU o b')) (by
        show cond (Jv q) _ _=_;rw[d2];show Option.bind (eK b [vlW a,vlW x,vlW y,vlW z] 2) _=_;rw[show eK b [vlW a,vlW x,vlW y,vlW z] 2=_ from g1];rfl)]
       rfl
      | false=>
       rw[aO (s':=(2:Int)) (by
        show cond (Jv q) _ _=_;rw[d2];rfl)]
       rw[d2]at T;cases d3:Jz q with
       | true=>
        rw[d3]at T;obtain⟨o,b',g1,g2,g3,g4⟩:=T rfl;refine⟨o,b',?_,g2,g3,g4⟩;rw[aH (r:= .inr (DU o b')) (by
         show cond (Jz q) _ _=_;rw[d3];show Option.bind (eK b [vlW a,vlW x,vlW y,vlW z] 3) _=_;rw[show eK b [vlW a,vlW x,vlW y,vlW z] 3=_ from g1];rfl)]
        rfl
       | false=>
        rw[aO (s':=(3:Int)) (by
         show cond (Jz q) _ _=_;rw[d3];rfl),aH (r:= .inl ()) rfl]
        refine qN syn rfl ?_;exact bXg b _ (by rw[d1,d2,d3];rfl)
   .rw[cEn hs hp c4 hn,cCh h hk hs hp (.inr ⟨c4,hn⟩)];exact Qw syn
  | false=>
   rw[cHy h hk hs hp c4 c9,bU4 h hk hs hp (by rw[c4];rfl) (by rw[c9];rfl)];cases c:ws.all Dz with
   | false=>
    cases ws with
    | nil=>exact absurd c (by simp)
    | cons a r=>exact Qw syn
   | true=>
    rw[zZ,zZ,cHp h hk hno (by omega) (by rw[CF];omega)];cases ws with
    | nil=>
     rw[<- bHf hp];exact bJl h hk w
    | cons a r=>exact bJd h hk w (bSm c) (by simp)
def nl1:ByteArray:=Ah
def ofB(r:ByteArray×dF×q2):den aT:=
 ((r.2.2.1,r.2.2.2.1),(r.2.2.2.2.1,r.2.2.2.2.2.1),r.2.1,r.2.2.2.2.2.2.1,((r.2.2.2.2.2.2.2.1,r.2.2.2.2.2.2.2.2.1),(r.2.2.2.2.2.2.2.2.2.1,r.2.2.2.2.2.2.2.2.2.2.1),(r.2.2.2.2.2.2.2.2.2.2.2.1,r.2.2.2.2.2.2.2.2.2.2.2.2.1,r.2.2.2.2.2.2.2.2.2.2.2.2.2.1),r.2.2.2.2.2.2.2.2.2.2.2.2.2.2.1,r.2.2.2.2.2.2.2.2.2.2.2.2.2.2.2.1,r.2.2.2.2.2.2.2.2.2.2.2.2.2.2.2.2.1,r.2.2.2.2.2.2.2.2.2.2.2.2.2.2.2.2.2.1,r.2.2.2.2.2.2.2.2.2.2.2.2.2.2.2.2.2.2.1,r.2.2.2.2.2.2.2.2.2.2.2.2.2.2.2.2.2.2.2))
noncomputable def FJ(p:Dr)(s:ByteArray):Dr:=cond (!(s.toList==Aa.toList)) ((eO p.2 s).elim p λr=>(p.1++(r.1++nl1),ofB r)) p
def b0:den aT:=(([],[]),([],[]),[],0,(([],[]),([],[]),(0,[],[]),0,[],[],[],[],0))
theorem cLy:BI 0 b0:=⟨C3 _,C3 _,C3 _,⟨λs hs=>(Dl hs).elim,λs hs=>(Dl hs).elim⟩,rfl,(Wr ([],[]) ([],[]) 0 0 0 (by simp) ⟨by simp,by simp,λs hs=>(Dl hs).elim,λs hs=>(Dl hs).elim⟩ (by simp)).mono (by omega)⟩
noncomputable def U5(l:List ByteArray):Dr:=l.foldl FJ (Aa,b0)
def gF(s:ByteArray):List ByteArray:=cond ((((gH s 10)[(gH s 10).length - 1]?).getD nl1).toList==Aa.toList) ((gH s 10).take ((gH s 10).length - 1)) (gH s 10)
def cL8:ByteArray:=BC
noncomputable def DR(s:ByteArray):ByteArray:=cond (D (s.size>4000)||D ((gF s).length>80)) cL8 (U5 (gF s)).1
theorem RJ{s x:ByteArray}(h:x∈gF s):x∈gH s 10:=by
 unfold gF at h
 revert h
 cases (((gH s 10)[(gH s 10).length - 1]?).getD nl1).toList==Aa.toList with
 | true=>exact λh=>List.mem_of_mem_take h
 | false=>exact id
theorem bRt(s:ByteArray):(gF s).length<=(gH s 10).length:=by
 unfold gF;cases (((gH s 10)[(gH s 10).length - 1]?).getD nl1).toList==Aa.toList with
 | true=>show (List.take _ _).length<=_;rw[List.length_take];exact Nat.min_le_right _ _
 | false=>exact Cz _
abbrev Md(n:Nat)(p:Dr):ByteArray×Int×q12:=
 (p.1,(n:Int),p.2.1.1,p.2.1.2,p.2.2.1.1,p.2.2.1.2,p.2.2.2.2.1,p.2.2.2.2.2.1.1,p.2.2.2.2.2.1.2,p.2.2.2.2.2.2.1.1,p.2.2.2.2.2.2.1.2,p.2.2.2.2.2.2.2.1.1,p.2.2.2.2.2.2.2.1.2.1,p.2.2.2.2.2.2.2.1.2.2,p.2.2.2.2.2.2.2.2.1,p.2.2.2.2.2.2.2.2.2.1,p.2.2.2.2.2.2.2.2.2.2.1,p.2.2.2.2.2.2.2.2.2.2.2.1,p.2.2.2.2.2.2.2.2.2.2.2.2.1,p.2.2.2.2.2.2.2.2.2.2.2.2.2,p.2.2.2.1)
structure PG (k:Nat) (p:Dr):Prop where
 size:p.1.size<=100000000001 * k
 bench:BI k p.2
theorem Wi{k:Nat}{p:Dr}{s:ByteArray}(h:PG k p)(hk:k<=80)(hs:s.size<=5000):PG (k+1) (FJ p s)/\((s.toList==Aa.toList)=Y-> ∃o b',eO p.2 s=U (DU o b')/\qV (Di p.2) s=U (DU o b')/\o.size<=100000000000/\FJ p s=(p.1++(o++nl1),b')):=by
 have hsz:=h.size;have hb:=h.bench.next
 unfold FJ;cases c:s.toList==Aa.toList with
 | true=>exact⟨⟨by show p.1.size<=_;omega,hb⟩,λg=>absurd g (by simp)⟩
 | false=>
  obtain⟨o,b',e1,e2,e3,e4⟩:=bWq h.bench hk hs;rw[e1];refine⟨⟨?_,e4⟩,λ_=>⟨o,b',rfl,e2,e3,rfl⟩⟩;show (p.1++(o++nl1)).size<=_;rw[ByteArray.size_append,ByteArray.size_append];show p.1.size+(o.size+1)<=_;omega
theorem VW{S R:Type}{step:S->Option (S⊕R)}{enc:Nat->Dr->S}{out:Dr->R}(l:List ByteArray)(hl:l.length<=80)(hz:∀x∈l,x.size<=5000)
  (h:∀(k:Nat) (x:ByteArray) (p:Dr),l[k]? =U x->k<l.length->PG k p->step (enc k p)=U (.inl (enc (k+1) (FJ p x)))) (he:∀p,step (enc l.length p)=U (.inr (out p))):
  ∀(rest pre:List ByteArray) (p:Dr),pre++rest=l->PG pre.length p->aB step (enc pre.length p)=U (out (rest.foldl FJ p))
 | [],pre,p,hp,hr=>by
  rw[CU]at hp;subst hp;exact aH (he p)
 | x::rest,pre,p,hp,hr=>by
  have hx:l[pre.length]? =U x:=by rw[<- hp];simp
  have hlt:pre.length<l.length:=by rw[<- hp];simp
  rw[aO (h pre.length x p hx hlt hr)];have hr':=(Wi hr (by omega) (hz x (by rw[<- hp];simp))).1;have ih:=VW l hl hz h he rest (pre++[x]) (FJ p x) (by rw[<- hp];simp) (by rw[C7];exact hr');rw[C7]at ih;exact ih
theorem cKt:PG 0 (Aa,b0):=⟨Cz _,cLy⟩
theorem bAe{s:ByteArray}(hs:s.size<=1000000000):(cond (D ((0:Int)<=wr (((gH s 10).length:Int) - (1:Int)))) (cond (D (wr (((gH s 10).length:Int) - (1:Int))<((gH s 10).length:Int))) (Option.bind (gH s 10)[(wr (((gH s 10).length:Int) - (1:Int))).toNat]? λx2=>cond (x2.toList==Aa.toList) (cond (bG (0:Int) (wr (((gH s 10).length:Int) - (1:Int))) ((gH s 10).length:Int)) (U (cut (gH s 10) (0:Int) (wr (((gH s 10).length:Int) - (1:Int))))) W) (U (gH s 10))) W) W)=U (gF s):=by
 obtain⟨h1,h2⟩:=NY s 10;unfold gF;generalize gH s 10=l at *;have hw:wr ((l.length:Int) - 1)=((l.length - 1:Nat):Int):=(wri (by omega) (by omega)).trans (by omega);have hg:l[l.length - 1]? =U (l[l.length - 1]'(by omega)):=Cs (by omega);have sl:=yK (a:=0) (b:=l.length - 1) (n:=l.length);rw[show ((0:Nat):Int)=0 from rfl,zX (C3 _),zX (show l.length - 1<=l.length by omega)]at sl;rw[hw,zX (show (0:Int)<=((l.length - 1:Nat):Int) by omega),zX (show ((l.length - 1:Nat):Int)<(l.length:Int) by omega),Cj,hg,sl,fL];simp only[zZ,aA,CJ,Cw];cases (l[l.length - 1]'(by omega)).toList==Aa.toList<;>rfl
theorem bEw(s:ByteArray):cond (D ((s.size:Int)>(4000:Int))) (U X) (U (D (((gF s).length:Int)>(80:Int))))=U (D (s.size>4000)||D ((gF s).length>80)):=by
 rw[show D ((s.size:Int)>(4000:Int))=D (s.size>4000) from decide_eq_decide.2 (by omega),show D (((gF s).length:Int)>(80:Int))=D ((gF s).length>80) from decide_eq_decide.2 (by omega)];cases D (s.size>4000)<;>rfl
theorem TE{n:Nat}(h:n<=9000000000000):D (n<=maxLen)=X:=zX (by simp only[maxLen];omega)
theorem XY{s:ByteArray}(hs:s.size<=1000000000):HA s=U (DR s):=by
 unfold HA BX DX aS bA bZ dS oF zA zE zH D2 D1 E4 A0 A4 A3 A8 B0 B8;rw[MQ hs,aA,bAe hs,aA,bEw,aA];unfold DR;cases c:D (s.size>4000)||D ((gF s).length>80) with
 | true=>rfl
 | false=>
  rw[Kf]at c;have h1:=of_decide_eq_false c.1;have h2:=of_decide_eq_false c.2;rw[zY,zY];show Option.bind (aB _ (Md ([]:List ByteArray).length (Aa,b0))) _=_;rw[VW (enc:=Md) (out:=Prod.fst) (gF s) (by omega) (λx hx=>by have :=NT (RJ hx);omega) (λk x p hx hk hr=>by
   have hz:x.size<=5000:=by have :=NT (RJ (Cm hx));omega
   have f:=(Wi hr (by omega) hz).2;have hsz:=hr.size;have hp:p.1.size<=8000000000080:=by omega
   have hw:wr ((k:Int)+1)=((k+1:Nat):Int):=(wri (by omega) (by omega)).trans (by omega);have e:idx (gF s) (k:Int)=U x:=by rw[aQ];exact hx
   have hd:D ((k:Int)<((gF s).length:Int))=X:=zX (by omega);simp only[Md,e,aA,aD];rw[hd];simp only[zZ];cases c:x.toList==Aa.toList with
   | true=>
    simp only[BZ,zY,aA,hw];unfold FJ;rw[c];rfl
   | false=>
    obtain⟨o,b',e1,e2,e3,e4⟩:=f c;rw[e4];simp only[Cn,zZ];rw[show eO p.2 x=_ from e1];simp only[aA,show (DU o b').1=o from rfl,show D (o.size+Ah.size<=maxLen)=X from TE (by show o.size+1<=_;omega),show D (p.1.size+(o++Ah).size<=maxLen)=X from TE (by rw[ByteArray.size_append];show _+(o.size+1)<=_;omega),zZ,hw];rfl) (λp=>by simp[Md]) (gF s) [] _ rfl cKt]
  rfl
theorem XO{s:ByteArray}(hs:s.size<=1000000000):zP s=U (DR s):=by
 unfold zP BX DX aS bA bZ dS oF zA zE zH D2 D1 E4 A0 A4 A3 A8 B0 B8;rw[Tg hs,aA,bAe hs,aA,bEw,aA];unfold DR;cases c:D (s.size>4000)||D ((gF s).length>80) with
 | true=>rfl
 | false=>
  rw[Kf]at c;have h1:=of_decide_eq_false c.1;have h2:=of_decide_eq_false c.2;rw[zY,zY];show Option.bind (aB _ (Md ([]:List ByteArray).length (Aa,b0))) _=_;rw[VW (enc:=Md) (out:=Prod.fst) (gF s) (by omega) (λx hx=>by have :=NT (RJ hx);omega) (λk x p hx hk hr=>by
   have hz:x.size<=5000:=by have :=NT (RJ (Cm hx));omega
   have f:=(Wi hr (by omega) hz).2;have hsz:=hr.size;have hp:p.1.size<=8000000000080:=by omega
   have hw:wr ((k:Int)+1)=((k+1:Nat):Int):=(wri (by omega) (by omega)).trans (by omega);have e:idx (gF s) (k:Int)=U x:=by rw[aQ];exact hx
   have hd:D ((k:Int)<((gF s).length:Int))=X:=zX (by omega);simp only[Md,e,aA,aD];rw[hd];simp only[zZ];cases c:x.toList==Aa.toList with
   | true=>
    simp only[BZ,zY,aA,hw];unfold FJ;rw[c];rfl
   | false=>
    obtain⟨o,b',e1,e2,e3,e4⟩:=f c;rw[e4];simp only[Cn,zZ];rw[show qV (p.2.1,p.2.2.2.1,p.2.2.1,p.2.2.2.2) x=_ from e2];simp only[aA,show (DU o b').1=o from rfl,show D (p.1.size+o.size<=maxLen)=X from TE (by omega),show D ((p.1++o).size+Ah.size<=maxLen)=X from TE (by rw[ByteArray.size_append];show _+1<=_;omega),zZ,hw,ByteArray.append_assoc];rfl) (λp=>by simp[Md]) (gF s) [] _ rfl cKt]
  rfl
theorem bIy(a:Int):0<=DK .i64 a 255/\DK .i64 a 255<=255:=by
 have h:((BitVec.ofInt 64 a &&& BitVec.ofInt 64 255).toNat)<=255:=by
  rw[BitVec.toNat_and];exact B5 Nat.and_le_right (by decide)
 have e:DK .i64 a 255=wr (((BitVec.ofInt 64 a &&& BitVec.ofInt 64 255).toNat:Nat):Int):=rfl;rw[e,show wr (((BitVec.ofInt 64 a &&& BitVec.ofInt 64 255).toNat:Nat):Int)=_ from wri (by omega) (by omega)];omega
def Du(code:List Int)(c:List Int×q14):Prop:=c.1=code/\0<=c.2.1/\c.2.1<=(code.length:Int)
theorem bY0{code:List Int}(hl:code.length<=1048576){c:List Int}{p h:Int}(hc:Du code (c,p,h)):∃v c' p' h',GO (c,p,h)=U (v,c',p',h')/\(0<=v/\v<=255)/\Du code (c',p',h'):=by
 obtain⟨h1,h2,h3⟩:=hc;simp only at h1 h2 h3;subst h1;unfold GO B6;simp only[aA]
 by_cases hp:p<(c.length:Int)
 .obtain⟨m,rfl⟩:=Ew h2;have hm:m<c.length:=by omega
  rw[zX hp,zZ,aQ,Cs hm];refine⟨_,_,_,_,rfl,bIy _,rfl,?_,?_⟩
  .show 0<=wr ((m:Int)+1);rw[show wr ((m:Int)+1)=(m:Int)+1 from wri (by omega) (by omega)];omega
  .show wr ((m:Int)+1)<=_;rw[show wr ((m:Int)+1)=(m:Int)+1 from wri (by omega) (by omega)];omega
 .rw[zW hp,zY];exact⟨_,_,_,_,rfl,bIy _,rfl,h2,h3⟩
theorem IU{code:List Int}(hl:code.length<=1048576){n:Int}(h0:0<n)(h1:n<=256){c:List Int}{p h:Int}(hc:Du code (c,p,h)):∃v c' p' h',gD (c,p,h) n=U (v,c',p',h')/\(0<=v/\v<n)/\Du code (c',p',h'):=by
 obtain⟨v,c',p',h',hb,hv,hc'⟩:=bY0 hl hc;refine⟨CM v n,c',p',h',?_,⟨Int.tmod_nonneg _ hv.1,Int.tmod_lt_of_pos _ h0⟩,hc'⟩;unfold gD A6;rw[zW (by omega),zY,zX h1,zZ];simp only[hb,aA];rw[show (n==0)=Y by rw[beq_eq_false_iff_ne];omega,zY]
theorem bNc{code:List Int}(hl:code.length<=1048576){l:List Int}(h0:0<l.length)(h1:l.length<=256){c:List Int}{p h:Int}(hc:Du code (c,p,h)):∃v c' p' h',Ic (c,p,h) l=U (v,c',p',h')/\v∈l/\Du code (c',p',h'):=by
 obtain⟨v,c',p',h',hb,hv,hc'⟩:=IU hl (n:=(l.length:Int)) (by omega) (by omega) hc;obtain⟨m,rfl⟩:=Ew hv.1;have hm:m<l.length:=by omega
 refine⟨l[m],c',p',h',?_,List.getElem_mem hm,hc'⟩;unfold Ic A6;simp only[hb,aA,aQ,Cs hm]
theorem Sp{code:List Int}(hl:code.length<=1048576){n:Int}(h0:0<n)(h1:n<=256){c:List Int}{p h:Int}(hc:Du code (c,p,h)):∃b c' p' h',yH (c,p,h) n=U (b,c',p',h')/\Du code (c',p',h'):=by
 obtain⟨v,c',p',h',hb,hv,hc'⟩:=IU hl h0 h1 hc;refine⟨v==0,c',p',h',?_,hc'⟩;unfold yH A6;simp only[hb,aA]
theorem bLn{code:List Int}(hl:code.length<=1048576):∃c p h,Ie code=U (c,p,h)/\Du code (c,p,h):=by
 unfold Ie;refine bEe (G:=λo=> ∃c p h,o=U (c,p,h)/\Du code (c,p,h)) (λn s=> ∃k:Nat,s.2=(k:Int)/\k+n=code.length) (λ_=>True) ?_ code.length _ ⟨0,rfl,by omega⟩ ?_
 .rintro n ⟨a,b⟩ ⟨k,hk,hn⟩
  simp only at hk;subst hk
  by_cases h1:(k:Int)<(code.length:Int)
  .by_cases h2:(k:Int)<4000
   .right;have hk:k<code.length:=by omega
    refine⟨n - 1,(DK .i64 (wr ((wr ((wr (a * (137:Int)))+(wr code[k])))+(11:Int))) (1073741823:Int),((k+1:Nat):Int)),by omega,?_,k+1,rfl,by omega⟩;simp only[zX h1,zX h2,zZ,aA,aQ,Cs hk];rw[show wr ((k:Int)+1)=((k+1:Nat):Int) from by rw[show wr ((k:Int)+1)=(k:Int)+1 from wri (by omega) (by omega)];omega]
   .left;refine⟨a,?_,trivial⟩;simp only[zX h1,zW h2,zZ,zY,aA]
  .left;refine⟨a,?_,trivial⟩;simp only[zW h1,zY,aA]
 .intro r _;exact⟨_,_,_,rfl,rfl,Int.le_refl 0,by show (0:Int)<=_;omega⟩
theorem bX6{code:List Int}(hl:code.length<=1048576){m:Nat}(hm:3<=m/\m<=1000):∃n:Nat,Js code (m:Int)=U (n:Int)/\n<=m:=by
 unfold Js;have e:CQ (code.length:Int) 12=((code.length / 12:Nat):Int):=rfl;have w:wr ((code.length:Int).tdiv 12)=((code.length / 12:Nat):Int):=by rw[e,oM (by omega) (by omega)]
 have w2:wr ((3:Int)+((code.length / 12:Nat):Int))=((3+code.length / 12:Nat):Int):=by rw[oM (by omega) (by omega)];omega
 simp only[w,w2]
 by_cases h:((3+code.length / 12:Nat):Int)>(m:Int)
 .rw[zX h];exact⟨m,rfl,Cz _⟩
 .rw[zW h];exact⟨3+code.length / 12,rfl,by omega⟩
theorem Qo{code:List Int}(hl:code.length<=1048576){l:List ByteArray}(h0:0<l.length)(h1:l.length<=256){c:List Int}{p h:Int}(hc:Du code (c,p,h)):∃v c' p' h',Gb (c,p,h) l=U (v,c',p',h')/\v∈l/\Du code (c',p',h'):=by
 obtain⟨v,c',p',h',hb,hv,hc'⟩:=IU hl (n:=(l.length:Int)) (by omega) (by omega) hc;obtain⟨m,rfl⟩:=Ew hv.1;have hm:m<l.length:=by omega
 refine⟨l[m],c',p',h',?_,List.getElem_mem hm,hc'⟩;unfold Gb A6;simp only[hb,aA,aQ,Cs hm]
def nls(l:List UInt8):Nat:=(l.filter λx=>(x.toNat:Int)==10).length
theorem cGy(a b:List UInt8):nls (a++b)=nls a+nls b:=by unfold nls;rw[List.filter_append,C7]
theorem Wb:∀(l cur:List UInt8),(oH 10 cur l).length=nls l+1
 | [],_=>rfl
 | x::l,cur=>by
  unfold oH nls;rw[List.filter_cons];cases c:(x.toNat:Int)==10 with
  | true=>
   rw[zZ,C6,Wb l []];rfl
  | false=>
   rw[zY,Wb l (cur++[x])];rfl
def Tx(s:ByteArray)(n m:Nat):Prop:=s.size<=m/\nls s.data.toList<=n
theorem Tx.app{a b:ByteArray}{n m n' m':Nat}(h:Tx a n m)(k:Tx b n' m'):Tx (a++b) (n+n') (m+m'):=by
 refine⟨by rw[ByteArray.size_append];exact Nat.add_le_add h.1 k.1,?_⟩;rw[show (a++b).data.toList=a.data.toList++b.data.toList by simp,cGy];exact Nat.add_le_add h.2 k.2
theorem Tx.mono{a:ByteArray}{n m n' m':Nat}(h:Tx a n m)(hn:n<=n')(hm:m<=m'):Tx a n' m':=⟨B5 h.1 hm,B5 h.2 hn⟩
def Eo(s:ByteArray):Prop:= ∃l,s.data.toList=l++[10]
theorem Eo.app{a b:ByteArray}(h:Eo b):Eo (a++b):=by
 obtain⟨l,hl⟩:=h;exact⟨a.data.toList++l,by rw[show (a++b).data.toList=a.data.toList++b.data.toList by simp,hl,CY]⟩
theorem cEs:Eo nl1:=⟨[],rfl⟩
theorem Th{v:Int}(h0:0<=v)(h1:v<10):Tx (eJ v) 0 1:=by
 obtain⟨m,rfl⟩:=Ew h0;have e:=W7 (n:=m) (by omega);refine⟨by rw[<- nN,e];exact Cz 1,?_⟩;rw[e];have key:∀k<10,nls [48+UInt8.ofNat k]<=0:=by decide
 exact key m (by omega)
theorem Tx.fits{a b:ByteArray}{n m n' m':Nat}(h:Tx a n m)(k:Tx b n' m')(hm:m+m'<=1000000):D (a.size+b.size<=maxLen)=X:=fit (by have :=h.1;have :=k.1;omega)
def cMm(code:List Int)(o:Option q29):Prop:= ∃t c' p' h',o=U (t,c',p',h')/\Tx t 0 60/\Du code (c',p',h')
def lit(s:ByteArray)(n m:Nat):Bool:=D (s.size<=m)&&D (nls s.data.toList<=n)
theorem yM{s:ByteArray}{n m:Nat}(h:lit s n m=X):Tx s n m:=by
 unfold lit at h;rw[Ck,zR,zR]at h;exact h
theorem Qm{l:List ByteArray}{n m:Nat}(h:(l.all λs=>lit s n m)=X){s:ByteArray}(hs:s∈l):Tx s n m:=yM (Dg.1 h s hs)
theorem cGp{code:List Int}(hl:code.length<=1048576){c:List Int}{p h:Int}(hc:Du code (c,p,h)):cMm code (vQ (c,p,h)):=by
 obtain⟨v1,c1,p1,h1,e1,r1,k1⟩:=IU hl (n:=5) (by decide) (by decide) hc;obtain⟨v2,c2,p2,h2,e2,r2,k2⟩:=IU hl (n:=5) (by decide) (by decide) k1;obtain⟨v3,c3,p3,h3,e3,r3,k3⟩:=IU hl (n:=12) (by decide) (by decide) k2;have t1:=Th r1.1 (by omega);have t2:=Th r2.1 (by omega);have sp:Tx Ak 0 1:=yM (by decide);unfold vQ A6 B6;simp only[e1,e2,e3,aA,JG];cases v3==(0:Int) with
 | true=>
  have f:Tx Aj 0 5:=yM (by decide);have g1:=f.app t1;have g2:=g1.app sp;rw[zZ,Tx.fits f t1 (by decide),zZ,Tx.fits g1 sp (by decide),zZ,Tx.fits g2 t2 (by decide),zZ];exact⟨_,_,_,_,rfl,(g2.app t2).mono (by decide) (by decide),k3⟩
 | false=>
  have e6:cond (v3==(1:Int)) (U (v3==(1:Int))) (U (v3==(2:Int)))=U (cond (v3==(1:Int)) X (v3==(2:Int))):=by cases v3==(1:Int)<;>rfl
  rw[zY,e6,aA];cases cond (v3==(1:Int)) X (v3==(2:Int)) with
  | true=>
   obtain⟨y,c4,p4,h4,e4,hy,k4⟩:=Qo hl (l:=[Al,Am,An]) (by decide) (by decide) k3;have ty:Tx y 0 3:=Qm (by decide) hy;have f:Tx Ao 0 7:=yM (by decide);rw[zZ,e4,aA,Tx.fits f ty (by decide),zZ];exact⟨_,_,_,_,rfl,(f.app ty).mono (by decide) (by decide),k4⟩
  | false=>
   rw[zY];cases v3==(3:Int) with
   | true=>
    have f:Tx Ap 0 6:=yM (by decide);have g1:=f.app t1;have g2:=g1.app sp;rw[zZ,Tx.fits f t1 (by decide),zZ,Tx.fits g1 sp (by decide),zZ,Tx.fits g2 t2 (by decide),zZ];exact⟨_,_,_,_,rfl,(g2.app t2).mono (by decide) (by decide),k3⟩
   | false=>
    rw[zY];cases v3==(4:Int) with
    | true=>
     have f:Tx Aq 0 5:=yM (by decide);have q:Tx Ar 0 2:=yM (by decide);have g1:=f.app t1;have g2:=g1.app sp;have g3:=g2.app t2;rw[zZ,Tx.fits f t1 (by decide),zZ,Tx.fits g1 sp (by decide),zZ,Tx.fits g2 t2 (by decide),zZ,Tx.fits g3 q (by decide),zZ];exact⟨_,_,_,_,rfl,(g3.app q).mono (by decide) (by decide),k3⟩
    | false=>
     rw[zY];cases v3==(5:Int) with
     | true=>
      obtain⟨y,c4,p4,h4,e4,hy,k4⟩:=Qo hl (l:=[As,Au,Au,Av,Aw]) (by decide) (by decide) k3;rw[zZ,e4];exact⟨_,_,_,_,rfl,Qm (by decide) hy,k4⟩
     | false=>
      rw[zY];cases v3==(6:Int) with
      | true=>
       obtain⟨y,c4,p4,h4,e4,hy,k4⟩:=Qo hl (l:=[Ax,Ay,Az,AA]) (by decide) (by decide) k3;have ty:Tx y 0 9:=Qm (by decide) hy;rw[zZ,e4,aA,Tx.fits ty t1 (by decide),zZ];exact⟨_,_,_,_,rfl,(ty.app t1).mono (by decide) (by decide),k4⟩
      | false=>
       rw[zY];cases v3==(7:Int) with
       | true=>
        obtain⟨y,c4,p4,h4,e4,hy,k4⟩:=Qo hl (l:=[AB,AC,AD,AE,AF,AG]) (by decide) (by decide) k3;rw[zZ,e4];exact⟨_,_,_,_,rfl,Qm (by decide) hy,k4⟩
       | false=>
        obtain⟨y,c4,p4,h4,e4,hy,k4⟩:=Qo hl (l:=[As,Au,As,Au,Aa,AH,AI,AJ,AK,AL,AM,AN,AO]) (by decide) (by decide) k3;rw[zY,e4];exact⟨_,_,_,_,rfl,Qm (by decide) hy,k4⟩
theorem X1{n:Nat}(h:n<=1000000):wr (((n+1:Nat):Int) - 1)=(n:Int):=(oM (by omega) (by omega)).trans (by omega)
theorem QU:Tx Ah 1 1:=yM (by decide)
theorem bFd{R:Type}{code:List Int}(hl:code.length<=1048576){step:ByteArray×Int×lI×Int×Int->Option ((ByteArray×Int×lI×q14)⊕R)}{out:ByteArray->List Int×Int×Int->R}
  (h0:∀t c p h,step (t,0,c,p,h)=U (.inr (out t (c,p,h)))) (h1:∀(n i m:Nat) t x c p h c' p' h',n<=1000->Tx t i m->m<=100000->Tx x 0 60->vQ (c,p,h)=U (x,c',p',h')->step (t,((n+1:Nat):Int),c,p,h)=U (.inl ((t++x)++Ah,(n:Int),c',p',h'))):
  ∀(n i m:Nat) t c p h,n<=1000->m+61 * n<=100000->Tx t i m->Du code (c,p,h)-> ∃t' c' p' h',aB step (t,(n:Int),c,p,h)=U (out t' (c',p',h'))/\Tx t' (i+n) (m+61 * n)/\(Eo t->Eo t')/\Du code (c',p',h')
 | 0,i,m,t,c,p,h,_,_,ht,hc=>⟨t,c,p,h,aH (h0 t c p h),ht,id,hc⟩
 | n+1,i,m,t,c,p,h,hn,hm,ht,hc=>by
  obtain⟨x,c1,p1,h1',e,hx,k⟩:=cGp hl hc;rw[aO (h1 n i m t x c p h c1 p1 h1' (by omega) ht (by omega) hx e)];obtain⟨t',c',p',h',g1,g2,g3,g4⟩:=bFd hl h0 h1 n (i+1) (m+61) ((t++x)++Ah) c1 p1 h1' (by omega) (by omega) (((ht.app hx).app QU).mono (by omega) (by omega)) k;exact⟨t',c',p',h',g1,g2.mono (by omega) (by omega),λ_=>g3 (Eo.app cEs),g4⟩
theorem bFp{R T:Type}{code:List Int}(hl:code.length<=1048576){step:ByteArray×Int×lI×Int×Int->Option ((ByteArray×Int×lI×q14)⊕R)}(out:ByteArray->List Int×Int×Int->R){k:R->Option T}{G:Option T->Prop}(n i m:Nat){t:ByteArray}{c:List Int}{p h:Int}(hn:n<=1000)(hm:m+61 * n<=100000)(ht:Tx t i m)(hc:Du code (c,p,h))
  (h0:∀t c p h,step (t,0,c,p,h)=U (.inr (out t (c,p,h)))) (h1:∀(n i m:Nat) t x c p h c' p' h',n<=1000->Tx t i m->m<=100000->Tx x 0 60->vQ (c,p,h)=U (x,c',p',h')->step (t,((n+1:Nat):Int),c,p,h)=U (.inl ((t++x)++Ah,(n:Int),c',p',h')))
  (hk:∀t' c' p' h',Tx t' (i+n) (m+61 * n)->(Eo t->Eo t')->Du code (c',p',h')->G (k (out t' (c',p',h')))):G (Option.bind (aB step (t,(n:Int),c,p,h)) k):=by
 obtain⟨t',c',p',h',x1,x2,x3,x4⟩:=bFd hl h0 h1 n i m t c p h hn hm ht hc;rw[x1];exact hk t' c' p' h' x2 x3 x4
theorem bZq{code:List Int}(hl:code.length<=1048576){c:List Int}{p h:Int}(hc:Du code (c,p,h)):∃t c' p' h',KI (c,p,h)=U (t,c',p',h')/\Tx t 13 200/\Du code (c',p',h'):=by
 obtain⟨b2,c2,p2,h2,e2,k2⟩:=Sp hl (n:=2) (by decide) (by decide) hc;have t0:Tx Ad 9 110:=yM (by decide);have l1:Tx Ae 1 19:=yM (by decide);unfold KI A6;simp only[aA,e2];generalize Ad=a0 at *;rw[Tx.fits t0 l1 (by decide)];have e3:∀q:ByteArray,cond b2 (cond X (U (a0++q,c2,p2,h2)) W) (U (a0,c2,p2,h2))=U (cond b2 (a0++q) a0,c2,p2,h2):=by intro q;cases b2<;>rfl
 rw[e3,aA];have t1:Tx (cond b2 (a0++Ae) a0) 10 129:=by
  cases b2 with
  | true=>exact t0.app l1
  | false=>exact t0.mono (by decide) (by decide)
 generalize cond b2 (a0++Ae) a0=a1 at *;obtain⟨b4,c4,p4,h4,e4,k4⟩:=Sp hl (n:=3) (by decide) (by decide) k2;have lb:Tx Ai 2 15:=yM (by decide);simp only[e4,aA];cases b4 with
 | false=>
  simp only[zY,aA,Tx.fits t1 lb (by decide),zZ];exact⟨_,_,_,_,rfl,(t1.app lb).mono (by decide) (by decide),k4⟩
 | true=>
  obtain⟨v5,c5,p5,h5,e5,r5,k5⟩:=IU hl (n:=5) (by decide) (by decide) k4;obtain⟨v7,c7,p7,h7,e7,r7,k7⟩:=bNc hl (l:=[(0:Int),(2:Int),(4:Int)]) (by decide) (by decide) k5;have r7':0<=v7/\v7<10:=(show ∀x∈[(0:Int),2,4],0<=x/\x<10 by decide) v7 r7;have q1:Tx Af 0 7:=yM (by decide);have q2:=Th r5.1 (by omega);have q3:Tx Ag 0 9:=yM (by decide);have q4:=Th r7'.1 r7'.2;have g1:=t1.app q1;have g2:=g1.app q2;have g3:=g2.app q3;have g4:=g3.app q4;have g5:=g4.app QU;simp only[zZ,e5,e7,aA,JG,Tx.fits t1 q1 (by decide),Tx.fits g1 q2 (by decide),Tx.fits g2 q3 (by decide),Tx.fits g3 q4 (by decide),Tx.fits g4 QU (by decide),Tx.fits g5 lb (by decide)];exact⟨_,_,_,_,rfl,(g5.app lb).mono (by decide) (by decide),k7⟩
theorem bHp{code:List Int}(hl:code.length<=1048576){most:Nat}(h0:0<most)(h1:most<=200){c:List Int}{p h:Int}(hc:Du code (c,p,h)):∃t c' p' h',wP (c,p,h) (most:Int)=U (t,c',p',h')/\Tx t (15+most) (230+61 * most)/\Eo t/\Du code (c',p',h'):=by
 obtain⟨a,c1,p1,h1',e1,t1,k1⟩:=bZq hl hc;obtain⟨v2,c2,p2,h2,e2,r2,k2⟩:=IU hl (n:=(most:Int)) (by omega) (by omega) k1;obtain⟨m,rfl⟩:=Ew r2.1;have f:Tx AP 2 30:=yM (by decide);have g:=t1.app f;have he:Eo (a++AP):=Eo.app ⟨[102,108,111,119,32,52,32,51,10,115,101,110,100,32,48,32,104,101,108,108,111],rfl⟩;have w1:wr ((1:Int)+(m:Int))=((m+1:Nat):Int):=(oM (by omega) (by omega)).trans (by omega);unfold wP A6 B6;simp only[e1,aA,Tx.fits t1 f (by decide),zZ,e2,w1];refine bFp (G:=λo=> ∃t c' p' h',o=U (t,c',p',h')/\Tx t (15+most) (230+61 * most)/\Eo t/\Du code (c',p',h')) hl (λt c=>(t,c.1,c.2.1,c.2.2)) (m+1) 15 230 (by omega) (by omega) g k2 (λt c p h=>by rfl) ?_ ?_
 .intro n i m t x c p h c' p' h' hn ht hm hx e;simp only[zX (show ((n+1:Nat):Int)>0 by omega),zZ,e,aA,Tx.fits ht hx (by omega),Tx.fits (ht.app hx) QU (by omega),X1 (show n<=1000000 by omega)]
 .intro t' c' p' h' x2 x3 x4;exact⟨t',c',p',h',rfl,x2.mono (by omega) (by omega),x3 he,x4⟩
def X6:ByteArray:=BD
theorem bA8{step:ByteArray×Int->Option (q35⊕ByteArray)}(h0:∀t,step (t,0)=U (.inr t))(h1:∀(n:Nat) t,n<=1000->t.size<=100000->step (t,((n+1:Nat):Int))=U (.inl (t++X6,(n:Int)))):∀(n:Nat) (t:ByteArray),n<=1000->t.size+6 * n<=100000-> ∃t',aB step (t,(n:Int))=U t'/\t'.size<=100000
 | 0,t,_,ht=>⟨t,aH (h0 t),by omega⟩
 | n+1,t,hn,ht=>by
  rw[aO (h1 n t (by omega) (by omega))];exact bA8 h0 h1 n _ (by omega) (by rw[ByteArray.size_append];show t.size+6+_<=_;omega)
theorem bQ0{T:Type}{step:ByteArray×Int->Option (q35⊕ByteArray)}{k:ByteArray->Option T}{G:Option T->Prop}(n:Nat)(hn:n<=1000)(h0:∀t,step (t,0)=U (.inr t))(h1:∀(n:Nat) t,n<=1000->t.size<=100000->step (t,((n+1:Nat):Int))=U (.inl (t++X6,(n:Int))))(hk:∀t',t'.size<=100000->G (k t')):G (Option.bind (aB step (Aa,(n:Int))) k):=by
 obtain⟨t',e,ht⟩:=bA8 h0 h1 n Aa hn (by show 0+_<=_;omega);rw[e];exact hk t' ht
theorem bVs{code:List Int}(hl:code.length<=1048576):∃a b,Ks code=U (a,b)/\Tx a 35 1450/\Eo a/\Tx b 6 400:=by
 obtain⟨c0,p0,h0,e0,k0⟩:=bLn hl;obtain⟨a,c1,p1,h1,e1,ta,ha,k1⟩:=bHp hl (most:=20) (by decide) (by decide) k0;obtain⟨v2,c2,p2,h2,e2,r2,k2⟩:=IU hl (n:=6) (by decide) (by decide) k1;obtain⟨m,rfl⟩:=Ew r2.1;have w1:wr ((1:Int)+(m:Int))=((m+1:Nat):Int):=(oM (by omega) (by omega)).trans (by omega);have e1:wP (c0,p0,h0) (20:Int)=U (a,c1,p1,h1):=e1;unfold Ks A6;simp only[e0,aA,e1,e2,w1];refine bFp (G:=λo=> ∃a b,o=U (a,b)/\Tx a 35 1450/\Eo a/\Tx b 6 400) hl (λt c=>t) (m+1) 0 0 (by omega) (by omega) (yM (by decide)) k2 (λt c p h=>by rfl) ?_ ?_
 .intro n i m t x c p h c' p' h' hn ht hm hx e;simp only[zX (show ((n+1:Nat):Int)>0 by omega),zZ,e,aA,Tx.fits ht hx (by omega),Tx.fits (ht.app hx) QU (by omega),X1 (show n<=1000000 by omega)]
 .intro t' c' p' h' x2 x3 x4;exact⟨a,t',rfl,ta,ha,x2.mono (by omega) (by omega)⟩
theorem bYp{code:List Int}(hl:code.length<=1048576):∃e:ByteArray,vI code=U e/\e.size<=1000000:=by
 obtain⟨c0,p0,h0,e0,k0⟩:=bLn hl;obtain⟨b1,c1,p1,h1,e1,k1⟩:=Sp hl (n:=40) (by decide) (by decide) k0;unfold vI A6;simp only[e0,aA,e1];cases b1 with
 | true=>
  obtain⟨v3,c3,p3,h3,e3,r3,k3⟩:=bNc hl (l:=[(80:Int),(81:Int),(82:Int)]) (by decide) (by decide) k1;have r3':0<=v3/\v3<=100:=(show ∀x∈[(80:Int),81,82],0<=x/\x<=100 by decide) v3 r3;obtain⟨m,rfl⟩:=Ew r3'.1;simp only[zZ,e3,aA];refine bQ0 (G:=λo=> ∃e:ByteArray,o=U e/\e.size<=1000000) m (by omega) (λt=>by rfl) ?_ ?_
  .intro n t hn ht;simp only[zX (show ((n+1:Nat):Int)>0 by omega),zZ,show D (t.size+BD.size<=maxLen)=X from fit (b:=X6) (by show t.size+6<=_;omega),X1 (show n<=1000000 by omega)];rfl
  .intro t' ht;exact⟨t',rfl,by omega⟩
 | false=>
  obtain⟨y,ey,hy⟩:=bX6 hl (m:=30) (by decide);have ey:Js code (30:Int)=U (y:Int):=ey;have w1:wr ((6:Int)+(y:Int))=((6+y:Nat):Int):=(oM (by omega) (by omega)).trans (by omega);obtain⟨a,c2,p2,h2,e2,ta,ha,k2⟩:=bHp hl (most:=6+y) (by omega) (by omega) k1;obtain⟨b3,c3,p3,h3,e3,k3⟩:=Sp hl (n:=8) (by decide) (by decide) k2;have q:Tx AD 0 8:=yM (by decide);simp only[zY,ey,aA,w1,e2,e3,Tx.fits ta q (by omega),zZ];have :=ta.1;cases b3 with
  | true=>exact⟨_,rfl,B5 (ta.app q).1 (by omega)⟩
  | false=>exact⟨_,rfl,by omega⟩
theorem bFe(b:Int)(cur:List UInt8)(x:UInt8)(l:List UInt8):oH b cur (x::l)=cond ((x.toNat:Int)==b) (cur::oH b [] l) (oH b (cur++[x]) l):=rfl
theorem Sm:∀(l cur m:List UInt8),oH 10 cur (l++10::m)=oH 10 cur l++oH 10 [] m
 | [],cur,m=>by
  show oH 10 cur (10::m)=[cur]++oH 10 [] m;rfl
 | x::l,cur,m=>by
  rw[List.cons_append,bFe,bFe];cases (x.toNat:Int)==10 with
  | true=>
   rw[zZ,zZ,Sm l [] m];rfl
  | false=>exact Sm l (cur++[x]) m
theorem W2(a:ByteArray):a=a++Aa:=by
 apply ByteArray.ext;simp
theorem bVu{s:ByteArray}{l:List UInt8}(h:s.data.toList=l++[10]):gF s=(oH 10 [] l).map mkS:=by
 have e:gH s 10=(oH 10 [] l).map mkS++[mkS []]:=by
  unfold gH;rw[h,Sm,IG];rfl
 unfold gF;rw[e];have hn:((oH 10 [] l).map mkS++[mkS []]).length - 1=((oH 10 [] l).map mkS).length:=by simp
 rw[hn,Z9 (Cz _),Nat.sub_self];show cond ((mkS []).toList==Aa.toList) _ _=_;rw[show ((mkS []).toList==Aa.toList)=X from by rw[aZ2];rfl,zZ,List.take_left'];rfl
theorem bS0{a b:ByteArray}(h:Eo a):∃r,gF (a++b)=gF a++r:=by
 obtain⟨l,hl⟩:=h;have e:gH (a++b) 10=(oH 10 [] l).map mkS++gH b 10:=by
  unfold gH;rw[show (a++b).data.toList=a.data.toList++b.data.toList by simp,hl,CY];show (oH 10 [] (l++10::b.data.toList)).map mkS=_;rw[Sm,IG]
 have hb:=(NY b 10).1;rw[bVu hl];unfold gF;rw[e];generalize (oH 10 [] l).map mkS=x;generalize gH b 10=y at *;have hn:(x++y).length - 1=x.length+(y.length - 1):=by rw[C7];omega
 rw[hn];cases (((x++y)[x.length+(y.length - 1)]?).getD nl1).toList==Aa.toList with
 | true=>exact⟨y.take (y.length - 1),by rw[zZ,List.take_append,List.take_of_length_le (by omega),Nat.add_sub_cancel_left]⟩
 | false=>exact⟨y,rfl⟩
theorem bWf(p:Dr)(s:ByteArray):∃x,(FJ p s).1=p.1++x:=by
 unfold FJ;cases !(s.toList==Aa.toList) with
 | true=>
  cases eO p.2 s with
  | none=>exact⟨_,W2 _⟩
  | some r=>exact⟨r.1++nl1,rfl⟩
 | false=>exact⟨_,W2 _⟩
theorem O7:∀(l:List ByteArray) (p:Dr),∃x,(l.foldl FJ p).1=p.1++x
 | [],p=>⟨_,W2 _⟩
 | s::l,p=>by
  obtain⟨x,hx⟩:=bWf p s;obtain⟨y,hy⟩:=O7 l (FJ p s);exact⟨x++y,by rw[EX,hy,hx,ByteArray.append_assoc]⟩
theorem bZx{a b:ByteArray}(h:Eo a)(hs:(a++b).size<=4000)(hn:nls (a++b).data.toList<=70):∃x,DR (a++b)=DR a++x:=by
 obtain⟨r,hr⟩:=bS0 (b:=b) h;have h1:(gF (a++b)).length<=80:=by
  have h1:=bRt (a++b);have h2:(gH (a++b) 10).length=nls (a++b).data.toList+1:=by unfold gH;rw[CF,Wb]
  omega
 have h2:(gF a).length<=80:=by rw[hr,C7]at h1;omega
 have h3:a.size<=4000:=by rw[ByteArray.size_append]at hs;omega
 unfold DR;rw[zW (show ¬ (a++b).size>4000 by omega),zW (show ¬ (gF (a++b)).length>80 by omega),zW (show ¬ a.size>4000 by omega),zW (show ¬ (gF a).length>80 by omega),hr];show ∃x,(U5 (gF a++r)).1=(U5 (gF a)).1++x;unfold U5;rw[List.foldl_append];exact O7 r _
end Go.Proofs.YtjpmmodjpaabpaaGreat
