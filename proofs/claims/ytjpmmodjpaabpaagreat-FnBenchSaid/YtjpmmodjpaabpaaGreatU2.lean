/-
  Typed frames and what code makes of them, over any program: part 2. Conditions: none.
-/
import Derived.Test.YtjpmmodjpaabpaaGreatU1
import Derived.Deep.LoopGhost
import Derived.Lib.ConvBytes
import Derived.ProofKit
import Derived.OpenShut
import Derived.Carry
open List renaming getElem?_eq_some_iff->Cu,append_assoc->CY,any_eq_true->UQ,mem_filter->C2,mem_cons->Cl,mem_cons_of_mem->C1,mem_cons_self->CC,range->Es,all_eq_true->Dg,mem_singleton->Cy,any_eq_false->Da,mem_map->Ch,drop_eq_nil_of_le->Mm,map_cons->CA,length_cons->C6,cons->GH,drop_eq_getElem_cons->cRo,mem_of_getElem?->Cm,getElem?_take->Ft,getElem?_drop->Ex,take_one->PB,head?_drop->PC,getElem?_eq_getElem->Cs,singleton_append->R2,take_append_drop->FW,nodup_append->DB,nodup_cons->EW,mem_append->C0,mem_append_left->Ds,mem_append_right->D5,find?_cons_of_neg->US,append_nil->CU,mem_of_find?_eq_some->H4,mem_flatMap->Ev,find?_some->Ki,map_append->IG,length_map->CF,length_take->Dy,flatten_append->R3,take_left->Mn,mem_flatten->UO,set_eq_take_append_cons_drop->R4,nil_append->CH,flatten_cons->Fu,sum_cons->D6
open Option renaming map_eq_some_iff->CX,map_none->Kh,map_some->Kg,isSome_iff_exists->ZG
open Nat renaming zero_le->C3,succ_mul->CZ,mul_le_mul_right->DA,zero_add->Dc,le_trans->B5,min_eq_left->PD,le_refl->Cz,le_succ->Et,eq_zero_or_pos->P7,lt_of_lt_of_le->N8
open Bool renaming and_eq_true->Ck,not_eq_true'->Eu,or_eq_true->Fs,false_or->Mj
open Array renaming toList_map->Kj,getElem?_eq_some_iff->GG,getD_eq_getD_getElem?->ZE
open Sum renaming elim->Cd,inr->A2
set_option linter.unusedVariables false
set_option linter.unusedSectionVars false
open Option renaming some→U
open Option renaming none→Y
open Decidable renaming decide→Z
open Bool renaming true→J
open Bool renaming false→BW
namespace Go.V
open Go.Ab Go.RowKit
section
variable {P:Program} {w:World} {a:Act} {o:Oper} {B:Nat}
def QC(v:Value):List Value->Prop
 | [u]=>v=u
 | us=>v= .tuple us.toArray
def Q1(P:Program)(f:FuncId):Prop:= ∀(args:Array Value) (w:World),(callFunc f args).run P w= .ok (.enter f args) w
theorem bS9{P:Program}{f:FuncId}{fn:Func}(hf:P.funcs[f]? =U fn)(hn:(fn.name=="runtime.NumGoroutine")=BW)(hb:fn.body.isNone=BW):Q1 P f:=by
 intro args w;have h1:fn.name≠"runtime.NumGoroutine":=by simpa using hn
 have h2:fn.body≠Y:=by intro h;rw[h]at hb;cases hb
 simp[callFunc,hf,h1,h2]
theorem VK{cl:Call}{f:FuncId}(hop:o.op= .call cl)(hf:cl.callee= .value (.func f))(he:Q1 P f)(w:World):(execOp a.eval o).run P w= .ok (.enter f (cl.args.map a.eval)) w:=by
 have h1:=he (cl.args.map a.eval++ #[]) w;simp only[execOp,hop,resolve,hf,Act.eval,Sem.run_bind];simp[Deferred.ofValue,invoke];simpa using h1
def OU(tmps:Array Value):ResultVar->Sem Value
 | .tmp t=>pure (tmps.getD t undef)
 | .cell ad t=>do loadVar t (<- asAddr (tmps.getD ad undef))
theorem bRz(fn:Func)(tmps:Array Value):results fn tmps=(do let vs <- fn.results.mapM (OU tmps);pure (if h:vs.size=1 then vs[0] else .tuple vs)):=by
 have :(OU tmps)=(fun | .tmp t=>pure (tmps.getD t undef) | .cell a t=>do loadVar t (<- asAddr (tmps.getD a undef))):=by
  funext r;cases r<;>rfl
 rw[this];rfl
end
section
variable {X:Dn} {E:List Con} {f:F} {a:Act} {w:World} {o:Oper} {R:Type} {K:F->Option R} {r:R}
theorem Va(h:At X f a w)(hsf:f.subFree)(hd:kQ X.n o.dst=J)(hv:QB X.P f o.dst K o.op=U r):DF X E o a w f K r:=by
 unfold QB at hv;split at hv
 .rename_i t hop;split at hv
  .rename_i d i hdst hi;split at hv
   .rename_i z hz;split at hv
    .rename_i hp;exact bQp h hsf hop hdst hd hi hz hp.1 hp.2 hv
    .cases hv
   .cases hv
  .cases hv
 .rename_i t x hop;split at hv
  .rename_i d y hdst hx;split at hv
   .rename_i hp;exact bZw h hsf hop hdst hd hx hp.1 hp.2 hv
   .cases hv
  .cases hv
 .rename_i t p x hop;split at hv
  .rename_i hdst;unfold bLq at hv;split at hv
   .rename_i i off y inf hp hx hi;split at hv
    .rename_i cs hbx;split at hv
     .rename_i hc;exact bFw h hsf hop hdst hp hx hi hbx hc.1 hc.2.1 hc.2.2 hv
     .cases hv
    .cases hv
   .rename_i q k i off y inf hp hx hi;split at hv
    .rename_i e k' ty l deep hrow;split at hv
     .rename_i ids dp hmv;split at hv
      .rename_i hc;obtain⟨rfl,c1,c2,c3,c4⟩:=hc;obtain⟨_,rlen,_⟩:=id (show JA X.M _ _ w _ q e k ty l deep from (h.1.choose_spec.choose_spec.1).obj hrow);split at hv
       .rename_i hfull;split at hv
        .rename_i z hdat;rcases bE hv with ⟨hil,hv⟩ | ⟨_,hv⟩
         .have hil:i<l.length:=by simpa using hil
          refine aS2 (n:=0) h hsf hop hdst hp hx hi hrow hmv c1 c2 c3 c4 hil ⟨cells ty z,NL hdat,?_⟩ hv;rw[hfull.1];unfold sp;simp[dI]
         .cases hv
        .cases hv
       .obtain⟨el,hel,hv⟩:=bind_some hv;have hil:i<l.length:=(Cu.1 hel).1;have hele:l[i]=el:=(Cu.1 hel).2;split at hv
        .rename_i z hdat;refine aS2 (n:=0) h hsf hop hdst hp hx hi hrow hmv c1 c2 c3 c4 hil ?_ hv;obtain⟨ts,h1,h2⟩:=Qc (f:=f) (by rw[rlen];exact c2) hdat;exact⟨ts,h1,by rw[hele];exact h2⟩
        .cases hv
      .cases hv
     .cases hv
    .rename_i k' ty l hrow;split at hv
     .rename_i hc;obtain⟨rfl,c1,c2,c3⟩:=hc;obtain⟨el,hel,hv⟩:=bind_some hv;split at hv
      .rename_i tz z ty' z' hy hold;split at hv
       .rename_i hf;split at hv
        .rename_i el' hdat;exact bFx h hsf hop hdst hp hx hi hrow c1 c2 c3 hel hy hold hf.1 hf.2 hdat hv
        .cases hv
       .cases hv
      .cases hv
     .cases hv
    .cases hv
   .cases hv
  .cases hv
 .rename_i t x y hop;split at hv
  .rename_i d e k1 n k2 m hdst ht hx hy;split at hv
   .rename_i i ty hi hty;split at hv
    .rename_i z hz;split at hv
     .rename_i z0 hz0;split at hv
      .rename_i hc;rcases bE hv with ⟨hok,hv⟩ | ⟨_,hv⟩
       .exact bT7 h hsf hdst hd hop ht hx hy hi hz hz0 hc.1 hc.2.1 hc.2.2 hok hv
       .cases hv
      .cases hv
     .cases hv
    .cases hv
   .cases hv
  .cases hv
 .rename_i t len ps hop;split at hv
  .rename_i d e hdst ht;split at hv
   .rename_i i ty hi hty;split at hv
    .rename_i es ids dp hl;split at hv
     .rename_i hc;obtain⟨c1,c0,c2,c3,c4,c5,c6⟩:=hc;exact bXb h hsf hdst hd hop ht hi hl c1 c0 c2 c3 c4 c5 c6 hv
     .cases hv
    .cases hv
   .cases hv
  .cases hv
 .rename_i cl hop;split at hv
  .rename_i d s x t t' hdst hcal hargs htys;split at hv
   .rename_i htt;subst htt;refine bYl h hsf hdst hd ?_ hv;rw[hop];congr 1;obtain⟨cal,ar,ty⟩:=cl;simp only at hcal hargs htys;obtain⟨ar⟩:=ar;obtain⟨ty⟩:=ty;simp only at hargs htys;subst hcal hargs htys;rfl
   .cases hv
  .cases hv
 .cases hv
def DJ(vs:List Value):Act:={tmps:=vs.toArray,defers:=[]}
def cLr(P:Program)(fid:FuncId)(pre post:F):Prop:=
 Q1 P fid/\ ∀(w:World) (M src:Nat->Prop) (c:Cx) (ow:Nat->Option Nat) (vs:List Value),
  (∀b,w.heap.size<=b->M b)->(∀b,M b->src b)->aX M src c ow pre (DJ vs) w->vs.length=pre.fr.length->
  Calls P fid vs.toArray w λe w'=> ∃v us c' ow',e= .returned v/\QC v us/\qI M w w'/\aX M src c' ow' post (DJ us) w'/\us.length=post.fr.length/\ ∀o,pinned o=J->c'.loc o=c.loc o/\c'.rv o=c.rv o
def Con.Ok(P:Program)(c:Con):Prop:= ∀x y f g,c.sem x=U y->F0.inj c.pre x=U f->F0.inj c.post y=U g->cLr P c.f f g
theorem Qf:∀{ts:List Ty} {xs:List TV} {y:D4 ts},MT ts xs=U y->Q7 ts y=xs
 | [],[],y,h=>rfl
 | [],_::_,y,h=>by cases h
 | [t],[],y,h=>by cases h
 | [t],[x],y,h=>by
  obtain⟨e,he⟩:=gP h;obtain⟨tx,vx⟩:=x;subst e;subst he;rfl
 | [t],_::_::_,y,h=>by cases h
 | t::t'::ts,[],y,h=>by cases h
 | t::t'::ts,x::xs,y,h=>by
  simp only[MT]at h;split at h
  .rename_i z zs h1 h2;injection h with h;subst h;obtain⟨e,he⟩:=gP h1;obtain⟨tx,vx⟩:=x;subst e;subst he;show _::Q7 (t'::ts) zs=_;rw[Qf h2]
  .cases h
def Pp(f:F)(d x:C):Prop:= ∃(t:Ty) (y:den t),d= .v t y/\f.data t x=U y
theorem bG5{ct:CT}{x:C}{tvs:List TV}(h:Zh f ct x=U tvs)(rest:List TV):∃d,ct.inj (tvs++rest)=U (d,rest)/\Pp f d x:=by
 cases ct with
 | var t=>
  obtain⟨y,hy,rfl⟩:=CX.1 h;exact⟨.v t y,by show (iK t t y).map _=_;rw[lB];rfl,t,y,rfl,hy⟩
 | _=>cases h
theorem bGq:∀{cts:List CT} {cs:List C} {tvs:List TV},UA f cts cs=U tvs-> ∀rest,∃ds,Ht cts (tvs++rest)=U (ds,rest)/\bD (Pp f) ds cs
 | [],[],tvs,h,rest=>by injection h with h;subst h;exact⟨[],rfl,.nil⟩
 | [],_::_,tvs,h,rest=>by cases h
 | _::_,[],tvs,h,rest=>by cases h
 | ct::cts,x::xs,tvs,h,rest=>by
  simp only[UA]at h;split at h
  .rename_i a b h1 h2;injection h with h;subst h;obtain⟨ds,g1,g2⟩:=bGq h2 rest;obtain⟨d,g3,g4⟩:=bG5 h1 (b++rest);refine⟨d::ds,?_,.cons g4 g2⟩;rw[CY];simp[Ht,g3,g1]
  .cases h
def cK3(f:F):A->A->Prop
 | .one d,.one x=>Pp f d x
 | .agg ds,.agg xs=>bD (Pp f) ds xs
 | _,_=>False
inductive JJ (f:F):Nat->List (Nat×Nat×S)->List Operand->Prop
 | nil {i:Nat}:JJ f i [] []
 | cons {i:Nat} {d y:A} {x:Operand} {fr:List (Nat×Nat×S)} {xs:List Operand} (hx:f.get x=U (.val y)) (h:cK3 f d y) (hs:JJ f (i+1) fr xs):JJ f i ((i,0,.val d)::fr) (x::xs)
theorem bIl:∀{i:Nat} {hs:List (Nat×ST)} {xs:List Operand} {tvs:List TV},Tr f i hs xs=U tvs-> ∀rest,∃fr,vY F0 hs (tvs++rest)=U (fr,rest)/\JJ f i fr xs
 | i,[],[],tvs,h,rest=>by injection h with h;subst h;exact⟨[],rfl,.nil⟩
 | i,[],_::_,tvs,h,rest=>by cases h
 | i,_::_,[],tvs,h,rest=>by cases h
 | i,(j,st)::hs,x::xs,tvs,h,rest=>by
  simp only[Tr]at h;split at h
  .rename_i hij;subst hij;split at h
   .rename_i a b h1 h2;injection h with h;subst h;obtain⟨fr,g1,g2⟩:=bIl h2 rest;unfold cK7 at h1;split at h1
    .rename_i ct y hg;obtain⟨d,g3,g4⟩:=bG5 h1 (b++rest);refine⟨(i,0,.val (.one d))::fr,?_,.cons hg g4 g2⟩;rw[CY,vY,g3];simp only[g1];rfl
    .rename_i cts ys hg;obtain⟨ds,g3,g4⟩:=bGq h1 (b++rest);refine⟨(i,0,.val (.agg ds))::fr,?_,.cons hg g4 g2⟩;rw[CY,vY,g3];simp only[g1];rfl
    .cases h1
   .cases h
  .cases h
theorem cGq{M src:Nat->Prop}{c:Cx}{ow:Nat->Option Nat}(h:aX M src c ow f a w){t:Ty}{x:C}{y:den t}{v:Value}(hd:f.data t x=U y)(hv:aW c ow w (BY src c ow f.ob) v x)(hr:∀r,x≠ .row r)(hs:x.isSub=BW):∃G,Rep w v (fX t y) G/\ ∀b∈G,BY src c ow f.ob b:=by
 unfold F.data at hd;split at hd
 .obtain⟨rfl,rfl⟩:=gP hd;exact hv
 .split at hd
  .injection hd with hd;subst hd;have hv:v= .slice Y 0 0:=hv;subst hv;exact⟨[],.nil (C3 _),by simp⟩
  .cases hd
 .rename_i r;exact absurd rfl (hr r)
 .cases hs
 .cases hd
end
end Go.V
set_option linter.unusedVariables false
set_option linter.unusedSectionVars false
namespace Go.V
open Go.Ab Go.RowKit
section
variable {c c':Cx} {ow:Nat->Option Nat} {w:World} {ok:Nat->Prop} {v:Value}
theorem aW.agree{x:C}(h:aW c ow w ok v x)(k:∀o,x.names o=J->c'.loc o=c.loc o/\c'.rv o=c.rv o):aW c' ow w ok v x:=by
 cases x with
 | row r=>have :=(k r (by simp[C.names])).2;simp only[aW]at h ⊢;rw[this];exact h
 | ptr o off=>have :=(k o (by simp[C.names])).1;simp only[aW]at h ⊢;rw[this];exact h
 | rp r k' i off=>have :=(k r (by simp[C.names])).2;simp only[aW]at h ⊢;rw[this];exact h
 | sub r k' i off t x=>have :=(k r (by simp[C.names])).2;simp only[aW]at h ⊢;rw[this];exact h
 | ip r k' i off m j p=>have :=(k r (by simp[C.names])).2;simp only[aW]at h ⊢;rw[this];exact h
 | v _ _=>exact h
 | nil=>exact h
 | ep _ _ _=>exact h
 | clo g o=>have :=(k o (by simp[C.names])).1;simp only[aW]at h ⊢;rw[this];exact h
 | rc r k' lo hi=>have :=(k r (by simp[C.names])).2;simp only[aW]at h ⊢;rw[this];exact h
 | any=>exact h
theorem dT.agree{x:A}(h:dT c ow w ok v x)(k:∀o,x.names o=J->c'.loc o=c.loc o/\c'.rv o=c.rv o):dT c' ow w ok v x:=by
 cases x with
 | one t=>exact aW.agree h k
 | agg ts=>
  obtain⟨vs,hv,ha⟩:=h;exact⟨vs,hv,ha.mono λa b hb hr=>hr.agree λo ho=>k o (by simp only[A.names,UQ];exact⟨b,hb,ho⟩)⟩
theorem jL.agree{x:S}(h:jL c ow w ok v x)(k:∀o,x.names o=J->c'.loc o=c.loc o/\c'.rv o=c.rv o):jL c' ow w ok v x:=by
 cases x with
 | val x=>exact dT.agree h k
 | tup xs=>
  obtain⟨vs,hv,ha⟩:=h;exact⟨vs,hv,ha.mono λa b hb hr=>hr.agree λo ho=>k o (by simp only[S.names,UQ];exact⟨b,hb,ho⟩)⟩
 | un=>exact h
end
inductive O.sc:O->O->Prop
 | refl {x:O}:O.sc x x
 | box {cs' cs:List C} (h:bD C.le cs' cs):O.sc (.box cs') (.box cs)
theorem O.sc.le{x y:O}(h:O.sc x y):x.le y:=by
 cases h with
 | refl=>exact O.le_refl _
 | box h=>exact .box h
theorem C.le_trans{x y z:C}(h:x.le y)(k:y.le z):x.le z:=by
 rcases h with rfl | rfl
 .exact k
 .exact .inr rfl
theorem bD.le_trans:∀{xs ys zs:List C},bD C.le xs ys->bD C.le ys zs->bD C.le xs zs
 | [],_,_,.nil,.nil=> .nil
 | _::_,_,_,.cons h hs,.cons k ks=> .cons (C.le_trans h k) (bD.le_trans hs ks)
theorem O.sc.trans{x y z:O}(h:O.sc x y)(k:O.sc y z):O.sc x z:=by
 cases h with
 | refl=>exact k
 | box h=>
  cases k with
  | refl=>exact .box h
  | box k=>exact .box (h.le_trans k)
theorem aY5{o:Nat}:∀{as bs:List C},bD C.le as bs->bs.any (C.names o)=BW->as.any (C.names o)=BW
 | [],_,.nil,_=>rfl
 | _::_,_,.cons h hs,hb=>by
  simp only[List.any_cons,Bool.or_eq_false_iff]at hb ⊢;refine⟨?_,aY5 hs hb.2⟩;rcases h with rfl | rfl
  .exact hb.1
  .rfl
theorem O.sc.names{x y:O}(h:O.sc x y){o:Nat}(hy:y.names o=BW):x.names o=BW:=by
 cases h with
 | refl=>exact hy
 | box h=>exact aY5 h hy
theorem O.scrub_sc(d:Nat)(y:O):O.sc (y.scrub d) y:=by
 cases y with
 | box cs=>exact .box (bDz d cs)
 | row _ _ _ _ _=>exact .refl
 | win _ _ _=>exact .refl
section
variable {f:F} {d:Nat} {win:Bool}
theorem bKd:∀{es:List (Nat×Nat×O)} {f:F} {s n:Nat} {x:S},(s,n,x)∈(adopt d win f es).fr->(s,n,x)∈f.fr/\ ∀e∈es,x.names (cZ d+e.1)=BW
 | [],f,s,n,x,h=>⟨h,by simp⟩
 | e::es,f,s,n,x,h=>by
  obtain⟨h1,h2⟩:=bKd (es:=es) (f:=f.add (cZ d+e.1) (QG win e.2.2)) h;have h1':(s,n,x)∈(f.scrub (cZ d+e.1)).fr:=h1;refine⟨(C2.1 h1').1,λe' he'=> ?_⟩;rcases Cl.1 he' with rfl | he'
  .simpa using (C2.1 h1').2
  .exact h2 e' he'
theorem VU:∀{es:List (Nat×Nat×O)} {f:F} {o n:Nat} {x:O},(∀e∈es,∀cs,e.2.2≠ .box cs)->(o,n,x)∈(adopt d win f es).ob->
  (∃e∈es,o=cZ d+e.1/\x=QG win e.2.2)\/((∀e∈es,o≠cZ d+e.1)/\ ∃m y,(o,m,y)∈f.ob/\O.sc x y/\(∀e∈es,x.names (cZ d+e.1)=BW)/\(y.isSub=BW->x.isSub=BW))
 | [],f,o,n,x,_,h=> .inr ⟨by simp,n,x,h,.refl,by simp,id⟩
 | e::es,f,o,n,x,hr,h=>by
  rcases VU (es:=es) (f:=f.add (cZ d+e.1) (QG win e.2.2)) (λe' he'=>hr e' (C1 _ he')) h with ⟨e',he',h1,h2⟩ | ⟨h1,m,y,hy,h2,h3,h4⟩
  .exact .inl ⟨e',C1 _ he',h1,h2⟩
  .rcases Cl.1 hy with he | hy
   .injection he with e1 he;injection he with _ e2;subst e1 e2;have :x=QG win e.2.2:=by
     have hb:=hr e (CC ..);cases hx:e.2.2 with
     | box cs=>exact absurd hx (hb cs)
     | row _ _ _ _ _=>rw[hx]at h2;cases win<;>(cases h2;rfl)
     | win _ _ _=>rw[hx]at h2;cases h2;rfl
    exact .inl ⟨e,CC ..,rfl,this⟩
   .obtain⟨hne,m',z,hz,rfl⟩:=fW hy;refine .inr ⟨λe' he'=> ?_,m',z,hz,h2.trans (O.scrub_sc _ z),λe' he'=> ?_,λhz'=>h4 (O.scrub_isSub hz')⟩
    .rcases Cl.1 he' with rfl | he'
     .exact hne
     .exact h1 e' he'
    .rcases Cl.1 he' with rfl | he'
     .exact h2.names (O.scrub_names z _)
     .exact h3 e' he'
def F.uniq(f:F):Prop:= ∀o n x m y,(o,n,x)∈f.ob->(o,m,y)∈f.ob->x=y
theorem bYx{f:F}(h:f.uniq)(d:Nat)(x:O):(f.add d x).uniq:=by
 intro o n y m z hy hz;rcases Cl.1 hy with he | hy1
 .injection he with e1 e2;injection e2 with _ e2;rcases Cl.1 hz with he' | hz1
  .injection he' with e3 e4;injection e4 with _ e4;rw[e2,e4]
  .exact absurd e1 (fW hz1).1
 .rcases Cl.1 hz with he' | hz1
  .injection he' with e3 e4;exact absurd e3 (fW hy1).1
  .obtain⟨_,_,y',hy',rfl⟩:=fW hy1;obtain⟨_,_,z',hz',rfl⟩:=fW hz1;rw[h _ _ _ _ _ hy' hz']
theorem bAt:∀{es:List (Nat×Nat×O)} {f:F},f.uniq->(adopt d win f es).uniq
 | [],f,h=>h
 | e::es,f,h=>bAt (es:=es) (bYx h _ _)
theorem Ce.adopt:∀(es:List (Nat×Nat×O)) (f:F),Ce f (adopt d win f es)
 | [],f=> .refl f
 | e::es,f=>(Ce.add f _ _).trans (Ce.adopt es _)
end
section
variable {M src:Nat->Prop} {c:Cx} {ow:Nat->Option Nat} {f:F} {a:Act} {w:World}
theorem yT.lt{ok:Nat->Prop}{o:Nat}{x:O}(h:yT M c ow w ok o x)(hx:∀k t l,x≠ .win k t l){b:Nat}(hb:x.blk c ow o b):b<w.heap.size:=by
 cases x with
 | box cs=>have hb:c.loc o=b:=hb;subst hb;exact Hg.lt h
 | row e k t l deep=>obtain⟨_,_,_,xs,G,r3,_⟩:=h;exact (NN r3 hb).1
 | win k t l=>exact absurd rfl (hx k t l)
theorem aX.trim(h:aX M src c ow f a w):aX M src c (λb=>if b<w.heap.size then ow b else Y) f a w:=by
 have hown:∀b,b<w.heap.size->(if b<w.heap.size then ow b else Y)=ow b:=λb hb=>zT hb
 have hlive:∀b,live c (λb=>if b<w.heap.size then ow b else Y) f.ob b->live c ow f.ob b:=by
  rintro b ⟨o,n,x,hm,hx⟩
  refine⟨o,n,x,hm,?_⟩;cases x with
  | box _=>exact hx
  | row _ _ _ _ _=>exact hx
  | win _ _ _=>
   have hx:(if b<w.heap.size then ow b else Y)=U o:=hx;show ow b=U o;split at hx
   .exact hx
   .cases hx
 have hok:∀b,b<w.heap.size->BY src c ow f.ob b->BY src c (λb=>if b<w.heap.size then ow b else Y) f.ob b:=λb _ hb=>⟨hb.1,λhl=>hb.2 (hlive b hl)⟩
 have hrel:∀v (x:C),aW c ow w (BY src c ow f.ob) v x->aW c (λb=>if b<w.heap.size then ow b else Y) w (BY src c (λb=>if b<w.heap.size then ow b else Y) f.ob) v x:=by
  intro v x hx;cases x with
  | sub r k i off t y=>
   obtain⟨g,b0,n,cap,h1,h2,G,h3,h4⟩:=hx;exact⟨g,b0,n,cap,h1,h2,G,h3,λb hb=>(hown b (h3.lt b hb)).trans (h4 b hb)⟩
  | ip _ _ _ _ _ _ _=>exact hx
  | v t y=>exact aW.good (ow:=ow) hx hok
  | ep t y off=>exact aW.good (ow:=ow) hx hok
  | nil=>exact hx
  | row _=>exact hx
  | ptr _ _=>exact hx
  | rp _ _ _ _=>exact hx
  | clo _ _=>exact hx
  | rc _ _ _ _=>exact hx
  | any=>exact hx
 have hrelA:∀v (x:A),dT c ow w (BY src c ow f.ob) v x->dT c (λb=>if b<w.heap.size then ow b else Y) w (BY src c (λb=>if b<w.heap.size then ow b else Y) f.ob) v x:=by
  intro v x hx;cases x with
  | one y=>exact hrel v y hx
  | agg ys=>obtain⟨vs,rfl,ha⟩:=hx;exact⟨vs,rfl,ha.mono λu y _ hy=>hrel u y hy⟩
 refine⟨h.defers,λs n x hm=> ?_,λo n x hm=> ?_,h.uniq,h.rvs⟩
 .obtain⟨v,hv,h1⟩:=h.fr s n x hm;refine⟨v,hv,?_⟩;cases x with
  | val y=>exact hrelA v y h1
  | tup ys=>obtain⟨vs,rfl,ha⟩:=h1;exact⟨vs,rfl,ha.mono λu y _ hy=>hrelA u y hy⟩
  | un=>exact h1
 .have ho:=h.ob o n x hm;cases x with
  | box cs=>
   have hlt:=Hg.lt ho;obtain⟨b1,b2,vs,ty,b3,b4⟩:=ho;exact⟨b1,(hown _ hlt).trans b2,vs,ty,b3,b4.mono λu y _ hy=>hrel u y hy⟩
  | row e k t l deep=>
   obtain⟨r0,r1,r2,xs,G,r3,r4,r5,r6⟩:=ho;exact⟨r0,r1,λg hg=>⟨(r2 g hg).1,(hown _ (NN r3 hg).1).trans (r2 g hg).2⟩,xs,G,r3,r4,λb hb=>hok b (r4.lt b hb) (r5 b hb),λhd=>⟨(r6 hd).1,λb hb=>by
    obtain⟨q1,q2,q3,q4⟩:=(r6 hd).2 b hb;exact⟨q1,(hown _ (r4.lt b hb)).trans q2,q3,q4⟩⟩⟩
  | win k t l=>
   obtain⟨r0,r1,G,r2,r3,r4⟩:=ho;exact⟨r0,r1,G,r2,r3,λb hb=>⟨(r4 b hb).1,(hown _ (r2.lt b hb)).trans (r4 b hb).2.1,(r4 b hb).2.2⟩⟩
end
end Go.V
set_option linter.unusedVariables false
set_option linter.unusedSectionVars false
namespace Go.V
open Go.Ab Go.RowKit
section
variable {M src:Nat->Prop} {c:Cx} {ow:Nat->Option Nat} {f:F} {a:Act} {w:World}
theorem aZ0{sl win:Bool}{d:Nat}{p:F}(h:Ts sl win d p=J):p.fr.map (·.1)=Es p.fr.length/\(p.ob.map (·.1)).Nodup/\(∀e∈p.ob,UU d e=J)/\(∀e∈p.fr,DG sl (p.ob.map (·.1)) e.2.2=J)/\ ¬ (sl=J/\win=J):=by
 simp only[Ts,Ck,beq_iff_eq,Dg,Eu]at h;obtain⟨h1,h2,h3,h4,h5⟩:=h;exact⟨h1,kP h2,h3,h4,λ⟨e1,e2⟩=>by rw[e1,e2]at h5;cases h5⟩
theorem bMi{d:Nat}{e:Nat×Nat×O}(h:UU d e=J):(∃x k,∃(t:Ty) (l:List (den t)),e.2.2= .row x k t l J)/\pinned (cZ d+e.1)=BW:=by
 unfold UU at h;split at h
 .rename_i x k t l he;exact⟨⟨x,k,t,l,he⟩,by simpa using h⟩
 .cases h
theorem bN9(h:aX M src c ow f a w)(hsf:f.subFree)(hown0:∀b,w.heap.size<=b->ow b=Y){M' src':Nat->Prop}{c':Cx}{ow':Nat->Option Nat}{p:F}{a':Act}{w':World}{d:Nat}{sl win:Bool}(hp:aX M' src' c' ow' p a' w')(hM':∀b,M' b->w.heap.size<=b/\M b/\src b)(hsz:w.heap.size<=w'.heap.size)(hblk:∀b,b<w.heap.size->w'.heap[b]? =w.heap[b]?)
  (hpost:Ts sl win d p=J) (hsl:sl=J-> ∀b,src' b->(w.heap.size<=b/\src b)\/(b<w.heap.size/\BY src c ow f.ob b)):
  ∃c'' ow'',aX M src c'' ow'' (adopt d win f p.ob) a w'/\(∀o,pinned o=J->c''.loc o=c.loc o/\c''.rv o=c.rv o)/\ ∀v x,NA sl (p.ob.map (·.1)) x=J->dT c' ow' w' (BY src' c' ow' p.ob) v x->dT c'' ow'' w' (BY src c'' ow'' (adopt d win f p.ob).ob) v (ZJ (cZ d) x):=by
 classical
 obtain⟨hp1,hp2,hp3,hp4,hp5⟩:=aZ0 hpost;have hrow:∀e∈p.ob,∃x k,∃(t:Ty) (l:List (den t)),e.2.2= .row x k t l J:=λe he=>(bMi (hp3 e he)).1
 have hnbox:∀e∈p.ob,∀cs,e.2.2≠ .box cs:=λe he cs hc=>by obtain⟨x,k,t,l,h1⟩:=hrow e he;rw[h1]at hc;cases hc
 let isN:Nat->Prop:=λo=> ∃e∈p.ob,o=cZ d+e.1
 let c'':Cx:=⟨λo=>if isN o then c'.loc (o - cZ d) else c.loc o,λo=>if isN o then c'.rv (o - cZ d) else c.rv o⟩
 let ow'':Nat->Option Nat:=λb=>if b<w.heap.size then (if ∃o,isN o/\ow b=U o then Y else ow b) else if ∃e∈p.ob,ow' b=U e.1 then (ow' b).map (cZ d+ ·) else Y
 have hcN:∀e∈p.ob,c''.rv (cZ d+e.1)=c'.rv e.1:=λe he=>by
  have :isN (cZ d+e.1):=⟨e,he,rfl⟩
  show (if isN (cZ d+e.1) then c'.rv (cZ d+e.1 - cZ d) else _)=_;rw[zT this];congr 1;omega
 have hcO:∀o,¬ isN o->c''.loc o=c.loc o/\c''.rv o=c.rv o:=λo ho=>⟨zS ho,zS ho⟩
 have howO:∀b o,b<w.heap.size-> ¬ isN o->ow b=U o->ow'' b=U o:=λb o hb ho h1=>by
  show (if b<w.heap.size then _ else _)=_;rw[zT hb,zS]
  .exact h1
  .rintro⟨o',ho',h2⟩
   rw[h1]at h2;injection h2 with h2;subst h2;exact ho ho'
 have howN:∀b,w.heap.size<=b-> ∀e∈p.ob,ow' b=U e.1->ow'' b=U (cZ d+e.1):=λb hb e he h1=>by
  show (if b<w.heap.size then _ else _)=_;rw[zS (by omega),zT ⟨e,he,h1⟩,h1];rfl
 have howI:∀b o,ow'' b=U o->(b<w.heap.size/\ow b=U o/\ ¬ isN o)\/(w.heap.size<=b/\ ∃e∈p.ob,o=cZ d+e.1/\ow' b=U e.1):=by
  intro b o h1;have h1:(if b<w.heap.size then (if ∃o,isN o/\ow b=U o then Y else ow b) else if ∃e∈p.ob,ow' b=U e.1 then (ow' b).map (cZ d+ ·) else Y)=U o:=h1;split at h1
  .rename_i hb;split at h1
   .cases h1
   .rename_i hx;exact .inl ⟨hb,h1,λho=>hx ⟨o,ho,h1⟩⟩
  .rename_i hb;split at h1
   .rename_i hx;obtain⟨e,he,h2⟩:=hx;rw[h2]at h1;injection h1 with h1;exact .inr ⟨by omega,e,he,h1.symm,h2⟩
   .cases h1
 have hold:∀o,(∀e∈p.ob,o≠cZ d+e.1)-> ¬ isN o:=λo ho ⟨e,he,h1⟩=>ho e he h1
 have hlv:∀b,live c'' ow'' (adopt d win f p.ob).ob b->(b<w.heap.size/\live c ow f.ob b)\/(w.heap.size<=b/\(live c' ow' p.ob b\/win=J)):=by
  rintro b ⟨o,n,x,hm,hx⟩
  rcases VU hnbox hm with ⟨e,he,rfl,rfl⟩ | ⟨hne,m,y,hy,hsc,_,_⟩
  .obtain⟨x,k,t,l,hxe⟩:=hrow e he;rw[hxe]at hx;cases win with
   | true=>
    have hx:ow'' b=U (cZ d+e.1):=hx;rcases howI b _ hx with ⟨h1,h2,h3⟩ | ⟨h1,_⟩
    .exact absurd ⟨e,he,rfl⟩ h3
    .exact .inr ⟨h1,.inr rfl⟩
   | false=>
    have hx:(c''.rv (cZ d+e.1)).ownBlock=U b:=hx;rw[hcN e he]at hx;have hob:=hp.ob e.1 e.2.1 e.2.2 he;rw[hxe]at hob;have hM:=(hob.2.2.1 b hx).1;exact .inr ⟨(hM' b hM).1,.inl ⟨e.1,e.2.1,e.2.2,he,by rw[hxe];exact hx⟩⟩
  .have hnN:=hold o hne;have hob:=h.ob o m y hy;have hyb:=hsc.le.blk hx;cases y with
   | box cs=>
    have hyb:c''.loc o=b:=hyb;rw[(hcO o hnN).1]at hyb;exact .inl ⟨hob.lt (by simp) hyb,⟨o,m,_,hy,hyb⟩⟩
   | row e k t l deep=>
    have hyb:(c''.rv o).ownBlock=U b:=hyb;rw[(hcO o hnN).2]at hyb;exact .inl ⟨hob.lt (by simp) hyb,⟨o,m,_,hy,hyb⟩⟩
   | win k t l=>
    have hyb:ow'' b=U o:=hyb;rcases howI b o hyb with ⟨h1,h2,_⟩ | ⟨_,e,he,h3,_⟩
    .exact .inl ⟨h1,⟨o,m,_,hy,h2⟩⟩
    .exact absurd h3 (hne e he)
 have hokO:∀b,b<w.heap.size->BY src c ow f.ob b->BY src c'' ow'' (adopt d win f p.ob).ob b:=λb hlt hok=>⟨hok.1,λhl=>by
  rcases hlv b hl with ⟨_,h1⟩ | ⟨h1,_⟩
  .exact hok.2 h1
  .omega⟩
 have kp:Ix w w' (BY src c ow f.ob) (BY src c'' ow'' (adopt d win f p.ob).ob):=⟨hsz,λb hlt _=>hblk b hlt,hokO⟩
 refine⟨c'',ow'',⟨h.defers,λs n x hm=> ?_,λo n x hm=> ?_,bAt h.uniq,λr=> ?_⟩,λo ho=> ?_,λv x hx hr=> ?_⟩
 .obtain⟨h1,h2⟩:=bKd hm;obtain⟨v,hv,h3⟩:=h.fr s n x h1;refine⟨v,hv,(h3.agree λo ho=>hcO o λ⟨e,he,h4⟩=> ?_).keep (hsf.1 s n x h1) kp⟩;have :=h2 e he;rw[<- h4,ho]at this;cases this
 .rcases VU hnbox hm with ⟨e,he,rfl,rfl⟩ | ⟨hne,m,y,hy,hsc,hnm,hsub⟩
  .obtain⟨x,k,t,l,hxe⟩:=hrow e he;have hob:=hp.ob e.1 e.2.1 e.2.2 he;rw[hxe]at hob ⊢;obtain⟨r0,r1,r2,xs,G,r3,r4,r5,r6⟩:=hob;obtain⟨n1,n2⟩:=r6 rfl;cases win with
   | false=>
    refine⟨r0,r1,λg hg=> ?_,xs,G,by rw[hcN e he];exact r3,r4,λb hb=> ?_,λ_=>⟨n1,λb hb=> ?_⟩⟩
    .rw[hcN e he]at hg;obtain⟨q1,q2⟩:=r2 g hg;exact⟨(hM' g q1).2.1,howN g (hM' g q1).1 e he q2⟩
    .have q1:=(n2 b hb).1;refine⟨(hM' b q1).2.2,λhl=> ?_⟩;rcases hlv b hl with ⟨h1,_⟩ | ⟨_,h2 | h2⟩
     .have :=(hM' b q1).1;omega
     .exact (r5 b hb).2 h2
     .cases h2
    .obtain⟨q1,q2,q3,q4⟩:=n2 b hb;exact⟨(hM' b q1).2.1,howN b (hM' b q1).1 e he q2,by rw[hcN e he];exact q3,q4⟩
   | true=>
    obtain⟨G',g1,g2,g3⟩:=RW hp (aY3 hp (show (e.1,e.2.1,O.row x k t l J)∈p.ob by rw[<- hxe];exact he));obtain⟨g4,g5⟩:=g3 rfl;refine⟨r0,r1,G',by rw[hcN e he];exact g1,g4,λb hb=> ?_⟩;obtain⟨q1,q2,r',hr',q3⟩:=g5 b hb;rw[Cy.1 hr']at q3;exact⟨(hM' b q1).2.1,howN b (hM' b q1).1 e he q3,q2⟩
  .have hnN:=hold o hne;have h1:=(h.ob o m y hy).le h.rvs hsc.le;have hs1:=hsub (hsf.2 o m y hy);have h2:yT M c'' ow w (BY src c ow f.ob) o x:=by
    obtain⟨k1,k2⟩:=hcO o hnN;cases x with
    | box cs=>
     obtain⟨b1,b2,vs,ty,b3,b4⟩:=h1;refine⟨by rw[k1];exact b1,by rw[k1];exact b2,vs,ty,by rw[k1];exact b3,b4.mono λu z hz hr=>hr.agree λq hq=>hcO q λ⟨e,he,h4⟩=> ?_⟩;have :=hnm e he;simp only[O.names,Da]at this;exact this z hz (by rw[<- h4];exact hq)
    | row e k t l deep=>
     obtain⟨r0,r1,r2,xs,G,r3,r4,r5,r6⟩:=h1;exact⟨r0,r1,by rw[k2];exact r2,xs,G,by rw[k2];exact r3,r4,r5,by rw[k2];exact r6⟩
    | win k t l=>
     obtain⟨r0,r1,G,r2,r3,r4⟩:=h1;exact⟨r0,r1,G,by rw[k2];exact r2,r3,r4⟩
   exact h2.keep hs1 kp (λb hlt _ _=>hblk b hlt) (λb hlt h3=>howO b o hlt hnN h3)
 .show ∃ad n k,(if isN r then c'.rv (r - cZ d) else c.rv r)= .slice ad n k;split
  .exact hp.rvs _
  .exact h.rvs r
 .refine hcO o λ⟨e,he,h1⟩=> ?_
  have :=(bMi (hp3 e he)).2;rw[<- h1,ho]at this;cases this
 .have hC:∀(v:Value) (x:C),Kl sl (p.ob.map (·.1)) x=J->aW c' ow' w' (BY src' c' ow' p.ob) v x->aW c'' ow'' w' (BY src c'' ow'' (adopt d win f p.ob).ob) v (UV (cZ d) x):=by
   intro v x hx hr;cases x with
   | v t y=>
    obtain⟨G,g1,g2⟩:=hr;simp only[Kl,Fs]at hx;cases hs:sl with
    | false=>
     rw[hs]at hx;have hfl:flat t=J:=by simpa using hx
     obtain⟨rfl,_⟩:=Sg g1 hfl;exact⟨[],g1,by simp⟩
    | true=>
     refine⟨G,g1,λb hb=> ?_⟩;obtain⟨q1,q2⟩:=g2 b hb;have hwin:win=BW:=by
      cases hw:win with
      | false=>rfl
      | true=>exact absurd ⟨hs,hw⟩ hp5
     rcases hsl hs b q1 with ⟨h1,h2⟩ | ⟨h1,h2⟩
     .refine⟨h2,λhl=> ?_⟩;rcases hlv b hl with ⟨h3,_⟩ | ⟨_,h4 | h4⟩
      .omega
      .exact q2 h4
      .rw[hwin]at h4;cases h4
     .exact hokO b h1 h2
   | row r=>
    simp only[Kl]at hx;have hx:r∈p.ob.map (·.1):=by simpa using hx
    obtain⟨e,he,rfl⟩:=Ch.1 hx;have hr:v=c'.rv e.1:=hr;show v=c''.rv (cZ d+e.1);rw[hcN e he];exact hr
   | _=>cases hx
  cases x with
  | one y=>exact hC v y hx hr
  | agg ys=>
   obtain⟨vs,rfl,ha⟩:=hr;simp only[NA,Dg]at hx;refine⟨vs,rfl,?_⟩;have :∀{us:List Value} {zs:List C},bD (aW c' ow' w' (BY src' c' ow' p.ob)) us zs->(∀z∈zs,Kl sl (p.ob.map (·.1)) z=J)->bD (aW c'' ow'' w' (BY src c'' ow'' (adopt d win f p.ob).ob)) us (zs.map (UV (cZ d))):=by
    intro us zs hu
    induction hu with
    | nil=>intro _;exact .nil
    | cons h1 h2 ih=>intro hz;exact .cons (hC _ _ (hz _ (CC ..)) h1) (ih λz hz'=>hz z (C1 _ hz'))
   exact this ha hx
theorem aWg{M' src':Nat->Prop}{c':Cx}{ow':Nat->Option Nat}{p:F}{us:List Value}{sl:Bool}{ids:List Nat}(hp:aX M' src' c' ow' p (DJ us) w)(hlen:us.length=p.fr.length)(h1:p.fr.map (·.1)=Es p.fr.length)(h2:∀e∈p.fr,DG sl ids e.2.2=J):bD (dT c' ow' w (BY src' c' ow' p.ob)) us (Ey p.fr)/\ ∀x∈Ey p.fr,NA sl ids x=J:=by
 have key:∀(es:List (Nat×Nat×S)) (k:Nat),(∀e∈es,e∈p.fr)->es.map (·.1)=List.range' k es.length->(∀e∈es,DG sl ids e.2.2=J)->k+es.length=us.length->bD (dT c' ow' w (BY src' c' ow' p.ob)) (us.drop k) (Ey es)/\ ∀x∈Ey es,NA sl ids x=J:=by
  intro es
  induction es with
  | nil=>
   intro k _ _ _ hk;have :us.drop k=[]:=Mm (by simp at hk;omega);rw[this];exact⟨.nil,by simp[Ey]⟩
  | cons e es ih=>
   intro k hm hr ho hk;obtain⟨s,n,x⟩:=e;simp only[CA,C6,List.range'_succ,GH.injEq]at hr;obtain⟨rfl,hr⟩:=hr;have hox:=ho (s,n,x) (CC ..);cases x with
   | val y=>
    obtain⟨i1,i2⟩:=ih (s+1) (λe he=>hm e (C1 _ he)) hr (λe he=>ho e (C1 _ he)) (by simp at hk;omega);obtain⟨v,hv,hrel⟩:=hp.fr s n _ (hm _ (CC ..));have hv':us[s]? =U v:=by simpa [DJ] using hv
    have hlt:s<us.length:=(Cu.1 hv').1;rw[cRo hlt];have he:us[s]=v:=(Cu.1 hv').2;rw[he];refine⟨.cons hrel i1,λz hz=> ?_⟩;rcases Cl.1 hz with rfl | hz
    .exact hox
    .exact i2 z hz
   | tup _=>cases hox
   | un=>cases hox
 have :=key p.fr 0 (λe he=>he) (by rw[h1,List.range_eq_range']) h2 (by omega);simpa using this
end
section
variable {X:Dn} {E:List Con} {f:F} {a:Act} {w:World} {o:Oper} {R:Type} {K:F->Option R} {r:R}
theorem Wy{c:Cx}{ow:Nat->Option Nat}{ok:Nat->Prop}{v:Value}{us:List Value}{xs:List A}(hv:QC v us)(h:bD (dT c ow w ok) us xs):jL c ow w ok v (Uk xs):=by
 cases h with
 | nil=>exact⟨[],hv,.nil⟩
 | cons h1 h2=>
  cases h2 with
  | nil=>have hv:v=_:=hv;subst hv;exact h1
  | cons h2 h3=>exact⟨_,hv,.cons h1 (.cons h2 h3)⟩
end
end Go.V
set_option linter.unusedVariables false
set_option linter.unusedSectionVars false
namespace Go.V
open Go.Ab Go.RowKit
theorem bZs{w:World}{V:Value}{es:List (List T)}{F:List Nat}(h:Rep w V (.sl es) F){k i off:Nat}{el:List T}{τ:T}(hk:∀e∈es,e.length=k)(hi:es[i]? =U el)(ho:el[off]? =U τ){g b0 n cap:Nat}(hV:V= .slice (U ⟨g,b0,Y⟩) n cap){v:Value}(hv:w.cell? ⟨g,b0+(i * k+off),Y⟩=U v):
  ∃F1 G F3,F=g::(F1++(G++F3))/\Rep w v τ G/\ ∀(w':World) (τ':T) (G':List Nat),Rep w' v τ' G'->(∀b∈g::(F1++F3),w'.heap[b]? =w.heap[b]?)->Rep w' V (.sl (es.set i (sp el off [τ']))) (g::(F1++(G'++F3))):=by
 subst hV;cases h with
 | nil hc=>simp at hi
 | @cons b off' n' cap' k' es xs F' hnn hp0 hk0 hk' hc hm hxl hcell hr=>
  have hin:i<es.length:=(Cu.1 hi).1;have hkk:k'=k:=by rw[<- hk' el (Cm hi),hk el (Cm hi)]
  subst hkk;have hel:el.length=k':=hk el (Cm hi);have hok:off<k':=by rw[<- hel];exact (Cu.1 ho).1
  have hik:i * k'+k'<=es.length * k':=by rw[<- CZ];exact DA _ hin
  have hlt:i * k'+off<xs.length:=by rw[hxl,<- hnn];omega
  obtain⟨F1,F2,F3,a1,a2,a3,a4⟩:=hr.parts (i * k'+off) 1;have hmid:(es.flatten.drop (i * k'+off)).take 1=[τ]:=by
   have hfg:=rU hk hi;have :(es.flatten)[i * k'+off]? =U τ:=by
    have h5:((es.flatten.drop (i * k')).take k')[off]? =U τ:=by rw[hfg];exact ho
    rw[Ft,zT hok,Ex]at h5;exact h5
   rw[PB,PC,this];rfl
  have hxv:xs[i * k'+off]=v:=by
   have :=hcell (i * k'+off) _ (Cs hlt);rw[hv]at this;injection this with this;exact this.symm
  have hxm:(xs.drop (i * k'+off)).take 1=[v]:=by
   rw[PB,PC,Cs hlt,hxv];rfl
  rw[hmid,hxm]at a2;cases a2 with
  | @cons _ _ G _ _ _ p1 p2=>
   cases p2;refine⟨F1,G,F3,by rw[a4];simp,p1,λw' τ' G' hr' hb=> ?_⟩;have hrep:RepL w' xs (sp es.flatten (i * k'+off) [τ']) (F1++(G'++F3)):=by
    have q1:=a1.frame (w':=w') λb hb'=>hb b (by simp[hb'])
    have q3:=a3.frame (w':=w') λb hb'=>hb b (by simp[hb'])
    have :=(q1.append (RepL.cons hr' RepL.nil)).append q3;have hxs:xs.take (i * k'+off)++[v]++xs.drop (i * k'+off+1)=xs:=by
     rw[<- hxv,CY,R2,List.getElem_cons_drop,FW]
    rw[hxs]at this;simpa [sp] using this
   refine .cons (k:=k') (by simpa using hnn) hp0 hk0 (λe he=> ?_) hc hm hxl (λj u hu=> ?_) ?_
   .rcases List.mem_or_eq_of_mem_set he with he | rfl
    .exact hk e he
    .rw[IM (by simp;omega)];exact hel
   .exact (World.cell?_of_block (hb g (by simp))).trans (hcell j u hu)
   .rw[NJ hk hin (by rw[IM (by simp;omega)];exact hel),QV (rU hk hi).symm (by rw[sY hk];exact hik) (by simp;omega)];exact hrep
section
variable {M src:Nat->Prop} {c:Cx} {ow:Nat->Option Nat} {f:F} {a:Act} {w:World}
inductive Py (f:F):Nat->Ty->C->CL->Prop
 | whole {r k:Nat} {t:Ty} {l:List (den t)} (h:f.obj r=U (.win k t l)):Py f k t (.row r) (.whole r k t l)
 | part {r k k1 i off:Nat} {t t0 T0:Ty} {x0:List (den t0)} {L:List (den T0)} {el:den T0} {l:List (den t)} (h:f.obj r=U (.win k1 T0 L)) (hi:L[i]? =U el) (ho:(split T0 el)[off]? =U (.v (.sl t) l)) (hk:G4 t=k):Py f k t (.sub r k1 i off t0 x0) (.part r k1 i off T0 L el t l)
inductive Rb (f:F):List (Nat×OT)->List (Nat×C)->List CL->Prop
 | nil:Rb f [] [] []
 | cons {p k:Nat} {t:Ty} {y:C} {x:CL} {hs:List (Nat×OT)} {cs:List (Nat×C)} {xs:List CL} (h:Py f k t y x) (hs':Rb f hs cs xs):Rb f ((p,.win k t)::hs) ((p,y)::cs) (x::xs)
theorem bQ4{R:Type}{k:Nat}{t:Ty}{K:CL->Option R}{y:C}{r:R}(h:Yg f k t K y=U r):∃x,Py f k t y x/\K x=U r:=by
 unfold Yg at h;split at h
 .split at h
  .rename_i hob;split at h
   .rename_i hc;obtain⟨rfl,rfl⟩:=hc;exact⟨_,.whole hob,h⟩
   .cases h
  .cases h
 .split at h
  .rename_i hob;split at h
   .rename_i hk;subst hk;obtain⟨el,hel,h'⟩:=bind_some h;split at h'
    .rename_i t' l hsp;split at h'
     .rename_i hc;obtain⟨rfl,hk⟩:=hc;exact⟨_,.part hob hel hsp hk,h'⟩
     .cases h'
    .cases h'
   .cases h
  .cases h
 .cases h
theorem aWh{R:Type}:∀{hs:List (Nat×OT)} {cs:List (Nat×C)} {K:List CL->Option R} {r:R},Lt f hs cs K=U r-> ∃xs,Rb f hs cs xs/\K xs=U r
 | [],[],K,r,h=>⟨[],.nil,h⟩
 | [],_::_,K,r,h=>by cases h
 | (p,.win k t)::hs,(q,y)::cs,K,r,h=>by
  simp only[Lt]at h;split at h
  .rename_i hpq;subst hpq;obtain⟨x,h1,h2⟩:=bQ4 h;obtain⟨xs,h3,h4⟩:=aWh h2;exact⟨x::xs,.cons h1 h3,h4⟩
  .cases h
 | (p,.keep)::_,_,K,r,h=>by simp[Lt]at h
 | (p,.box _)::_,_,K,r,h=>by simp[Lt]at h
 | (p,.row _ _ _ _)::_,_,K,r,h=>by simp[Lt]at h
 | (p,.win _ _)::_,[],K,r,h=>by simp[Lt]at h
theorem VA:∀t:Ty,0<tyLen t
 | .pair a b=>by have :=VA a;simp only[tyLen];omega
 | .int _=>Nat.zero_lt_one
 | .bool=>Nat.zero_lt_one
 | .str=>Nat.zero_lt_one
 | .sl _=>Nat.zero_lt_one
theorem Oc:∀t:Ty,G4 t=tyLen t
 | .pair a b=>by simp[G4,tyLen,Oc a,Oc b]
 | .int _=>rfl
 | .bool=>rfl
 | .str=>rfl
 | .sl _=>rfl
structure Yx (M:Nat->Prop) (c:Cx) (ow:Nat->Option Nat) (f:F) (w:World) (k:Nat) (t:Ty) (x:CL) (v:Value) (G:List Nat):Prop where
 kt:0<k/\tyLen t=k
 tv:∃l,x.tv=⟨.sl t,l⟩/\Rep w v (fX (.sl t) l) G
 nodup:G.Nodup
 own:∀b∈G,M b/\ow b=U x.root/\DN w b
 here:∃k T L,f.obj x.root=U (.win k T L)
 back:∀(w':World) (G':List Nat) (k':Nat) (t':Ty) (l':List (den t')) (f1 g:F),Rep w' v (fX (.sl t') l') G'->G'.Nodup->x.upd f1 (.win k' t' l')=U g->(∀b,b<w.heap.size->ow b=U x.root->b∉G->w'.heap[b]? =w.heap[b]?)->(∀b∈G',b<w.heap.size->ow b=U x.root->b∈G)->
  ∃k T L Gr,g=f1.setOb x.root (.win k T L)/\0<k/\tyLen T=k/\Rep w' (c.rv x.root) (fX (.sl T) L) Gr/\Gr.Nodup/\ ∀b∈Gr,(b<w.heap.size/\ow b=U x.root/\b∉G/\M b/\DN w b)\/b∈G'
theorem cGm{α:Type}{l:List α}{i:Nat}{x:α}(h:l[i]? =U x):i<l.length:=(Cu.1 h).1
theorem cJu(h:aX M src c ow f a w){k:Nat}{t:Ty}{y:C}{x:CL}(hx:Py f k t y x){v:Value}(hv:aW c ow w (BY src c ow f.ob) v y):∃G,Yx M c ow f w k t x v G:=by
 cases hx with
 | @whole r k t l hob=>
  have hv:v=c.rv r:=hv;subst hv;obtain⟨h0,h1,G,h2,h3,h4⟩:=(h.obj hob:JI M c ow w r k t l)
  refine⟨G,⟨h0,h1⟩,⟨l,rfl,h2⟩,h3,h4,⟨_,_,_,hob⟩,λw' G' k' t' l' f1 g hr hn hu hb hG=> ?_⟩;simp only[CL.upd]at hu;split at hu
  .obtain⟨z,hz,rfl⟩:=CX.1 hu;obtain⟨e,hz⟩:=gP hz;injection e with e;subst e;have hz:l'=z:=hz;subst hz;exact⟨k,_,_,G',rfl,h0,h1,hr,hn,λb hb=> .inr hb⟩
  .cases hu
 | @part r k k1 i off t t0 T0 x0 L el l hob hi ho hk=>
  obtain⟨g,b0,n,cap,hrv,hcell,_⟩:=hv;obtain⟨h0,h1,Gr,h2,h3,h4⟩:=(h.obj hob:JI M c ow w r k1 T0 L)
  have hkk:∀e∈L.map (cells T0),e.length=k1:=λe he=>by obtain⟨e',_,rfl⟩:=Ch.1 he;rw[dI,h1]
  have hel:(L.map (cells T0))[i]? =U (cells T0 el):=by simp[hi]
  obtain⟨hcl,_⟩:=NQ T0 el ho;obtain⟨F1,G,F3,e1,p1,p2⟩:=bZs (h2:Rep w (c.rv r) (.sl (L.map (cells T0))) Gr) hkk hel hcl hrv hcell;have hsub:∀b∈G,b∈Gr:=λb hb=>by rw[e1];simp[hb]
  have hnd:(g::(F1++(G++F3))).Nodup:=by rw[<- e1];exact h3
  have hndG:G.Nodup:=(DB.1 (DB.1 (EW.1 hnd).2).2.1).1;have hoff:∀b,b∈g::(F1++F3)->b∈Gr/\b∉G:=by
   intro b hb;rw[e1];simp only[EW,DB,C0,not_or]at hnd;obtain⟨⟨n1,n2,n3⟩,n4,⟨n5,n6,n7⟩,n8⟩:=hnd;simp only[Cl,C0]at hb ⊢;rcases hb with rfl | hb | hb
   .exact⟨.inl rfl,n2⟩
   .exact⟨.inr (.inl hb),λhG=>n8 b hb b (.inl hG) rfl⟩
   .exact⟨.inr (.inr (.inr hb)),λhG=>n7 b hG b hb rfl⟩
  refine⟨G,⟨by rw[<- hk,Oc];exact VA t,by rw[<- hk,Oc]⟩,⟨l,rfl,p1⟩,hndG,λb hb=>h4 b (hsub b hb),⟨_,_,_,hob⟩,λw' G' k' t' l' f1 g' hr hn hu hb hG=> ?_⟩;simp only[CL.upd]at hu;split at hu
  .rename_i el' hd;injection hu with hu;subst hu;have hlt:off<k1:=by
    have :=cGm hcl;rw[dI,h1]at this;exact this
   obtain⟨ts,hts,hzz⟩:=Qc (f:=F0) (by simp;rw[h1];exact hlt) hd;cases hts with
   | @cons _ τ _ _ hτ hnil=>
    cases hnil;have hτe:=JU hτ;subst hτe;have hstay:∀b∈g::(F1++F3),w'.heap[b]? =w.heap[b]? :=λb hb'=>by
     obtain⟨q1,q2⟩:=hoff b hb';obtain⟨q3,q4,q5⟩:=h4 b q1;exact hb b q5.lt q4 q2
    have hrep:=p2 w' _ G' hr hstay;refine⟨k1,T0,L.set i el',g::(F1++(G'++F3)),rfl,h0,h1,?_,?_,λb hb'=> ?_⟩
    .simp only[fX];rw[PX,hzz];exact hrep
    .have hdis:∀b∈G',b∉g::(F1++F3):=λb hb' hm=>by
      obtain⟨q1,q2⟩:=hoff b hm;obtain⟨q3,q4,q5⟩:=h4 b q1;exact q2 (hG b hb' q5.lt q4)
     simp only[EW,DB,C0,not_or]at hnd ⊢;obtain⟨⟨n1,n2,n3⟩,n4,⟨n5,n6,n7⟩,n8⟩:=hnd;refine⟨⟨n1,λhm=>hdis g hm (CC ..),n3⟩,n4,⟨hn,n6,λx hx y hy e=> ?_⟩,λx hx y hy e=> ?_⟩
     .subst e;exact hdis x hx (by simp[hy])
     .subst e;rcases hy with hy | hy
      .exact hdis x hy (by simp[hx])
      .exact n8 x hx x (.inr hy) rfl
    .have :b∈g::(F1++F3)\/b∈G':=by
      simp only[Cl,C0]at hb' ⊢;rcases hb' with h | h | h | h
      .exact .inl (.inl h)
      .exact .inl (.inr (.inl h))
      .exact .inr h
      .exact .inl (.inr (.inr h))
     rcases this with h | h
     .obtain⟨q1,q2⟩:=hoff b h;obtain⟨q3,q4,q5⟩:=h4 b q1;exact .inl ⟨q5.lt,q4,q2,q3,q5⟩
     .exact .inr h
  .cases hu
theorem cGv{ok:Nat->Prop}{k:Nat}{t:Ty}{y:C}{x:CL}(hx:Py f k t y x){v v':Value}(hv:aW c ow w ok v y)(hv':aW c ow w ok v' y):v=v':=by
 cases hx with
 | whole hob=>exact Eq.trans hv (Eq.symm hv')
 | part hob hi ho hk=>
  obtain⟨g,b0,n,cap,h1,h2,_⟩:=hv;obtain⟨g',b0',n',cap',h1',h2',_⟩:=hv';rw[h1]at h1';injection h1' with e1 e2 e3;injection e1 with e1;injection e1 with e1 e0 _;subst e1 e0;rw[h2]at h2';injection h2'
def F8(f:F)(ps:List (Nat×C))(d x:C):Prop:=(∃(t:Ty) (y:den t),d= .v t y/\flat t=J/\f.data t x=U y)\/ ∃p,d= .row p/\(p,x)∈ps
theorem F8.mono{ps qs:List (Nat×C)}{d x:C}(h:F8 f ps d x)(hs:∀e∈ps,e∈qs):F8 f qs d x:=by
 rcases h with h | ⟨p,h1,h2⟩
 .exact .inl h
 .exact .inr ⟨p,h1,hs _ h2⟩
theorem bEl{ct:CT}{x:C}{tvs:List TV}{ps:List (Nat×C)}(h:OP f ct x=U (tvs,ps))(rest:List TV):∃d,ct.inj (tvs++rest)=U (d,rest)/\F8 f ps d x:=by
 cases ct with
 | var t=>
  simp only[OP]at h;split at h
  .rename_i hfl;obtain⟨y,hy,he⟩:=CX.1 h;injection he with e1 e2;subst e1 e2;exact⟨.v t y,by show (iK t t y).map _=_;rw[lB];rfl,.inl ⟨t,y,rfl,hfl,hy⟩⟩
  .cases h
 | row p=>
  injection h with h;injection h with e1 e2;subst e1 e2;exact⟨.row p,rfl,.inr ⟨p,rfl,Cy.2 rfl⟩⟩
 | _=>cases h
theorem bEm:∀{cts:List CT} {cs:List C} {tvs:List TV} {ps:List (Nat×C)},OR f cts cs=U (tvs,ps)-> ∀rest,∃ds,Ht cts (tvs++rest)=U (ds,rest)/\bD (F8 f ps) ds cs
 | [],[],tvs,ps,h,rest=>by injection h with h;injection h with e1 e2;subst e1 e2;exact⟨[],rfl,.nil⟩
 | [],_::_,tvs,ps,h,rest=>by cases h
 | _::_,[],tvs,ps,h,rest=>by cases h
 | ct::cts,x::xs,tvs,ps,h,rest=>by
  simp only[OR]at h;split at h
  .rename_i a p b q h1 h2;injection h with h;injection h with e1 e2;subst e1 e2;obtain⟨ds,g1,g2⟩:=bEm h2 rest;obtain⟨d,g3,g4⟩:=bEl h1 (b++rest);refine⟨d::ds,?_,.cons (g4.mono λe he=>Ds _ he) (g2.mono λd x _ hr=>hr.mono λe he=>D5 _ he)⟩;rw[CY];simp[Ht,g3,g1]
  .cases h
def QX(f:F)(ps:List (Nat×C)):A->A->Prop
 | .one d,.one x=>F8 f ps d x
 | .agg ds,.agg xs=>bD (F8 f ps) ds xs
 | _,_=>False
theorem QX.mono{ps qs:List (Nat×C)}{d x:A}(h:QX f ps d x)(hs:∀e∈ps,e∈qs):QX f qs d x:=by
 cases d with
 | one d=>cases x with
  | one x=>exact F8.mono h hs
  | agg x=>exact h
 | agg d=>cases x with
  | one x=>exact h
  | agg x=>exact bD.mono h λ_ _ _ hr=>F8.mono hr hs
inductive GX (f:F) (ps:List (Nat×C)):Nat->List (Nat×Nat×S)->List Operand->Prop
 | nil {i:Nat}:GX f ps i [] []
 | cons {i:Nat} {d y:A} {x:Operand} {fr:List (Nat×Nat×S)} {xs:List Operand} (hx:f.get x=U (.val y)) (h:QX f ps d y) (hs:GX f ps (i+1) fr xs):GX f ps i ((i,0,.val d)::fr) (x::xs)
theorem GX.mono{ps qs:List (Nat×C)}(hs:∀e∈ps,e∈qs){i:Nat}{fr:List (Nat×Nat×S)}{xs:List Operand}(h:GX f ps i fr xs):GX f qs i fr xs:=by
 induction h with
 | nil=>exact .nil
 | cons hx h _ ih=>exact .cons hx (h.mono hs) ih
theorem GX.mem{ps:List (Nat×C)}{i:Nat}{fr:List (Nat×Nat×S)}{xs:List Operand}(h:GX f ps i fr xs):∀e∈fr,∃j x d y,e.1=i+j/\xs[j]? =U x/\f.get x=U (.val y)/\e.2.2= .val d/\QX f ps d y:=by
 induction h with
 | nil=>intro e he;cases he
 | cons hx ha hs ih=>
  intro e he;rcases Cl.1 he with rfl | he
  .exact⟨0,_,_,_,rfl,rfl,hx,rfl,ha⟩
  .obtain⟨j,x,d,y,h1,h2,h3⟩:=ih e he;exact⟨j+1,x,d,y,by omega,by simpa using h2,h3⟩
theorem GX.length{ps:List (Nat×C)}{i:Nat}{fr:List (Nat×Nat×S)}{xs:List Operand}(h:GX f ps i fr xs):fr.length=xs.length:=by
 induction h with
 | nil=>rfl
 | cons _ _ _ ih=>simp[ih]
def cJr(f:F)(ps:List (Nat×C))(xs:List Operand):Prop:= ∀e∈ps,∃x y,x∈xs/\f.get x=U (.val y)/\e.2∈y.cells
theorem bJj{ct:CT}{x:C}{tvs:List TV}{ps:List (Nat×C)}(h:OP f ct x=U (tvs,ps)):∀e∈ps,e.2=x:=by
 cases ct with
 | var t=>
  simp only[OP]at h;split at h
  .obtain⟨y,hy,he⟩:=CX.1 h;injection he with e1 e2;subst e2;intro e he;cases he
  .cases h
 | row p=>
  injection h with h;injection h with e1 e2;subst e2;intro e he;rw[Cy.1 he]
 | _=>cases h
theorem bJo:∀{cts:List CT} {cs:List C} {tvs:List TV} {ps:List (Nat×C)},OR f cts cs=U (tvs,ps)-> ∀e∈ps,e.2∈cs
 | [],[],tvs,ps,h=>by injection h with h;injection h with e1 e2;subst e2;intro e he;cases he
 | [],_::_,tvs,ps,h=>by cases h
 | _::_,[],tvs,ps,h=>by cases h
 | ct::cts,x::xs,tvs,ps,h=>by
  simp only[OR]at h;split at h
  .rename_i a p b q h1 h2;injection h with h;injection h with e1 e2;subst e2;intro e he;rcases C0.1 he with he | he
   .rw[bJj h1 e he];exact CC ..
   .exact C1 _ (bJo h2 e he)
  .cases h
theorem bEy:∀{i:Nat} {hs:List (Nat×ST)} {xs:List Operand} {tvs:List TV} {ps:List (Nat×C)},T5 f i hs xs=U (tvs,ps)-> ∀rest,∃fr,vY F0 hs (tvs++rest)=U (fr,rest)/\GX f ps i fr xs/\cJr f ps xs
 | i,[],[],tvs,ps,h,rest=>by injection h with h;injection h with e1 e2;subst e1 e2;exact⟨[],rfl,.nil,λe he=>by cases he⟩
 | i,[],_::_,tvs,ps,h,rest=>by cases h
 | i,_::_,[],tvs,ps,h,rest=>by cases h
 | i,(j,st)::hs,x::xs,tvs,ps,h,rest=>by
  simp only[T5]at h;split at h
  .rename_i hij;subst hij;split at h
   .rename_i a p b q h1 h2;injection h with h;injection h with e1 e2;subst e1 e2;obtain⟨fr,g1,g2,g5⟩:=bEy h2 rest;have g2':=g2.mono (qs:=p++q) λe he=>D5 _ he
    have hps:(∀y,f.get x=U (.val y)->(∀e∈p,e.2∈y.cells)->cJr f (p++q) (x::xs)):=λy hg hy e he=>by
     rcases C0.1 he with he | he
     .exact⟨x,y,CC ..,hg,hy e he⟩
     .obtain⟨z,u,k1,k2,k3⟩:=g5 e he;exact⟨z,u,C1 _ k1,k2,k3⟩
    unfold cCk at h1;split at h1
    .rename_i ct y hg;obtain⟨d,g3,g4⟩:=bEl h1 (b++rest);refine⟨(i,0,.val (.one d))::fr,?_,.cons hg (show F8 f _ d y from g4.mono λe he=>Ds _ he) g2',hps _ hg λe he=>by rw[bJj h1 e he];exact Cy.2 rfl⟩;rw[CY,vY,g3];simp only[g1];rfl
    .rename_i cts ys hg;obtain⟨ds,g3,g4⟩:=bEm h1 (b++rest);refine⟨(i,0,.val (.agg ds))::fr,?_,.cons hg (show bD (F8 f _) ds ys from g4.mono λ_ _ _ hr=>hr.mono λe he=>Ds _ he) g2',hps _ hg λe he=>bJo h1 e he⟩;rw[CY,vY,g3];simp only[g1];rfl
    .cases h1
   .cases h
  .cases h
end
end Go.V
set_option linter.unusedVariables false
set_option linter.unusedSectionVars false
namespace Go.V
open Go.Ab Go.RowKit
inductive wF (M:Nat->Prop) (c:Cx) (ow:Nat->Option Nat) (f:F) (w:World) (ok:Nat->Prop):List (Nat×OT)->List (Nat×C)->List CL->List (Nat×Value×List Nat)->Prop
 | nil:wF M c ow f w ok [] [] [] []
 | cons {p k:Nat} {t:Ty} {y:C} {x:CL} {v:Value} {G:List Nat} {hs:List (Nat×OT)} {cs:List (Nat×C)} {xs:List CL} {is:List (Nat×Value×List Nat)} (h:Yx M c ow f w k t x v G) (hv:∀v',aW c ow w ok v' y->v'=v) (hs':wF M c ow f w ok hs cs xs is):wF M c ow f w ok ((p,.win k t)::hs) ((p,y)::cs) (x::xs) ((p,v,G)::is)
section
variable {M src:Nat->Prop} {c:Cx} {ow:Nat->Option Nat} {f:F} {a:Act} {w:World} {ok:Nat->Prop}
theorem cFb(h:aX M src c ow f a w){hs:List (Nat×OT)}{ps:List (Nat×C)}{ts:List CL}(ht:Rb f hs ps ts)(hp:∀e∈ps,∃v,aW c ow w (BY src c ow f.ob) v e.2):∃is,wF M c ow f w (BY src c ow f.ob) hs ps ts is:=by
 induction ht with
 | nil=>exact⟨[],.nil⟩
 | cons h1 _ ih=>
  obtain⟨is,h2⟩:=ih λe he=>hp e (C1 _ he)
  obtain⟨v,hv⟩:=hp _ (CC ..);obtain⟨G,hG⟩:=cJu h h1 hv;exact⟨_,.cons hG (λv' hv'=>cGv h1 hv' hv) h2⟩
variable {hs:List (Nat×OT)} {ps:List (Nat×C)} {ts:List CL} {is:List (Nat×Value×List Nat)}
theorem wF.ids(h:wF M c ow f w ok hs ps ts is):is.map (·.1)=ps.map (·.1):=by
 induction h with
 | nil=>rfl
 | cons _ _ _ ih=>simp[ih]
theorem wF.root(h:wF M c ow f w ok hs ps ts is):∀e∈is,∃x,x∈ts/\ ∀b∈e.2.2,M b/\ow b=U x.root/\DN w b:=by
 induction h with
 | nil=>intro e he;cases he
 | cons h _ _ ih=>
  intro e he;rcases Cl.1 he with rfl | he
  .exact⟨_,CC ..,h.own⟩
  .obtain⟨x,h1,h2⟩:=ih e he;exact⟨x,C1 _ h1,h2⟩
theorem wF.val(h:wF M c ow f w ok hs ps ts is):∀e∈ps,∃i∈is,i.1=e.1/\ ∀v,aW c ow w ok v e.2->v=i.2.1:=by
 induction h with
 | nil=>intro e he;cases he
 | cons h hv _ ih=>
  intro e he;rcases Cl.1 he with rfl | he
  .exact⟨_,CC ..,rfl,hv⟩
  .obtain⟨i,h1,h2⟩:=ih e he;exact⟨i,C1 _ h1,h2⟩
theorem wF.sl(h:wF M c ow f w ok hs ps ts is):∀e∈is,∃ad n k,e.2.1= .slice ad n k:=by
 induction h with
 | nil=>intro e he;cases he
 | cons h hv _ ih=>
  intro e he;rcases Cl.1 he with rfl | he
  .obtain⟨l,_,hr⟩:=h.tv;obtain⟨ad,cap,hx,_⟩:=Rep.len hr;exact⟨ad,_,cap,hx⟩
  .exact ih e he
theorem wF.obs(h:wF M c ow f w ok hs ps ts is)(rest:List TV):∃ob,Eg F0 hs (ts.map CL.tv++rest)=U (ob,rest)/\ob.map (·.1)=ps.map (·.1)/\ ∀e∈ob,∃k t,∃l:List (den t),∃i∈is,i.1=e.1/\e.2.2= .win k t l/\0<k/\tyLen t=k/\Rep w i.2.1 (fX (.sl t) l) i.2.2/\i.2.2.Nodup:=by
 induction h with
 | nil=>exact⟨[],rfl,rfl,λe he=>by cases he⟩
 | @cons p k t y x v G hs cs xs is h hv _ ih=>
  obtain⟨ob,h1,h2,h3⟩:=ih;obtain⟨l,hl,hr⟩:=h.tv;refine⟨(p,0,.win k t l)::ob,?_,by simp[h2],λe he=> ?_⟩
  .rw[CA,hl];show (match iK (.sl t) (.sl t) l,Eg F0 hs (xs.map CL.tv++rest) with
    | some l,U (r,zs)=>U ((p,F0.ctr,O.win k t l)::r,zs)
    | _,_=>Y)=_
   rw[lB,h1];rfl
  .rcases Cl.1 he with rfl | he
   .exact⟨k,t,l,_,CC ..,rfl,rfl,h.kt.1,h.kt.2,hr,h.nodup⟩
   .obtain⟨k,t,l,i,k1,k2⟩:=h3 e he;exact⟨k,t,l,i,C1 _ k1,k2⟩
theorem wF.zip(h:wF M c ow f w ok hs ps ts is):∀q∈ts.zip is,∃k t,Yx M c ow f w k t q.1 q.2.2.1 q.2.2.2:=by
 induction h with
 | nil=>intro q hq;cases hq
 | cons h hv _ ih=>
  intro q hq;rcases Cl.1 hq with rfl | hq
  .exact⟨_,_,h⟩
  .exact ih q hq
theorem wF.of_zip(h:wF M c ow f w ok hs ps ts is):∀e∈is,∃x,(x,e)∈ts.zip is:=by
 induction h with
 | nil=>intro e he;cases he
 | cons h hv _ ih=>
  intro e he;rcases Cl.1 he with rfl | he
  .exact⟨_,CC ..⟩
  .obtain⟨x,hx⟩:=ih e he;exact⟨x,C1 _ hx⟩
theorem wF.one(h:wF M c ow f w ok hs ps ts is)(hn:(ts.map CL.root).Nodup):∀q∈ts.zip is,∀e∈is,∀b,b∈e.2.2->ow b=U q.1.root->e=q.2:=by
 induction h with
 | nil=>intro q hq;cases hq
 | @cons p k t y x v G hs cs xs is h hv hr ih=>
  simp only[CA,EW]at hn;intro q hq e he b hb ho;rcases Cl.1 hq with rfl | hq
  .rcases Cl.1 he with rfl | he
   .rfl
   .obtain⟨x',h1,h2⟩:=hr.root e he;have :=(h2 b hb).2.1;rw[ho]at this;injection this with this;exact absurd (Ch.2 ⟨x',h1,this.symm⟩) hn.1
  .rcases Cl.1 he with rfl | he
   .have :=(h.own b hb).2.1;rw[ho]at this;injection this with this;exact absurd (Ch.2 ⟨q.1,(List.of_mem_zip hq).1,this⟩) hn.1
   .exact ih hn.2 q hq e he b hb ho
theorem wB{α:Type}{l:List (Nat×α)}(hn:(l.map (·.1)).Nodup){e:Nat×α}(he:e∈l):l.find? (λx=>x.1==e.1)=U e:=by
 induction l with
 | nil=>cases he
 | cons x xs ih=>
  simp only[CA,EW]at hn;rcases Cl.1 he with rfl | he
  .simp
  .have :x.1≠e.1:=λh=>hn.1 (Ch.2 ⟨e,he,h.symm⟩)
   rw[US (by simpa using this)];exact ih hn.2 he
theorem bRe{f:F}(h:f.uniq)(i:Nat)(x:O):(f.setOb i x).uniq:=by
 intro o n y m z hy hz;rcases iV hy with ⟨hne,hy⟩ | ⟨e1,rfl⟩
 .rcases iV hz with ⟨_,hz⟩ | ⟨e2,_⟩
  .exact h _ _ _ _ _ hy hz
  .exact absurd e2 hne
 .rcases iV hz with ⟨hne,_⟩ | ⟨_,rfl⟩
  .exact absurd e1 hne
  .rfl
theorem V3{Q:Nat->O->Prop}:∀{ts:List CL} {es:List (Nat×Nat×O)} {f1 g:F},Tm f1 ts es=U g->(∀q∈ts.zip es,∀f1 g,q.1.upd f1 q.2.2.2=U g-> ∃y,g=f1.setOb q.1.root y/\Q q.1.root y)->
  g.fr=f1.fr/\Ce f1 g/\(f1.uniq->g.uniq)/\ ∀o n y,(o,n,y)∈g.ob->((o,n,y)∈f1.ob/\o∉ts.map CL.root)\/Q o y
 | [],[],f1,g,h,hq=>by injection h with h;subst h;exact⟨rfl,.refl _,id,λo n y hm=> .inl ⟨hm,by simp⟩⟩
 | [],_::_,f1,g,h,hq=>by cases h
 | _::_,[],f1,g,h,hq=>by cases h
 | x::xs,e::es,f1,g,h,hq=>by
  simp only[Tm]at h;split at h
  .rename_i f2 h2;obtain⟨y,rfl,hQ⟩:=hq _ (CC ..) f1 f2 h2;obtain⟨i1,i2,i3,i4⟩:=V3 h λq hq'=>hq q (C1 _ hq')
   refine⟨i1,(Ce.setOb _ _ _).trans i2,λhu=>i3 (bRe hu _ _),λo n z hm=> ?_⟩;rcases i4 o n z hm with ⟨h3,h4⟩ | h3
   .rcases iV h3 with ⟨hne,h5⟩ | ⟨rfl,rfl⟩
    .exact .inl ⟨h5,by simp only[CA,Cl,not_or];exact⟨hne,h4⟩⟩
    .exact .inr hQ
   .exact .inr h3
  .cases h
theorem cLb{α β γ:Type}{ka:β->Nat}{kb:γ->Nat}:∀{ts:List α} {is:List β} {es:List γ},is.map ka=es.map kb-> ∀q∈ts.zip es,∃i,(q.1,i)∈ts.zip is/\ka i=kb q.2
 | [],is,es,h,q,hq=>by cases hq
 | _::_,is,[],h,q,hq=>by cases hq
 | _::_,[],_::_,h,q,hq=>by cases h
 | t::ts,i::is,e::es,h,q,hq=>by
  simp only[CA,GH.injEq]at h;rcases Cl.1 hq with rfl | hq
  .exact⟨i,CC ..,h.1⟩
  .obtain⟨j,h1,h2⟩:=cLb h.2 q hq;exact⟨j,C1 _ h1,h2⟩
end
section
variable {X:Dn} {E:List Con} {f:F} {a:Act} {w:World} {o:Oper} {R:Type} {K:F->Option R} {r:R}
theorem bK3{p:F}(h:Xe p=J):p.fr.map (·.1)=Es p.fr.length/\ ∀e∈p.fr,DG BW [] e.2.2=J:=by
 simp only[Xe,Ck,beq_iff_eq,Dg]at h;exact h
theorem cMi{c c':Cx}{ow ow':Nat->Option Nat}{w:World}{ok ok':Nat->Prop}{v:Value}{x:A}(hx:NA BW [] x=J)(h:dT c ow w ok v x):dT c' ow' w ok' v x:=by
 have hC:∀(v:Value) (x:C),Kl BW [] x=J->aW c ow w ok v x->aW c' ow' w ok' v x:=by
  intro v x hx hr;cases x with
  | v t y=>
   obtain⟨G,g1,g2⟩:=hr;obtain⟨rfl,_⟩:=Sg g1 (by simpa [Kl] using hx);exact⟨[],g1,by simp⟩
  | row r=>simp[Kl]at hx
  | _=>cases hx
 cases x with
 | one y=>exact hC v y hx h
 | agg ys=>
  obtain⟨vs,rfl,ha⟩:=h;simp only[NA,Dg]at hx;exact⟨vs,rfl,ha.mono λu z hz hr=>hC u z (hx z hz) hr⟩
theorem bPw(h:At X f a w){c:Con}(hc:c.Ok X.P){cl:Call}(hop:o.op= .call cl)(hcal:cl.callee= .value (.func c.f))(hd:kQ X.n o.dst=J)(hwr:ED E o.op=J)(hv:WR c f o.dst cl.args.toList K=U r):DF X E o a w f K r:=by
 classical
 unfold WR at hv;split at hv
 .rename_i d hdst;split at hv
  .rename_i tvs ps hargs;split at hv
   .rename_i hnp;obtain⟨hnd,hpinned⟩:=hnp;have hnd:=kP hnd;obtain⟨ts,hts,hv⟩:=aWh hv;split at hv
    .rename_i hroots;have hroots:=kP hroots;obtain⟨x0,hx0,hv⟩:=dV hv;obtain⟨p0,hp0,hv⟩:=dV hv;obtain⟨y0,hy0,hv⟩:=bind_some hv;obtain⟨p,hp,hv⟩:=dV hv;split at hv
     .rename_i hpost;obtain⟨hpid,hpost⟩:=hpost;obtain⟨g,hg,hv⟩:=dV hv;obtain⟨⟨cx,ow0,hs0,hpin⟩,hb,hn⟩:=id h;have hs:=hs0.trim;generalize hows:(λb=>if b<w.heap.size then ow0 b else Y)=ow at hs;have hown:∀b,w.heap.size<=b->ow b=Y:=λb hb'=>by rw[<- hows];exact zS (by omega)
      obtain⟨fr,hfr,hargR,hps⟩:=bEy hargs (ts.map CL.tv);obtain⟨is,hI⟩:=cFb hs hts λe he=>by
       obtain⟨z,y,k1,k2,k3⟩:=hps e he;have hr:dT cx ow w (BY X.src cx ow f.ob) (a.eval z) y:=hs.get k2;cases y with
       | one y=>rw[Cy.1 k3];exact⟨_,hr⟩
       | agg ys=>
        obtain⟨vs,_,hall⟩:=hr;obtain⟨j,hj⟩:=List.getElem?_of_mem k3;obtain⟨u,_,hu⟩:=hall.get hj;exact⟨u,hu⟩
      have hids:=hI.ids;have hisnd:(is.map (·.1)).Nodup:=by rw[hids];exact hnd
      obtain⟨ob,hob,hobid,hobw⟩:=hI.obs [];have hp0':p0=⟨1,fr,ob⟩:=by
       unfold F.inj at hp0;rw[Qf hx0,hfr]at hp0;simp only at hp0;rw[CU]at hob;rw[hob]at hp0;injection hp0 with hp0;exact hp0.symm
      subst hp0';obtain⟨hent,hmeet⟩:=hc x0 y0 _ p hy0 (by assumption) hp
      let rvP:Nat->Value:=λp=>((is.find? λe=>e.1==p).map (·.2.1)).getD (.slice Y 0 0)
      let owP:Nat->Option Nat:=λb=>if hx:∃e∈is,b∈e.2.2 then U hx.choose.1 else Y
      let M':Nat->Prop:=λb=>w.heap.size<=b\/ ∃e∈is,b∈e.2.2
      have hrvP:∀e∈is,rvP e.1=e.2.1:=λe he=>by
       show ((is.find? λx=>x.1==e.1).map (·.2.1)).getD _=_;rw[wB hisnd he];rfl
      have hone:∀e∈is,∀e'∈is,∀b,b∈e.2.2->b∈e'.2.2->e=e':=λe he e' he' b hb1 hb2=>by
       obtain⟨x,hx⟩:=hI.of_zip e' he';obtain⟨k,t,htk⟩:=hI.zip _ hx;exact hI.one hroots _ hx e he b hb1 (htk.own b hb2).2.1
      have howP:∀e∈is,∀b∈e.2.2,owP b=U e.1:=λe he b hb'=>by
       have hx:∃e∈is,b∈e.2.2:=⟨e,he,hb'⟩
       show (if hx:∃e∈is,b∈e.2.2 then U hx.choose.1 else Y)=_;rw[dif_pos hx];have :=hone _ hx.choose_spec.1 e he b hx.choose_spec.2 hb';rw[this]
      let cP:Cx:=⟨λ_=>0,rvP⟩
      have hunf:∀e∈is,∀b∈e.2.2,X.M b/\DN w b:=λe he b hb'=>by
       obtain⟨x,_,h2⟩:=hI.root e he;exact⟨(h2 b hb').1,(h2 b hb').2.2⟩
      have hsim0:aX M' M' cP owP ⟨1,fr,ob⟩ (DJ (cl.args.toList.map a.eval)) w:=by
       refine⟨rfl,λs n x hm=> ?_,λo' n x hm=> ?_,λo' n x m y hx hy=> ?_,λq=> ?_⟩
       .obtain⟨j,op,d',y,h1,h2,h3,h4,h5⟩:=hargR.mem _ hm;simp only[Dc]at h1;have h4:x= .val d':=h4;subst h1 h4;have hr:dT cx ow w (BY X.src cx ow f.ob) (a.eval op) y:=hs.get h3;have hC:∀(v:Value) (d' z:C),F8 f ps d' z->aW cx ow w (BY X.src cx ow f.ob) v z->aW cP owP w (BY M' cP owP ob) v d':=by
         intro v d' z hz hvz;rcases hz with ⟨t,y,rfl,hfl,hdt⟩ | ⟨q,rfl,hq⟩
         .obtain⟨G,g1,_⟩:=Vn hs hdt hvz;obtain⟨rfl,_⟩:=Sg g1 hfl;exact⟨[],g1,by simp⟩
         .obtain⟨i,hi,hie,hval⟩:=hI.val _ hq;have hval':=hval v hvz;have hie:i.1=q:=hie;show v=rvP q;rw[<- hie,hrvP i hi,hval']
        refine⟨a.eval op,by simp[DJ,h2],?_⟩;cases d' with
        | one d'=>
         cases y with
         | one z=>exact hC _ _ _ h5 hr
         | agg _=>cases h5
        | agg ds=>
         cases y with
         | one z=>cases h5
         | agg zs=>
          obtain⟨vs,hvs,hall⟩:=hr;refine⟨vs,hvs,?_⟩;have key:∀{vs:List Value} {ds zs:List C},bD (aW cx ow w (BY X.src cx ow f.ob)) vs zs->bD (F8 f ps) ds zs->bD (aW cP owP w (BY M' cP owP ob)) vs ds:=by
           intro vs ds zs hv'
           induction hv' generalizing ds with
           | nil=>intro hd';cases hd';exact .nil
           | cons h1 h2 ih=>
            intro hd';cases hd' with
            | cons k1 k2=>exact .cons (hC _ _ _ k1 h1) (ih k2)
          exact key hall h5
       .obtain⟨k,t,l,i,hi,hie,hwx,hk0,hkt,hrep,hndG⟩:=hobw _ hm;have hie:i.1=o':=hie;have hwx:x= .win k t l:=hwx;subst hwx hie;refine⟨hk0,hkt,i.2.2,?_,hndG,λb hb'=>⟨.inr ⟨i,hi,hb'⟩,howP i hi b hb',(hunf i hi b hb').2⟩⟩;show Rep w (rvP i.1) _ _;rw[hrvP i hi];exact hrep
       .have hnob:(ob.map (·.1)).Nodup:=by rw[hobid];exact hnd
        have :=wB hnob hx;have h2:=wB hnob hy;rw[this]at h2;injection h2 with h2;injection h2 with _ h2;injection h2
       .show ∃ad n k,rvP q= .slice ad n k;show ∃ad n k,((is.find? λe=>e.1==q).map (·.2.1)).getD (.slice Y 0 0)= .slice ad n k;cases hf:is.find? λe=>e.1==q with
        | none=>exact⟨_,_,_,rfl⟩
        | some e=>exact hI.sl e (H4 hf)
      have hcall:=hmeet w M' M' cP owP (cl.args.toList.map a.eval) (λb hb'=> .inl hb') (λb hb'=>hb') hsim0 (by simp[hargR.length])
      let rootOf:Nat->Option Nat:=λq=>((is.zip ts).find? λe=>e.1.1==q).map (·.2.root)
      have hzids:((is.zip ts).map λe=>(e.1.1,e.2)).map (·.1)=is.map (·.1)\/True:= .inr trivial;have hrootOf:∀q∈ts.zip is,rootOf q.2.1=U q.1.root:=by
       have key:∀(ts:List CL) (is:List (Nat×Value×List Nat)),(is.map (·.1)).Nodup-> ∀q∈ts.zip is,((is.zip ts).find? λe=>e.1.1==q.2.1).map (·.2.root)=U q.1.root:=by
        intro ts
        induction ts with
        | nil=>intro is _ q hq;cases hq
        | cons t ts ih=>
         intro is hn q hq;cases is with
         | nil=>cases hq
         | cons i is=>
          simp only[CA,EW]at hn;rcases Cl.1 hq with rfl | hq
          .simp
          .have hne:i.1≠q.2.1:=λhe=>hn.1 (Ch.2 ⟨q.2,(List.of_mem_zip hq).2,he.symm⟩)
           rw[List.zip_cons_cons,US (by simpa using hne)];exact ih is hn.2 q hq
       exact key ts is hisnd
      let ow2:(Nat->Option Nat)->Nat->Option Nat:=λow1 b=>if M' b then (ow1 b).bind rootOf else ow b
      have hMold:∀q∈ts.zip is,∀b,b<w.heap.size->ow b=U q.1.root->M' b->b∈q.2.2.2:=by
       intro q hq b hlt ho hm;rcases hm with hm | ⟨e,he,hbe⟩
       .omega
       .have :=hI.one hroots q hq e he b hbe ho;rw[<- this];exact hbe
      have hMX:∀b,M' b->X.M b:=λb hm=>by
       rcases hm with hm | ⟨e,he,hbe⟩
       .exact X.hM b (B5 hb.size hm)
       .exact (hunf e he b hbe).1
      have hupd:=V3 (Q:=λ_ _=>True) hg (λq hq f1 g1 hu=>by
       obtain⟨t1,e1,n1,y1⟩:=q;cases t1 with
       | whole r k t l=>
        cases y1 with
        | win k' t' l'=>
         simp only[CL.upd]at hu;split at hu
         .obtain⟨z,hz,rfl⟩:=CX.1 hu;exact⟨_,rfl,trivial⟩
         .cases hu
        | _=>cases hu
       | part r k i off T0 L el t l=>
        cases y1 with
        | win k' t' l'=>
         simp only[CL.upd]at hu;split at hu
         .injection hu with hu;exact⟨_,hu.symm,trivial⟩
         .cases hu
        | _=>cases hu)
      refine⟨_,hv,(Ce.noSubs f).trans (hupd.2.1.trans (Ce.put _ _ _)),λKp Q hK=> ?_⟩;unfold Oper.wp;rw[VK hop hcal hent w];simp only[Oper.upon];have hargs':cl.args.map a.eval=(cl.args.toList.map a.eval).toArray:=by rw[<- Kj,Array.toArray_toList]
      rw[hargs'];refine hcall.mono λe w1 he=> ?_
      obtain⟨v,us,c1,ow1,rfl,hres,hbel,hsim,hlen,hpin1⟩:=he;obtain⟨q1,q2⟩:=bK3 hpost;obtain⟨r1,r2⟩:=aWg (sl:=BW) (ids:=[]) hsim hlen q1 q2;have hpinP:∀e∈is,c1.rv e.1=e.2.1:=λe he=>by
       have hm:e.1∈ps.map (·.1):=by rw[<- hids];exact Ch.2 ⟨e,he,rfl⟩
       obtain⟨e',he',hee⟩:=Ch.1 hm;have hpp:pinned e.1=J:=by rw[<- hee];exact Dg.1 hpinned e' he'
       rw[(hpin1 e.1 hpp).2];exact hrvP e he
      have hkeep:∀b,b<w.heap.size-> ¬ M' b->w1.heap[b]? =w.heap[b]? :=λb hlt hm=>hbel.block b hlt hm
      have hQ:=V3 (Q:=λo' y=> ∃k t,∃l:List (den t),y= .win k t l/\o'∈ts.map CL.root/\JI X.M cx (ow2 ow1) w1 o' k t l) hg (λq hq f1 g1 hu=>by
       obtain⟨i,hzi,hie⟩:=cLb (ka:=λi:Nat×Value×List Nat=>i.1) (kb:=λe:Nat×Nat×O=>e.1) (hids.trans hpid.symm) q hq;obtain⟨k,t,htk⟩:=hI.zip _ hzi;have hi:i∈is:=(List.of_mem_zip hzi).2;have hqe:q.2∈p.ob:=(List.of_mem_zip hq).2;obtain⟨x,⟨q21,q22,q23⟩⟩:=q;have hie:i.1=q21:=hie;subst hie;have hwin:=hsim.ob _ _ _ hqe;have hwinx:∃k' t',∃l':List (den t'),q23= .win k' t' l':=by
        cases q23 with
        | win k' t' l'=>exact⟨_,_,_,rfl⟩
        | box _=>cases x<;>simp[CL.upd]at hu
        | row _ _ _ _ _=>cases x<;>simp[CL.upd]at hu
       obtain⟨k',t',l',rfl⟩:=hwinx;obtain⟨w0',w1',G',w2',w3',w4'⟩:=(hwin:JI M' c1 ow1 w1 i.1 k' t' l')
       rw[hpinP i hi]at w2';obtain⟨k2,T2,L2,Gr,b1,b2,b3,b4,b5,b6⟩:=htk.back w1 G' k' t' l' f1 g1 w2' w3' hu (λb hlt ho hnG=>hkeep b hlt λhm=>hnG (hMold _ hzi b hlt ho hm)) (λb hbG hlt ho=>hMold _ hzi b hlt ho (w4' b hbG).1);refine⟨_,b1,k2,T2,L2,rfl,Ch.2 ⟨x,(List.of_mem_zip hq).1,rfl⟩,b2,b3,Gr,b4,b5,λb hbG=> ?_⟩;rcases b6 b hbG with ⟨m1,m2,m3,m4,m5⟩ | hbG'
       .have hnm: ¬ M' b:=λhm=>m3 (hMold _ hzi b m1 m2 hm)
        exact⟨m4,(zS hnm).trans m2,m5.keep (hkeep b m1 hnm)⟩
       .obtain⟨m1,m2,m3⟩:=w4' b hbG';refine⟨hMX b m1,?_,m3⟩;show (if M' b then (ow1 b).bind rootOf else ow b)=_;rw[zT m1,m2];exact hrootOf _ hzi)
      obtain⟨u1,u2,u3,u4⟩:=hQ;have hroot:∀q,q∈ts.map CL.root-> ∃n k T L,(q,n,O.win k T L)∈f.noSubs.ob:=by
       intro q hq;obtain⟨x,hx,rfl⟩:=Ch.1 hq;have :∃i,(x,i)∈ts.zip is:=by
        have key:∀{hs:List (Nat×OT)} {ps:List (Nat×C)} {ts:List CL} {is:List (Nat×Value×List Nat)},wF X.M cx ow f w (BY X.src cx ow f.ob) hs ps ts is-> ∀x∈ts,∃i,(x,i)∈ts.zip is:=by
         intro hs ps ts is hI
         induction hI with
         | nil=>intro x hx;cases hx
         | cons _ _ _ ih=>
          intro x hx;rcases Cl.1 hx with rfl | hx
          .exact⟨_,CC ..⟩
          .obtain⟨i,hi⟩:=ih x hx;exact⟨i,C1 _ hi⟩
        exact key hI x hx
       obtain⟨i,hi⟩:=this;obtain⟨k,t,htk⟩:=hI.zip _ hi;obtain⟨k,T2,L2,hob2⟩:=htk.here;obtain⟨n,hm⟩:=vE hob2;exact⟨n,k,T2,L2,Ch.2 ⟨(x.root,n,.win k T2 L2),hm,by simp[O.isSub]⟩⟩
      have hlive:∀b,b<w.heap.size->M' b->live cx ow f.noSubs.ob b:=by
       intro b hlt hm;rcases hm with hm | ⟨e,he,hbe⟩
       .omega
       .obtain⟨x,hx,h2⟩:=hI.root e he;obtain⟨n,k,T2,L2,hm⟩:=hroot x.root (Ch.2 ⟨x,hx,rfl⟩);exact⟨_,_,_,hm,(h2 b hbe).2.1⟩
      have hs':=hs.noSubs;have hsim2:aX X.M X.src cx (ow2 ow1) ⟨g.ctr,f.noSubs.fr,g.ob⟩ a w1:=by
       refine hs'.step (qE f) hbel.size (λb hlt hnl=>hkeep b hlt λhm=>hnl (hlive b hlt hm)) (λb hlt hl=> ?_) (λo' n y hy=> ?_) (u3 hs'.uniq)
       .obtain⟨o',n,y,hy,hyb⟩:=hl;rcases u4 o' n y hy with ⟨h1,h2⟩ | ⟨k,t,l,rfl,h2,h3⟩
        .cases y with
         | box cs=>exact⟨o',n,_,h1,hyb⟩
         | row _ _ _ _ _=>exact⟨o',n,_,h1,hyb⟩
         | win k t l=>
          have hyb:(if M' b then (ow1 b).bind rootOf else ow b)=U o':=hyb;split at hyb
          .rename_i hm;exact hlive b hlt hm
          .exact⟨o',n,_,h1,hyb⟩
        .have hyb:(if M' b then (ow1 b).bind rootOf else ow b)=U o':=hyb;split at hyb
         .rename_i hm;exact hlive b hlt hm
         .obtain⟨n',k',T2,L2,hm⟩:=hroot o' h2;exact⟨o',n',_,hm,hyb⟩
       .rcases u4 o' n y hy with ⟨h1,h2⟩ | ⟨k,t,l,rfl,h2,h3⟩
        .refine .inl ⟨⟨n,h1⟩,λb hlt ho _=>hkeep b hlt λhm=> ?_,λb hlt ho=> ?_⟩
         .rcases hm with hm | ⟨e,he,hbe⟩
          .omega
          .obtain⟨x,hx,h5⟩:=hI.root e he;have :=(h5 b hbe).2.1;rw[ho]at this;injection this with this;exact h2 (Ch.2 ⟨x,hx,this.symm⟩)
         .show (if M' b then (ow1 b).bind rootOf else ow b)=U o';rw[zS]
          .exact ho
          .rintro (hm | ⟨e,he,hbe⟩)
           .omega
           .obtain⟨x,hx,h5⟩:=hI.root e he;have :=(h5 b hbe).2.1;rw[ho]at this;injection this with this;exact h2 (Ch.2 ⟨x,hx,this.symm⟩)
        .exact .inr h3
      have hgeq:(⟨g.ctr,f.noSubs.fr,g.ob⟩:F)=g:=by rw[<- u1]
      rw[hgeq]at hsim2;have hat:At X g a w1:=⟨⟨cx,_,hsim2,hpin⟩,hb.trans ⟨hbel.os,hbel.tape,hbel.output,hbel.size,λk hk hnm=>hkeep k hk λhm=>hnm (hMX k hm)⟩,hn⟩
      have hall:bD (dT cx (ow2 ow1) w1 (BY X.src cx (ow2 ow1) g.ob)) us (Ey p.fr):=r1.mono λu x hx hr=>cMi (r2 x hx) hr
      rw[hdst];exact hK _ _ (hat.put hsim2 hpin (by rw[<- hdst];exact hd) (Wy hres hall)) ⟨(λhw=>by rw[hwr]at hw;cases hw),⟨v,by rw[hdst],(λha=>by rw[hop]at ha;cases ha),λha=>by rw[hop]at ha;simp[E1,hcal]at ha⟩,(λx hx=>by rw[hop]at hx;simp[vD,hcal]at hx),hbel.size⟩
     .cases hv
    .cases hv
   .cases hv
  .cases hv
 .cases hv
end
end Go.V
set_option linter.unusedVariables false
set_option linter.unusedSectionVars false
namespace Go.V
open Go.Ab Go.RowKit
section
variable {M src:Nat->Prop} {c:Cx} {ow:Nat->Option Nat} {f:F} {a:Act} {w:World}
theorem JJ.mem{i:Nat}{fr:List (Nat×Nat×S)}{xs:List Operand}(h:JJ f i fr xs):∀e∈fr,∃j x d y,e.1=i+j/\xs[j]? =U x/\f.get x=U (.val y)/\e.2.2= .val d/\cK3 f d y:=by
 induction h with
 | nil=>intro e he;cases he
 | cons hx ha hs ih=>
  intro e he;rcases Cl.1 he with rfl | he
  .exact⟨0,_,_,_,rfl,rfl,hx,rfl,ha⟩
  .obtain⟨j,x,d,y,h1,h2,h3⟩:=ih e he;exact⟨j+1,x,d,y,by omega,by simpa using h2,h3⟩
theorem JJ.length{i:Nat}{fr:List (Nat×Nat×S)}{xs:List Operand}(h:JJ f i fr xs):fr.length=xs.length:=by
 induction h with
 | nil=>rfl
 | cons _ _ _ ih=>simp[ih]
theorem bRb{x:A}{r:Nat}(h:C.row r∈x.cells):r∈Tp (.val x):=by
 simp only[Tp,Ev];exact⟨_,h,by simp⟩
theorem bRh{xs:List Operand}{x:Operand}{s:S}{r:Nat}(hx:x∈xs)(hg:f.get x=U s)(hr:r∈Tp s):r∈OH f xs:=by
 simp only[OH,Ev];exact⟨x,hx,by rw[hg];exact hr⟩
theorem bXt(h:aX M src c ow f a w)(hsf:f.subFree){fr:List (Nat×Nat×S)}{xs:List Operand}(ha:JJ f 0 fr xs){sl:Bool}(hsl: ¬ (sl=J/\(OH f xs).isEmpty=BW)):
  aX (λb=>w.heap.size<=b) (λb=>w.heap.size<=b\/BY src c ow f.ob b\/sl=BW) c (λ_=>Y) ⟨1,fr,[]⟩ (DJ (xs.map a.eval)) w:=by
 have hlive:∀b,¬ live c (λ_=>Y) [] b:=λb ⟨_,_,_,hm,_⟩=>by cases hm
 have hC:∀(v:Value) (d x:C),Pp f d x->aW c ow w (BY src c ow f.ob) v x->(sl=J-> ∀r,x≠ .row r)->x.isSub=BW->aW c (λ_=>Y) w (BY (λb=>w.heap.size<=b\/BY src c ow f.ob b\/sl=BW) c (λ_=>Y) []) v d:=by
  rintro v d x ⟨t,y,rfl,hd⟩ hr hrow hsub
  cases hs:sl with
  | false=>
   obtain⟨G,g1,_⟩:=Vn h hd hr;exact⟨G,g1,λb _=>⟨.inr (.inr rfl),hlive b⟩⟩
  | true=>
   obtain⟨G,g1,g2⟩:=cGq h hd hr (hrow hs) hsub;exact⟨G,g1,λb hb=>⟨.inr (.inl (g2 b hb)),hlive b⟩⟩
 refine⟨rfl,λs n x hm=> ?_,λo n x hm=>(by cases hm),λo n x m y hm=>(by cases hm),h.rvs⟩;obtain⟨j,op,d,y,h1,h2,h3,h4,h5⟩:=ha.mem _ hm;simp only[Dc]at h1;have h4:x= .val d:=h4;subst h1 h4;have hr:dT c ow w (BY src c ow f.ob) (a.eval op) y:=h.get h3;have hsub:=V6 (WQ hsf h3);have hrow:sl=J-> ∀z∈y.cells,∀r,z≠ .row r:=by
  rintro hs z hz r rfl
  refine hsl ⟨hs,?_⟩;have :=bRh (Cm h2) h3 (bRb hz);cases hl:OH f xs with
  | nil=>rw[hl]at this;cases this
  | cons _ _=>rfl
 refine⟨a.eval op,by simp[DJ,h2],?_⟩;cases d with
 | one d=>
  cases y with
  | one x=>exact hC _ _ _ h5 hr (λhs=>hrow hs x (Cy.2 rfl)) (hsub x (Cy.2 rfl))
  | agg _=>cases h5
 | agg ds=>
  cases y with
  | one x=>cases h5
  | agg zs=>
   obtain⟨vs,hvs,hall⟩:=hr;refine⟨vs,hvs,?_⟩;have key:∀{vs:List Value} {ds zs:List C},bD (aW c ow w (BY src c ow f.ob)) vs zs->bD (Pp f) ds zs->(∀z∈zs,z.isSub=BW/\(sl=J-> ∀r,z≠ .row r))->bD (aW c (λ_=>Y) w (BY (λb=>w.heap.size<=b\/BY src c ow f.ob b\/sl=BW) c (λ_=>Y) [])) vs ds:=by
    intro vs ds zs hv
    induction hv generalizing ds with
    | nil=>intro hd _;cases hd;exact .nil
    | cons h1 h2 ih=>
     intro hd hz;cases hd with
     | cons k1 k2=>exact .cons (hC _ _ _ k1 h1 (hz _ (CC ..)).2 (hz _ (CC ..)).1) (ih k2 λz hz'=>hz z (C1 _ hz'))
   exact key hall h5 λz hz=>⟨hsub z hz,λhs=>hrow hs z hz⟩
theorem cKe{h:Sh}{x:D4 h.tys}{fr:List (Nat×Nat×S)}{p:F}(hob:h.ob=[])(hfr:vY F0 h.fr (Q7 h.tys x)=U (fr,[]))(hp:F0.inj h x=U p):p=⟨1,fr,[]⟩:=by
 unfold F.inj at hp;rw[hfr]at hp;simp only[hob,Eg]at hp;injection hp with hp;exact hp.symm
end
section
variable {X:Dn} {E:List Con} {f:F} {a:Act} {w:World} {o:Oper} {R:Type} {K:F->Option R} {r:R}
theorem bD.map_right2{α β γ:Type}{R:α->β->Prop}{S:α->γ->Prop}{g:β->γ}{as:List α}{bs:List β}(h:bD R as bs)(hf:∀a b,b∈bs->R a b->S a (g b)):bD S as (bs.map g):=by
 induction h with
 | nil=>exact .nil
 | cons h hs ih=>exact .cons (hf _ _ (CC ..) h) (ih λa b hb=>hf a b (C1 _ hb))
theorem aY2(h:At X f a w)(hsf:f.subFree){c:Con}(hc:c.Ok X.P)(hob:c.pre.ob=[]){cl:Call}(hop:o.op= .call cl)(hcal:cl.callee= .value (.func c.f))(hd:kQ X.n o.dst=J)(hv:X2 c f o.dst cl.args.toList K=U r):DF X E o a w f K r:=by
 unfold X2 at hv;split at hv
 .rename_i d hdst;split at hv
  .cases hv
  .rename_i hsl;split at hv
   .rename_i tvs hargs;obtain⟨x0,hx0,hv⟩:=dV hv;obtain⟨p0,hp0,hv⟩:=dV hv;obtain⟨y0,hy0,hv⟩:=bind_some hv;obtain⟨p,hp,hv⟩:=dV hv;rcases bE hv with ⟨hpost,hv⟩ | ⟨_,hv⟩
    .refine⟨_,hv,(Ce.adopt p.ob f).trans (Ce.put _ _ _),λKp Q hK=> ?_⟩;obtain⟨⟨cx,ow,hs,hpin⟩,hb,hn⟩:=id h;have hs:=hs.trim;obtain⟨fr,hfr,hargR⟩:=bIl hargs [];rw[CU,<- Qf hx0]at hfr;have hp0:=cKe hob hfr hp0;subst hp0;have hmeet:=hc x0 y0 _ p hy0 (by assumption) hp;obtain⟨hent,hmeet⟩:=hmeet;have hcall:=hmeet w (λb=>w.heap.size<=b) _ _ _ (cl.args.toList.map a.eval) (λb hb=>hb) (λb hb=> .inl hb) (bXt hs hsf hargR hsl) (by simp[hargR.length]);unfold Oper.wp;rw[VK hop hcal hent w];simp only[Oper.upon];have hargs':cl.args.map a.eval=(cl.args.toList.map a.eval).toArray:=by rw[<- Kj,Array.toArray_toList]
     rw[hargs'];refine hcall.mono λe w' he=> ?_
     obtain⟨v,us,c',ow',rfl,hres,hbel,hsim,hlen,_⟩:=he;have hblk:∀b,b<w.heap.size->w'.heap[b]? =w.heap[b]? :=λb hb=>hbel.block b hb (by omega)
     obtain⟨c'',ow'',hsim'',hpin'',hrel⟩:=bN9 (f:=f) (d:=d) (sl:=c.post.fr.any (·.2.isSl)) (win:=c.win) hs hsf (λb hb=>zS (by omega)) hsim (λb hb'=>⟨hb',X.hM b (B5 hb.size hb'),X.hsrc b (X.hM b (B5 hb.size hb'))⟩) hbel.size hblk hpost (λhs' b hb'=>by
      rcases Nat.lt_or_ge b w.heap.size with hlt | hge
      .rcases hb' with h1 | h1 | h1
       .omega
       .exact .inr ⟨hlt,h1⟩
       .rw[hs']at h1;cases h1
      .exact .inl ⟨hge,X.hsrc b (X.hM b (B5 hb.size hge))⟩)
     obtain⟨q1,q2,q3,q4,q5⟩:=aZ0 hpost;obtain⟨r1,r2⟩:=aWg (sl:=c.post.fr.any (·.2.isSl)) (ids:=p.ob.map (·.1)) hsim hlen q1 q4;have hat:At X (adopt d c.win f p.ob) a w':=⟨⟨c'',ow'',hsim'',λo' ho'=>⟨(hpin'' o' ho').1.trans (hpin o' ho').1,(hpin'' o' ho').2.trans (hpin o' ho').2⟩⟩,hb.trans ⟨hbel.os,hbel.tape,hbel.output,hbel.size,λk hk _=>hblk k hk⟩,hn⟩
     have hall:bD (dT c'' ow'' w' (BY X.src c'' ow'' (adopt d c.win f p.ob).ob)) us ((Ey p.fr).map (ZJ (cZ d))):=r1.map_right2 λu x hx hr=>hrel u x (r2 x hx) hr
     rw[hdst];refine hK _ _ (hat.put hsim'' (λo' ho'=>⟨(hpin'' o' ho').1.trans (hpin o' ho').1,(hpin'' o' ho').2.trans (hpin o' ho').2⟩) (by rw[<- hdst];exact hd) (Wy hres hall)) ⟨λ_=>hblk,⟨v,by rw[hdst],(λha=>by rw[hop]at ha;cases ha),λha=>by rw[hop]at ha;simp[E1,hcal]at ha⟩,(λx hx=>by rw[hop]at hx;simp[vD,hcal]at hx),hbel.size⟩
    .cases hv
   .cases hv
 .cases hv
theorem NE{op:Op}(h:Gk op=J):Ls op=BW:=by cases op<;>first | rfl | cases h
theorem NI{op:Op}(h:Gk op=J):E1 op=BW:=by
 cases op with
 | call cl=>
  simp only[Gk]at h;simp only[E1];split
  .rename_i hc;rw[hc]at h;cases h
  .rfl
 | _=>first | rfl | cases h
theorem PV{op:Op}(h:Gk op=J):vD op=Y:=by
 cases op with
 | call cl=>
  simp only[Gk]at h;simp only[vD];split
  .rename_i hc _;rw[hc]at h;cases h
  .rfl
 | _=>first | rfl | cases h
theorem At.noSubs(h:At X f a w):At X f.noSubs a w:=by
 obtain⟨⟨cx,ow,hs,hpin⟩,hb,hn⟩:=h;exact⟨⟨cx,ow,hs.noSubs,hpin⟩,hb,hn⟩
theorem At.frzAll(h:At X f a w)(ids:List Nat):At X (f.frzAll ids) a w:=by
 obtain⟨⟨cx,ow,hs,hpin⟩,hb,hn⟩:=h;exact⟨⟨cx,ow,hs.frzAll X.hsrc ids,hpin⟩,hb,hn⟩
theorem DF.ext{f g:F}(h:DF X E o a w g K r)(he:Ce f g):DF X E o a w f K r:=by
 obtain⟨k,h1,h2,h3⟩:=h;exact⟨k,h1,he.trans h2,h3⟩
theorem bA9{E:List Con}{g:FuncId}{c:Con}(h:Fc E g=U c):c∈E/\c.f=g:=by
 unfold Fc at h;exact⟨H4 h,by simpa using Ki h⟩
theorem Ce.preF(f:F)(op:Op):Ce f (preF f op):=by
 unfold Go.V.preF;split
 .split
  .exact Ce.frzRow f _
  .exact .refl f
 .exact .refl f
theorem At.preF(h:At X f a w)(op:Op):At X (preF f op) a w:=by
 unfold Go.V.preF;split
 .split
  .obtain⟨⟨cx,ow,hs,hpin⟩,hb,hn⟩:=h;exact⟨⟨cx,ow,hs.frzRow X.hsrc _,hpin⟩,hb,hn⟩
  .exact h
 .exact h
theorem aTc{t:Ty}{k:Nat}(hk:tyLen t=k)(l:List (den t))(n:Nat)(hn:n<=l.length):((l.map (cells t)).flatten).take (n * k)=((l.take n).map (cells t)).flatten:=by
 have h1:l.map (cells t)=(l.take n).map (cells t)++(l.drop n).map (cells t):=by rw[<- IG,FW]
 have h2:((l.take n).map (cells t)).flatten.length=n * k:=by
  rw[sY (k:=k) λe he=>by obtain⟨y,_,rfl⟩:=Ch.1 he;rw[dI,hk]];simp only[CF,Dy];rw[PD hn]
 rw[h1,R3,<- h2,Mn]
theorem aWf(h:At X f a w)(hd:kQ X.n o.dst=J)(hv:Xx X.P f o K=U r):Gk o.op=J/\ ∃g v,K g=U r/\Ce f g/\TM X.P a w o v/\At X g (a.put o.dst v) w:=by
 unfold Xx at hv;split at hv
 .rename_i t x y d hop hdst;refine⟨by rw[hop];rfl,?_⟩;split at hv
  .rename_i e q kd n ht hx hy;split at hv
   .rename_i e' k ty l deep i hrow hi;split at hv
    .rename_i hc;obtain⟨hik,hpq⟩:=hc;rcases bE hv with ⟨hsl,hv⟩ | ⟨_,hv⟩
     .obtain⟨p1,p2,p3⟩:=Of hsl;obtain⟨⟨c,ow,hs,hpin⟩,hb,hnn⟩:=id h;have hlt:d<a.tmps.size:=by rw[hnn];rw[hdst]at hd;exact yS hd
      have hvx:a.eval x=c.rv q:=hs.getC hx;obtain⟨m,hmem⟩:=vE hrow;have hmem':(q,m,O.row e' k ty l deep)∈f.noSubs.ob:=Ch.2 ⟨_,hmem,by simp[O.isSub]⟩;have hs':=hs.noSubs;obtain⟨r0,r1,r2,xs,G,r3,r4,r5,r6⟩:=hs'.ob _ _ _ hmem';have hN:n.toNat<=l.length:=by omega
      obtain⟨ad,cap,hrv,_⟩:=PK r3;have hlc:l.length<=cap:=by
       rcases r3.2 with ⟨hn,h0⟩ | ⟨g,cap',cur,hv',_,_,h1,_⟩
       .rw[h0];exact C3 _
       .rw[hrv]at hv';injection hv' with _ _ e3;rw[e3];exact h1
      have hown:w.ownsRow 0 e' k (.slice ad n.toNat cap) n.toNat (xs.take (n.toNat * k)):=by
       have hxl:=r3.1;refine⟨by rw[Dy,hxl];exact PD (DA _ hN),?_⟩;rcases r3.2 with ⟨hn,h0⟩ | ⟨g,cap',cur,hv',hB,hh,h1,h2,h3,h4⟩
       .rw[hrv]at hn;injection hn with e1 e2 e3;have hz:n.toNat=0:=by omega
        exact .inl ⟨by rw[e1,e3,hz],hz⟩
       .rw[hrv]at hv';injection hv' with e1 e2 e3;refine .inr ⟨g,cap,cur,by rw[e1],hB,hh,by omega,by rw[e3];exact h2,by rw[e3];exact h3,?_⟩;rw[<- h4,List.take_take,PD (DA _ hN)]
      obtain⟨G1,H,q1,q2,q3⟩:=r4.take (n.toNat * k);rw[aTc r1 l n.toNat hN]at q1;have hG1:∀b∈G1,b∈G:=λb hb=>by rw[q3];exact Ds _ hb
      have hob:(Value.slice ad n.toNat cap).ownBlock=(c.rv q).ownBlock:=by rw[hrv];cases ad<;>rfl
      obtain⟨ow',h1⟩:=hs'.putRow (qE f) (d:=q) (was:=(c.rv q).ownBlock) (λb hb=>⟨(r2 b hb).2,⟨q,m,_,hmem',hb⟩⟩) (v:= .slice ad n.toNat cap) (deep:=deep) (l:=l.take n.toNat) (t:=ty) (Cz _) (λ_ _ _=>rfl) (.inr (.inl hob)) (λb hb=>(r2 b (hob▸hb)).1)
       (by rw[Dy,PD hN];exact hown) r0 r1 q1 (λb hb=>⟨q1.lt b hb,r5 b (hG1 b hb)⟩) (λhdp=>by
        obtain⟨n1,n2⟩:=r6 hdp;refine⟨(DB.1 (q3▸n1)).1,λb hb=> ?_⟩;obtain⟨m1,m2,m3,m4⟩:=n2 b (hG1 b hb);exact⟨m1,m4,q,m2,.inl rfl⟩)
      refine⟨_,.slice ad n.toNat cap,hv,((Ce.noSubs f).trans (Ce.add _ q _)).trans (Ce.put _ _ _),λw' _=> ?_,?_⟩
      .have hbr:=RG (P:=X.P) (sl:=J) (lo:=Y) (hi:=U y) (cap:=cap) hs hlc (show FT f 0 Y=U 0 from rfl) (show FT f (l.length:Int) (U y)=U n by simp[FT,hy]) p1 p2 p3 w';simp only[Kh,Kg]at hbr;simp only[execOp,hop,hvx,hrv];refine uX ?_;simp only[Instr.sliceAt,Sem.run_bind,run_underlying ht,Result.andThen_ok,Instr.slice,Kh,Kg,hbr,mH hi];rcases r3.2 with ⟨hn,h0⟩ | ⟨g,cap',cur,hv',hB,hh,h1,h2,h3,h4⟩
       .rw[hrv]at hn;injection hn with e1 e2 e3;rw[e1];simp
       .rw[hrv]at hv';injection hv' with e1 e2 e3;rw[e1];simp[Lv]
      .rw[hdst];exact⟨⟨_,ow',h1.put hlt (by simp[jL,dT,aW,Cx.setRv]),hpin.rv hpq _⟩,hb,by rw[HW];exact hnn⟩
     .cases hv
    .cases hv
   .cases hv
  .cases hv
 .cases hv
theorem bI7(h:At X f a w)(hd:kQ X.n o.dst=J)(hv:Z8 X.P f o K=U r):Gk o.op=J/\ ∃g v,K g=U r/\Ce f g/\TM X.P a w o v/\At X g (a.put o.dst v) w:=by
 unfold Z8 at hv;split at hv
 .rename_i t x lo hi d hop hdst;refine⟨by rw[hop];rfl,?_⟩;split at hv
  .rename_i e q ht hx;split at hv
   .rename_i e' k ty l deep i hrow hi';split at hv
    .rename_i lo' u h1 h2;split at hv
     .rename_i hik;rcases bE hv with ⟨hsl,hv⟩ | ⟨_,hv⟩
      .obtain⟨p1,p2,p3⟩:=Of hsl;obtain⟨⟨c,ow,hs,hpin⟩,hb,hnn⟩:=id h;have hvx:a.eval x=c.rv q:=hs.getC hx;obtain⟨r0,r1,r2,xs,G,r3,r4,r5,r6⟩:=hs.obj hrow;obtain⟨ad,cap,hrv,_⟩:=PK r3;have hlc:l.length<=cap:=by
        rcases r3.2 with ⟨hn,h0⟩ | ⟨g,cap',cur,hv',_,_,h1,_⟩
        .rw[h0];exact C3 _
        .rw[hrv]at hv';injection hv' with _ _ e3;rw[e3];exact h1
       refine⟨_,.slice (if cap=lo'.toNat then ad else ad.map (·.add (lo'.toNat * k))) (u - lo').toNat (cap - lo'.toNat),hv,Ce.put _ _ _,λw' _=> ?_,?_⟩
       .have hbr:=RG (P:=X.P) (sl:=J) hs hlc h1 h2 p1 p2 p3 w';simp only[execOp,hop,hvx,hrv];refine uX ?_;have hsub:u.toNat - lo'.toNat=(u - lo').toNat:=by omega
        simp only[Instr.sliceAt,Sem.run_bind,run_underlying ht,Result.andThen_ok,Instr.slice,Kh,hbr,mH hi',hsub,hik];rfl
       .rw[<- hdst];have hrel:jL c ow w (BY X.src c ow f.ob) (.slice (if cap=lo'.toNat then ad else ad.map (·.add (lo'.toNat * k))) (u - lo').toNat (cap - lo'.toNat)) (.val (.one (.rc q k lo' u))):=⟨ad,l.length,cap,hrv,rfl⟩
        exact h.put hs hpin hd hrel
      .cases hv
     .cases hv
    .cases hv
   .cases hv
  .cases hv
 .cases hv
theorem bLz{ty:Ty}(hfl:flat ty=J){xs:List Value}{l:List (den ty)}{H:List Nat}(h:RepL w xs (l.map (cells ty)).flatten H):H=[]:=
 h.noSl (bDy λx hx=>by obtain⟨y,_,rfl⟩:=Ch.1 hx;exact RC hfl y)
theorem bUh(h:At X f a w)(hd:kQ X.n o.dst=J){cl:Call}(hop:o.op= .call cl)(hv:XK X.P f o.dst cl K=U r):DF X E o a w f K r:=by
 unfold XK at hv;split at hv
 .rename_i d s x t t' hdst hcal hargs htys;split at hv
  .rename_i htt;subst htt;have hop:o.op= .call {callee:= .builtin .append,args:= #[s,x],argTypes:= #[t,t]}:=by
    rw[hop];congr 1;obtain⟨cal,ar,ty⟩:=cl;simp only at hcal hargs htys;obtain⟨ar⟩:=ar;obtain⟨ty⟩:=ty;simp only at hargs htys;subst hcal hargs htys;rfl
   split at hv
   .rename_i e q k a1 b1 q2 k2 a2 b2 ht hgs hgx;split at hv
    .rename_i e1 k1 ty l deep i hrow hi;split at hv
     .rename_i z hz;split at hv
      .rename_i hcond;obtain⟨rfl,rfl,rfl,rfl,rfl,rfl,hfl,hpq,c1,c2⟩:=hcond;rcases bE hv with ⟨hs1,hv⟩ | ⟨_,hv⟩
       .rcases bE hv with ⟨hs2,hv⟩ | ⟨_,hv⟩
        .rcases bE hv with ⟨hap,hv⟩ | ⟨_,hv⟩
         .obtain⟨p1,p2,p3⟩:=Of hs1;obtain⟨s1,s2,s3⟩:=Of hs2;refine⟨_,hv,((Ce.noSubs f).trans (Ce.add _ q2 _)).trans (Ce.put _ _ _),λKp Q hK=> ?_⟩;obtain⟨⟨c,ow,hs,hpin⟩,hb,hn⟩:=id h;have hlt:d<a.tmps.size:=by rw[hn];rw[hdst]at hd;exact yS hd
          obtain⟨ad,n0,cap,hrv,hvs⟩:=hs.getC hgs;obtain⟨ad',n0',cap',hrv',hvx⟩:=hs.getC hgx;obtain⟨m,hmem⟩:=vE hrow;have hmem':(q2,m,O.row e1 i.size ty l deep)∈f.noSubs.ob:=Ch.2 ⟨_,hmem,by simp[O.isSub]⟩;have hs':=hs.noSubs;obtain⟨r0,r1,r2,xs,G,r3,r4,r5,r6⟩:=hs'.ob _ _ _ hmem';have hkk:∀z∈l.map (cells ty),z.length=i.size:=λz hz=>by obtain⟨y,_,rfl⟩:=Ch.1 hz;rw[dI,r1]
          have hl1:(cut l 0 b1)=l.take b1.toNat:=by simp[cut]
          have hN:b1.toNat<=l.length:=by omega
          obtain⟨ad0,cap0,hrv0,_⟩:=PK r3;have hrv0':=hrv;rw[hrv0]at hrv0';injection hrv0' with e1' e2' e3';subst e1' e2' e3';have hlc:l.length<=cap0:=by
           rcases r3.2 with ⟨hn,h0⟩ | ⟨g,cap',cur,hv',_,_,h1,_⟩
           .rw[h0];exact C3 _
           .rw[hrv0]at hv';injection hv' with _ _ e3;rw[e3];exact h1
          have hown:w.ownsRow 0 e1 i.size (.slice ad0 b1.toNat cap0) b1.toNat (xs.take (b1.toNat * i.size)):=by
           have hxl:=r3.1;refine⟨by rw[Dy,hxl];exact PD (DA _ hN),?_⟩;rcases r3.2 with ⟨hn,h0⟩ | ⟨g,cap',cur,hv',hB,hh,h1,h2,h3,h4⟩
           .rw[hrv0]at hn;injection hn with e1 e2 e3;have hz:b1.toNat=0:=by omega
            exact .inl ⟨by rw[e1,e3,hz],hz⟩
           .rw[hrv0]at hv';injection hv' with e1 e2 e3;refine .inr ⟨g,cap0,cur,by rw[e1],hB,hh,by omega,by rw[e3];exact h2,by rw[e3];exact h3,?_⟩;rw[<- h4,List.take_take,PD (DA _ hN)]
          have hvs':a.eval s= .slice ad0 b1.toNat cap0:=by
           rw[hvs];have had:(if cap0=(0:Int).toNat then ad0 else ad0.map (·.add ((0:Int).toNat * i.size)))=ad0:=by
            split
            .rfl
            .cases ad0 with
             | none=>rfl
             | some ad0=>simp[Addr.add]
           rw[had];simp
          have hob:(Value.slice ad0 b1.toNat cap0).ownBlock=(c.rv q2).ownBlock:=by rw[hrv0];cases ad0<;>rfl
          obtain⟨G1,H,z1,z2,z3⟩:=r4.take (b1.toNat * i.size);rw[aTc r1 l b1.toNat hN]at z1;have hG1:=bLz hfl z1;subst hG1;obtain⟨F0,f1,_⟩:=RW hs hrow;obtain⟨ad3,len3,cap3,hve,hlen,hlc3,hcm,F2,g1,_⟩:=Rep.cut (es:=l.map (cells ty)) f1 (k:=i.size) (l:=a2.toNat) (n:=(b2 - a2).toNat) hkk (by rw[CF];omega);rw[hrv0]at hve;injection hve with e1' e2' e3';subst e1' e2' e3';rw[hrv0]at hrv';injection hrv' with e1' e2' e3';subst e1' e2' e3';rw[<- bNe,<- hvx]at g1;have hkc:∀z∈(cut l a2 b2).map (cells ty),z.length=i.size:=λz hz=>by obtain⟨y,_,rfl⟩:=Ch.1 hz;rw[dI,r1]
          have p4:(b1.toNat+((cut l a2 b2).map (cells ty)).length) * (i.bytes+1)<=140737488355328:=by
           have :(cut l 0 b1).length=b1.toNat:=by rw[hl1,Dy];omega
           rw[CF,<- this];simpa [aF] using hap
          obtain⟨v',w',news,G2,g1',g2,g3,g4,g5,g6,g7⟩:=O7 (P:=X.P) (ty:=0) ht hi hz c1 c2 hown g1 hkc p4 (C3 _);have hG2:=bLz hfl g5;subst hG2;have hsame:∀ty,(Builtin.append_ #[t,t] ty #[.slice ad0 b1.toNat cap0,a.eval x]).run X.P w= .ok v' w':=λty=>g1'
          have hexec:(execOp a.eval o).run X.P w= .ok (.value v') w':=by
           simp[execOp,hop,resolve,invoke,builtin,hvs',hsame]
          have hlen2:(cut l 0 b1++cut l a2 b2).length=b1.toNat+((cut l a2 b2).map (cells ty)).length:=by
           rw[List.length_append,hl1,Dy,CF];omega
          have hrep:RepL w' (xs.take (b1.toNat * i.size)++news) ((cut l 0 b1++cut l a2 b2).map (cells ty)).flatten []:=by
           rw[IG,R3,hl1];exact (z1.frame (by simp)).append (g5.frame (by simp))
          rw[hob]at g3 g4;obtain⟨ow',h1⟩:=hs'.putRow (qE f) (d:=q2) (was:=(c.rv q2).ownBlock) (λb hb=>⟨(r2 b hb).2,⟨q2,m,_,hmem',hb⟩⟩) (deep:=deep) (l:=cut l 0 b1++cut l a2 b2) (t:=ty) (v:=v') g3.size (λb hlt hne=>g3.block b hlt hne) (.inr g4) (λb hb=>by
            rcases g4 with g4 | g4
            .rw[g4]at hb;exact (r2 b hb).1
            .rw[g4]at hb;injection hb with hb;subst hb;exact h.hM) (by rw[hlen2];exact g2) c2 r1 hrep (by simp) (λ_=>by simp)
          unfold Oper.wp;rw[hexec];simp only[Oper.upon,hdst];exact hK _ _ ⟨⟨_,ow',h1.put hlt (by simp[jL,dT,aW,Cx.setRv]),hpin.rv hpq _⟩,hb.grown g3 (λb hb=>(r2 b hb).1),by rw[HW];exact hn⟩ ⟨(λhw=>by rw[hop]at hw;simp[ED]at hw),⟨v',by rw[hdst],(λha=>by rw[hop]at ha;cases ha),λ_ y hy b hb0=>by
           rw[hop]at hy;injection hy with hy;subst hy;have hbo:=Xz g2 hb0;rcases g4 with g4 | g4
           .rw[g4]at hbo;refine .inr ?_;rw[hvs'];rw[hrv0]at hbo;cases ad0 with
            | none=>cases hbo
            | some ad=>exact hbo
           .rw[g4]at hbo;injection hbo with hbo;exact .inl (Nat.le_of_eq hbo)⟩,λy hy b hlt hne=>g3.block b hlt (λe=>by
           rw[hop]at hy;injection hy with hy;subst hy;rw[hrv0]at e;cases ad0 with
           | none=>cases e
           | some ad=>injection e with e;exact hne ad.block (by rw[hvs'];rfl) e),g3.size⟩
         .cases hv
        .cases hv
       .cases hv
      .cases hv
     .cases hv
    .cases hv
   .cases hv
  .cases hv
 .cases hv
end
end Go.V
set_option linter.unusedVariables false
set_option linter.unusedSectionVars false
namespace Go.V
open Go.Ab Go.RowKit
section
variable {w w':World}
structure OJ (kd:IntKind) (w w':World) (b0 p0:Nat):Prop where
 old:∃n,w.cell? ⟨b0,p0,Y⟩=U (.int kd n)
 rest:∀b p,¬ (b=b0/\p=p0)->w'.cell? ⟨b,p,Y⟩=w.cell? ⟨b,p,Y⟩
theorem S2:∀{ts:List T} {vs:List Value} {F:List Nat},RepL w vs ts F->(∀v τ G,τ∈ts->Rep w v τ G->Rep w' v τ G)->RepL w' vs ts F
 | [],vs,F,h,k=>by cases h;exact .nil
 | τ::ts,vs,F,h,k=>by
  cases h with
  | cons h hs=>exact .cons (k _ _ _ (CC ..) h) (S2 hs λv τ' G hτ=>k v τ' G (C1 _ hτ))
theorem bH9:∀{ts:List T} {vs:List Value} {F:List Nat} {j:Nat} {v:Value},RepL w vs ts F->vs[j]? =U v-> ∃τ G,τ∈ts/\Rep w v τ G
 | [],vs,F,j,v,h,hv=>by cases h;simp at hv
 | τ::ts,vs,F,j,v,h,hv=>by
  cases h with
  | cons h hs=>
   cases j with
   | zero=>simp at hv;subst hv;exact⟨_,_,CC ..,h⟩
   | succ j=>
    obtain⟨τ',G,h1,h2⟩:=bH9 hs (j:=j) (v:=v) (by simpa using hv);exact⟨τ',G,C1 _ h1,h2⟩
theorem VO{kd:IntKind}{n:Int}:∀(t:Ty),H6 kd t=J-> ∀y:den t,T.lit (.int kd n)∉cells t y
 | .int k,h,y,hm=>by
  simp only[cells,Cy]at hm;injection hm with hm;injection hm with e1 e2;simp[H6,e1]at h
 | .bool,h,y,hm=>by simp[cells]at hm
 | .str,h,y,hm=>by simp[cells]at hm
 | .sl t,h,y,hm=>by simp[cells]at hm
 | .pair a b,h,y,hm=>by
  simp only[H6,Ck]at h;simp only[cells,C0]at hm;rcases hm with hm | hm
  .exact VO a h.1 y.1 hm
  .exact VO b h.2 y.2 hm
theorem Sv{v:Value}{τ:T}{G:List Nat}:∀(t:Ty),flat t=J-> ∀y:den t,τ∈cells t y->Rep w v τ G->Rep w' v τ G
 | .int k,h,y,hm,hr=>by simp only[cells,Cy]at hm;subst hm;cases hr with | lit hp=>exact .lit hp
 | .bool,h,y,hm,hr=>by simp only[cells,Cy]at hm;subst hm;cases hr with | lit hp=>exact .lit hp
 | .str,h,y,hm,hr=>by simp only[cells,Cy]at hm;subst hm;cases hr with | lit hp=>exact .lit hp
 | .sl t,h,y,hm,hr=>by cases h
 | .pair a b,h,y,hm,hr=>by
  simp only[flat,Ck]at h;simp only[cells,C0]at hm;rcases hm with hm | hm
  .exact Sv a h.1 y.1 hm hr
  .exact Sv b h.2 y.2 hm hr
theorem Qg{kd:IntKind}{b0 p0:Nat}(k:OJ kd w w' b0 p0):∀(t:Ty),H6 kd t=J-> ∀(y:den t) (τ:T),τ∈cells t y-> ∀(v:Value) (G:List Nat),Rep w v τ G->Rep w' v τ G
 | .int _,h,y,τ,hm,v,G,hr=>by simp only[cells,Cy]at hm;subst hm;cases hr with | lit hp=>exact .lit hp
 | .bool,h,y,τ,hm,v,G,hr=>by simp only[cells,Cy]at hm;subst hm;cases hr with | lit hp=>exact .lit hp
 | .str,h,y,τ,hm,v,G,hr=>by simp only[cells,Cy]at hm;subst hm;cases hr with | lit hp=>exact .lit hp
 | .pair a b,h,y,τ,hm,v,G,hr=>by
  simp only[H6,Ck]at h;simp only[cells,C0]at hm;rcases hm with hm | hm
  .exact Qg k a h.1 y.1 τ hm v G hr
  .exact Qg k b h.2 y.2 τ hm v G hr
 | .sl t,h,y,τ,hm,v,G,hr=>by
  simp only[cells,Cy]at hm;subst hm;have h:H6 kd t=J:=h;generalize hes:List.map (cells t) y=es at hr;cases hr with
  | nil hc=>exact .nil hc
  | @cons b off n' cap' k' es xs F' hnn hp0 hk0 hk' hc hm hxl hcell hr=>
   subst hes;have hin:∀τ,τ∈(List.map (cells t) y).flatten-> ∃z:den t,τ∈cells t z:=fun τ hτ=>by
    obtain⟨l,hl,hτ⟩:=UO.1 hτ;obtain⟨z,_,rfl⟩:=Ch.1 hl;exact⟨z,hτ⟩
   refine .cons hnn hp0 hk0 hk' hc hm hxl (λj u hu=> ?_) (S2 hr λv τ G hτ hr'=> ?_)
   .rw[k.rest b (off+j) ?_]
    .exact hcell j u hu
    .rintro⟨rfl,e⟩
     obtain⟨n,hn⟩:=k.old;have h1:=hcell j u hu;rw[e,hn]at h1;injection h1 with h1;subst h1;obtain⟨τ,G,h2,h3⟩:=bH9 hr hu;obtain⟨z,h4⟩:=hin τ h2;cases h3 with
     | lit _=>exact VO t h z h4
   .obtain⟨z,hz⟩:=hin τ hτ;exact Qg k t h z τ hz v G hr'
theorem bG8{v:Value}{G:List Nat}:∀(t:Ty) (y:den t),Rep w v (fX t y) G->fX t y∈cells t y
 | .int _,y,_=>Cy.2 rfl
 | .bool,y,_=>Cy.2 rfl
 | .str,y,_=>Cy.2 rfl
 | .sl t,y,_=>Cy.2 rfl
 | .pair _ _,y,h=>by cases h
end
section
variable {M src:Nat->Prop} {c:Cx} {ow:Nat->Option Nat} {f:F} {a:Act} {w w':World} {ok:Nat->Prop}
theorem aW.turn{kd:IntKind}{b0 p0:Nat}(k:OJ kd w w' b0 p0){x:C}{v:Value}(h:aW c ow w ok v x)(hs:x.safe kd=J):aW c ow w' ok v x:=by
 cases x with
 | v t y=>
  obtain⟨G,hr,hG⟩:=h;simp only[C.safe,Fs]at hs;refine⟨G,?_,hG⟩;rcases hs with hs | hs
  .exact Sv t hs y (bG8 t y hr) hr
  .exact Qg k t hs y _ (bG8 t y hr) v G hr
 | ep _ _ _=>cases hs
 | sub _ _ _ _ _ _=>cases hs
 | ip _ _ _ _ _ _ _=>cases hs
 | nil=>exact h
 | row _=>exact h
 | ptr _ _=>exact h
 | rp _ _ _ _=>exact h
 | clo _ _=>exact h
 | rc _ _ _ _=>exact h
 | any=>exact h
theorem dT.turn{kd:IntKind}{b0 p0:Nat}(k:OJ kd w w' b0 p0){x:A}{v:Value}(h:dT c ow w ok v x)(hs:x.safe kd=J):dT c ow w' ok v x:=by
 cases x with
 | one t=>exact aW.turn k h hs
 | agg ts=>
  simp only[A.safe,Dg]at hs;obtain⟨vs,hv,ha⟩:=h;exact⟨vs,hv,ha.mono λa b hb hr=>hr.turn k (hs b hb)⟩
theorem jL.turn{kd:IntKind}{b0 p0:Nat}(k:OJ kd w w' b0 p0){x:S}{v:Value}(h:jL c ow w ok v x)(hs:x.safe kd=J):jL c ow w' ok v x:=by
 cases x with
 | val x=>exact dT.turn k h hs
 | tup xs=>
  simp only[S.safe,Dg]at hs;obtain⟨vs,hv,ha⟩:=h;exact⟨vs,hv,ha.mono λa b hb hr=>hr.turn k (hs b hb)⟩
 | un=>exact h
theorem bOl{kd:IntKind}{x:C}(h:x.safe kd=J):OW kd x=x:=by simp[OW,h]
theorem bKj{kd:IntKind}{x:O}(h:x.safe kd=J):x.toSafe kd=x:=by
 cases x with
 | box cs=>
  simp only[O.safe,Dg]at h;simp only[O.toSafe];congr 1
  induction cs with
  | nil=>rfl
  | cons c cs ih=>rw[CA,bOl (h c (CC ..)),ih λx hx=>h x (C1 _ hx)]
 | row _ _ _ _ _=>rfl
 | win _ _ _=>rfl
theorem RE{kd:IntKind}{o n:Nat}{x:O}(h:(o,n,x)∈(f.toSafe kd).ob):∃m y,(o,m,y)∈f.ob/\x=y.toSafe kd/\y.kept kd=J:=by
 simp only[F.toSafe,Ch,C2]at h;obtain⟨⟨o',m,y⟩,⟨hm,hk⟩,he⟩:=h;split at he
 .rename_i hs;injection he with e1 he;injection he with e2 e3;subst e1 e3;exact⟨m,_,hm,(bKj hs).symm,hk⟩
 .injection he with e1 he;injection he with e2 e3;subst e1 e3;exact⟨m,y,hm,rfl,hk⟩
theorem bQ9(kd:IntKind)(x:C):(OW kd x).safe kd=J:=by
 unfold OW;split
 .assumption
 .rfl
theorem bKo(kd:IntKind)(x:O):(x.toSafe kd).safe kd=J:=by
 cases x with
 | box cs=>
  simp only[O.toSafe,O.safe,Dg,Ch]
  rintro _ ⟨y,_,rfl⟩
  exact bQ9 kd y
 | row _ _ _ _ _=>rfl
 | win _ _ _=>rfl
theorem bTa(kd:IntKind)(x:O):(x.toSafe kd).le x:=by
 cases x with
 | box cs=>
  refine .box ?_
  induction cs with
  | nil=>exact .nil
  | cons t ts ih=>exact .cons (by unfold OW;split<;>simp[C.le]) ih
 | row e k t l deep=>exact .row id
 | win k t l=>exact .win
theorem aX.toSafe(h:aX M src c ow f a w)(kd:IntKind):aX M src c ow (f.toSafe kd) a w:=by
 refine h.weak (λs n x hm=>⟨n,(C2.1 hm).1⟩) (λo n x hm=> ?_) (λo n x m y hx hy=> ?_)
 .obtain⟨m,y,hy,rfl,_⟩:=RE hm;exact⟨m,y,hy,bTa kd y⟩
 .obtain⟨_,x',hx',rfl,_⟩:=RE hx;obtain⟨_,y',hy',rfl,_⟩:=RE hy;rw[h.uniq _ _ _ _ _ hx' hy']
theorem Ce.toSafe(f:F)(kd:IntKind):Ce f (f.toSafe kd):=by
 refine⟨Et _,λs n x hm _=>(C2.1 hm).1,λo n x hm hn=> ?_⟩;simp only[F.toSafe,Ch,C2]at hm;obtain⟨⟨o',m,y⟩,⟨hm,_⟩,he⟩:=hm;split at he
 .rw[<- he];exact hm
 .injection he with _ he;injection he with e _;omega
theorem bTr{P:Program}{V:Value}{k i off:Nat}{t:Ty}{l:List (den t)}{z:den t}{G:List Nat}(h2:Rep w V (fX (.sl t) l) G)(h1:tyLen t=k)(h3:G.Nodup)(hi:i<l.length){τ:T}{u v0:Value}(ho:off<k)(hold:(cells t l[i])[off]? =U (.lit v0))(hz:cells t z=sp (cells t l[i]) off [τ])(hu:Rep w u τ []){g b0 n cap:Nat}(hrv:V= .slice (U ⟨g,b0,Y⟩) n cap)(hunf:DN w g):
  ∃w',(storeCells ⟨g,b0+(i * k+off),Y⟩ [u]).run P w= .ok () w'/\Rep w' V (fX (.sl t) (l.set i z)) G/\(∀b,b≠g->w'.heap[b]? =w.heap[b]?)/\w'.heap.size=w.heap.size/\w'.os=w.os/\w'.tape=w.tape/\w'.output=w.output/\DN w' g/\g∈G/\w.cell? ⟨g,b0+(i * k+off),Y⟩=U v0/\ ∀p,p≠b0+(i * k+off)->w'.cell? ⟨g,p,Y⟩=w.cell? ⟨g,p,Y⟩:=by
 have hkk:∀y∈l.map (cells t),y.length=k:=λy hy=>by obtain⟨y',_,rfl⟩:=Ch.1 hy;rw[dI,h1]
 rw[hrv]at h2;simp only[fX]at h2;generalize hes:l.map (cells t)=es at h2;cases h2 with
 | nil hc=>
  have :l=[]:=by simpa using hes
  subst this;simp at hi
 | @cons b off' n' cap' k' es xs G' hnn hp0 hk0 hk' hc hm hxl hcell hr=>
  subst hes;have hkk':k'=k:=by
   obtain⟨y,hy⟩:=List.exists_mem_of_length_pos (l:=l.map (cells t)) (by simp;omega);rw[<- hk' y hy,hkk y hy]
  subst hkk';obtain⟨cs,e,hh⟩:=hunf;rw[CF]at hnn;subst hnn;have hik:i * k'+k'<=l.length * k':=by rw[<- CZ];exact DA _ hi
  have hlt:i * k'+off<xs.length:=by omega
  have hcell':=hcell (i * k'+off) _ (Cs hlt);have hcell2:=hcell';have hbound:b0+(i * k'+off)<cs.size:=by
   simp only[World.cell?,hh]at hcell';exact (GG.1 hcell').1
  have hrun:=run_storeCells_at (P:=P) g (b0+(i * k'+off)) e [u] 0 cs w hh (by simp;omega) (by intro x hx;rw[Cy.1 hx];exact X0 hu);simp only[Nat.add_zero,List.length_singleton]at hrun;have hother:∀b,b≠g->(w.setRow g (cs.toList.take (b0+(i * k'+off))++[u]++cs.toList.drop (b0+(i * k'+off)+1)).toArray).heap[b]? =w.heap[b]? :=by
   intro b hne;simp only[World.setRow,Array.getElem?_modify];rw[zS (Ne.symm hne)]
  have hgG:∀b∈G',b≠g:=λb hb e=>(EW.1 h3).1 (e▸hb)
  have hnew:=setRow_heap w g cs (cs.toList.take (b0+(i * k'+off))++[u]++cs.toList.drop (b0+(i * k'+off)+1)).toArray e (0,0) hh;have hcs:(cs.toList.take (b0+(i * k'+off))++[u]++cs.toList.drop (b0+(i * k'+off)+1))=cs.toList.set (b0+(i * k'+off)) u:=by
   rw[R4,zT (by simpa using hbound)];simp
  have s1:((l.set i z).map (cells t)).flatten=sp (l.map (cells t)).flatten (i * k'+off) [τ]:=by
   rw[PX,NJ hkk (by simpa using hi) (by rw[dI,h1]),hz];refine QV (rU hkk (by simp[hi])).symm ?_ (by simp;omega);rw[sY hkk,CF];exact hik
  obtain⟨F1,F2,F3,a1,a2,a3,a4⟩:=hr.parts (i * k'+off) 1;have hmid:((l.map (cells t)).flatten.drop (i * k'+off)).take 1=[.lit v0]:=by
   have hfg:=rU hkk (i:=i) (e:=cells t l[i]) (by simp[hi]);have :((l.map (cells t)).flatten)[i * k'+off]? =U (.lit v0):=by
    have h5:(((l.map (cells t)).flatten.drop (i * k')).take k')[off]? =U (.lit v0):=by rw[hfg];exact hold
    rw[Ft,zT ho,Ex]at h5;exact h5
   rw[PB,PC,this];rfl
  rw[hmid]at a2;have hxm:(xs.drop (i * k'+off)).take 1=[xs[i * k'+off]]:=by
   rw[PB,PC,Cs hlt];rfl
  rw[hxm]at a2;have hF2:F2=[]/\xs[i * k'+off]=v0:=by
   generalize xs[i * k'+off]=y at a2;cases a2 with
   | cons p1 p2=>cases p1;cases p2;exact⟨rfl,rfl⟩
  obtain⟨hF2,hv0⟩:=hF2;subst hF2;rw[CH]at a4;have hrep:RepL w (sp xs (i * k'+off) [u]) (sp (l.map (cells t)).flatten (i * k'+off) [τ]) G':=by
   have :=(a1.append (RepL.cons hu RepL.nil)).append a3;rw[a4];simpa [sp] using this
  rw[<- s1]at hrep;refine⟨_,hrun,?_,hother,by simp[World.setRow],rfl,rfl,rfl,⟨_,e,hnew⟩,CC ..,by rw[hcell2,hv0],λp hp=> ?_⟩
  .rw[hrv];simp only[fX];refine .cons (k:=k') (by simp) hp0 hk0 (λy hy=>by obtain⟨y',_,rfl⟩:=Ch.1 hy;rw[dI,h1]) hc hm (by rw[IM (by simp;omega)];exact hxl) (λj x hx=> ?_) (hrep.frame λb hb=>hother b (hgG b hb));simp only[World.cell?,hnew];have hjlt:j<xs.length:=by have :=(Cu.1 hx).1;rw[IM (by simp;omega)]at this;exact this
   have hold':=hcell j _ (Cs hjlt);simp only[World.cell?,hh]at hold';have hsp:sp xs (i * k'+off) [u]=xs.set (i * k'+off) u:=by
    unfold sp;rw[R4,zT hlt];simp
   rw[hsp]at hx;rw[hcs];rw[List.getElem?_set]at hx;have hgoal:(cs.toList.set (b0+(i * k'+off)) u)[b0+j]? =U x:=by
    rw[List.getElem?_set];split at hx
    .rename_i e1;rw[zT (by omega)];rw[zT (by simpa using hbound)];exact hx
    .rename_i e1;rw[zS (by omega)];rw[Cs hjlt]at hx;rw[<- hx];simpa using hold'
   simpa using hgoal
  .simp only[World.cell?,hnew,hh];rw[hcs];have :(cs.toList.set (b0+(i * k'+off)) u)[p]? =cs.toList[p]? :=List.getElem?_set_ne (Ne.symm hp);simpa using this
theorem bUr{xs:List Value}{es:List (List T)}{F:List Nat}(hr:RepL w xs es.flatten F){k i off:Nat}{el:List T}{τ:T}(hk:∀e∈es,e.length=k)(hi:es[i]? =U el)(ho:el[off]? =U τ){v:Value}(hv:xs[i * k+off]? =U v):
  ∃F1 G F3,F=F1++(G++F3)/\Rep w v τ G/\ ∀(w':World) (τ':T),Rep w' v τ' G->(∀b∈F1++F3,w'.heap[b]? =w.heap[b]?)->RepL w' xs (es.set i (sp el off [τ'])).flatten (F1++(G++F3)):=by
 have hin:i<es.length:=(Cu.1 hi).1;have hel:el.length=k:=hk el (Cm hi);have hok:off<k:=by rw[<- hel];exact (Cu.1 ho).1
 have hik:i * k+k<=es.length * k:=by rw[<- CZ];exact DA _ hin
 obtain⟨hlt,hxv⟩:=Cu.1 hv;obtain⟨F1,F2,F3,a1,a2,a3,a4⟩:=hr.parts (i * k+off) 1;have hmid:(es.flatten.drop (i * k+off)).take 1=[τ]:=by
  have hfg:=rU hk hi;have :(es.flatten)[i * k+off]? =U τ:=by
   have h5:((es.flatten.drop (i * k)).take k)[off]? =U τ:=by rw[hfg];exact ho
   rw[Ft,zT hok,Ex]at h5;exact h5
  rw[PB,PC,this];rfl
 have hxm:(xs.drop (i * k+off)).take 1=[v]:=by
  rw[PB,PC,hv];rfl
 rw[hmid,hxm]at a2;cases a2 with
 | @cons _ _ G _ _ _ p1 p2=>
  cases p2;refine⟨F1,G,F3,by rw[a4];simp,p1,λw' τ' hr' hb=> ?_⟩;have hrep:RepL w' xs (sp es.flatten (i * k+off) [τ']) (F1++(G++F3)):=by
   have q1:=a1.frame (w':=w') λb hb'=>hb b (by simp[hb'])
   have q3:=a3.frame (w':=w') λb hb'=>hb b (by simp[hb'])
   have :=(q1.append (RepL.cons hr' RepL.nil)).append q3;have hxs:xs.take (i * k+off)++[v]++xs.drop (i * k+off+1)=xs:=by
    rw[<- hxv,CY,R2,List.getElem_cons_drop,FW]
   rw[hxs]at this;simpa [sp] using this
  rw[NJ hk hin (by rw[IM (by simp;omega)];exact hel),QV (rU hk hi).symm (by rw[sY hk];exact hik) (by simp;omega)];exact hrep
section
variable {X:Dn} {E:List Con} {o:Oper} {R:Type} {K:F->Option R} {r:R}
theorem aY1(h:At X f a w)(hd:kQ X.n o.dst=J)(hv:XR X.P f o K=U r):Gk o.op=J/\ ∃g v,K g=U r/\Ce f g/\TM X.P a w o v/\At X g (a.put o.dst v) w:=by
 unfold XR at hv;split at hv
 .rename_i t p hop;refine⟨by rw[hop];rfl,?_⟩;split at hv
  .rename_i rr k i off hp;split at hv
   .rename_i e k' ty l hrow;split at hv
    .rename_i hk;subst hk;obtain⟨x,hx,hv⟩:=bind_some hv;obtain⟨y,hy,hv⟩:=dV hv;obtain⟨⟨c,ow,hs,hpin⟩,hb,hn⟩:=id h;obtain⟨g,b0,n,cap,hrv,hpv⟩:=hs.getC hp;have hok:JA X.M c ow w (BY X.src c ow f.ob) rr e k ty l J:=hs.obj hrow;obtain⟨r0,r1,r2,xs0,G0,r3,r4,r5,r6⟩:=hok;obtain⟨hnd,how⟩:=r6 rfl;have hok2:JA X.M c ow w (λb=>ow b=U rr) rr e k ty l J:=⟨r0,r1,r2,xs0,G0,r3,r4,λb hb=>(how b hb).2.1,r6⟩
     obtain⟨rfl,xs,G,g1,g2,g3,g4⟩:=bKc hok2 hx hrv;obtain⟨v,hr,hl⟩:=NR hy (Sx (c:=c) (ow:=ow) (ok:=BY X.src c ow f.ob) hrv ty x 0 g1 g2 λj u hu=>by rw[Dc,Dc];exact g3 j u hu);refine⟨_,v,hv,Ce.put _ _ _,λw' hw0=> ?_,h.put hs hpin hd hr⟩;have hw':=hw0 (by rw[hop];rfl);have h1:=hl w' g (i * k) λj u hu=>(World.cell?_of_block (hw' g g4)).trans (g3 j u hu)
     simp only[execOp,hop,hpv,Dc];exact uX (PQ h1)
    .cases hv
   .cases hv
  .cases hv
 .cases hv
theorem yT.turn{kd:IntKind}{b0 p0 q:Nat}(k:OJ kd w w' b0 p0)(hq:ow b0=U q)(hoth:∀b,b≠b0->w'.heap[b]? =w.heap[b]?){o:Nat}{x:O}(h:yT M c ow w ok o x)(hs:x.safe kd=J)(hk:x.kept kd=J)(hne:o≠q):yT M c ow w' ok o x:=by
 have hb:∀b,ow b=U o->w'.heap[b]? =w.heap[b]? :=λb ho=>hoth b λe=>by
  subst e;rw[hq]at ho;injection ho with ho;exact hne ho.symm
 cases x with
 | box cs=>
  obtain⟨h1,h2,vs,ty,hh,ha⟩:=h;simp only[O.safe,Dg]at hs;exact⟨h1,h2,vs,ty,by rw[hb _ h2];exact hh,ha.mono λa b hb hr=>hr.turn k (hs b hb)⟩
 | row e kk t l deep=>
  obtain⟨h0,h1,h2,xs,G,h3,h4,h5,h6⟩:=h;refine⟨h0,h1,h2,xs,G,UY h3 λg hg=>hb g (h2 g hg).2,?_,h5,λhd=> ?_⟩
  .simp only[O.kept,Fs]at hk;rcases hk with hk | hk | hk
   .exact h4.frame λb hbG=>hb b ((h6 hk).2 b hbG).2.1
   .exact S2 h4 λv τ G hτ hr=>by
     obtain⟨l',hl,hτ⟩:=UO.1 hτ;obtain⟨z,_,rfl⟩:=Ch.1 hl;exact Sv t hk z hτ hr
   .exact S2 h4 λv τ G hτ hr=>by
     obtain⟨l',hl,hτ⟩:=UO.1 hτ;obtain⟨z,_,rfl⟩:=Ch.1 hl;exact Qg k t hk z τ hτ v G hr
  .obtain⟨h7,h8⟩:=h6 hd;exact⟨h7,λb hbG=>⟨(h8 b hbG).1,(h8 b hbG).2.1,(h8 b hbG).2.2.1,(h8 b hbG).2.2.2.keep (hb b (h8 b hbG).2.1)⟩⟩
 | win kk t l=>
  obtain⟨h0,h1,G,h2,h3,h4⟩:=h;exact⟨h0,h1,G,h2.frame λb hbG=>hb b (h4 b hbG).2.1,h3,λb hbG=>⟨(h4 b hbG).1,(h4 b hbG).2.1,(h4 b hbG).2.2.keep (hb b (h4 b hbG).2.1)⟩⟩
theorem bOm{f:F}{q n:Nat}{x y:O}(hm:(q,n,x)∈f.ob)(hu:∀o n x m y,(o,n,x)∈f.ob->(o,m,y)∈f.ob->x=y)(hxy:∀b,x.blk c ow q b↔y.blk c ow q b)(b:Nat):live c ow (f.setOb q y).ob b↔live c ow f.ob b:=by
 constructor
 .rintro⟨o,m,z,hz,hb⟩
  rcases iV hz with ⟨_,hz⟩ | ⟨rfl,rfl⟩
  .exact⟨o,m,z,hz,hb⟩
  .exact⟨o,n,x,hm,(hxy b).2 hb⟩
 .rintro⟨o,m,z,hz,hb⟩
  by_cases ho:o=q
  .subst ho;have :=hu _ _ _ _ _ hz hm;subst this;exact⟨o,f.ctr,y,by simp only[F.setOb,Ch];exact⟨_,hz,zT rfl⟩,(hxy b).1 hb⟩
  .exact⟨o,m,z,by simp only[F.setOb,Ch];exact⟨_,hz,zS ho⟩,hb⟩
theorem bKh(h:At X f a w){t:TypeId}{p x:Operand}(hop:o.op= .store t p x)(hdst:o.dst=Y)(hv:Wl X.P f t p x K=U r):DF X E o a w f K r:=by
 unfold Wl at hv;split at hv
 .rename_i q k i off m j qq kd z inf hp hx hi;split at hv
  .rename_i e k' T l hrow;split at hv
   .rename_i hc;obtain⟨c1,c2,c3,c4⟩:=hc;subst c1;obtain⟨el,hel,hv⟩:=bind_some hv;split at hv
    .rename_i t2 x2 hleaf;split at hv
     .rename_i hm;obtain⟨el2,hel2,hv⟩:=bind_some hv;split at hv
      .rename_i kd' z0 hold;split at hv
       .rename_i hkd;subst hkd;split at hv
        .rename_i el2' hd2;split at hv
         .rename_i el' hd;refine⟨_,hv,(Ce.toSafe f kd').trans (Ce.setOb _ q _),λKp Q hK=> ?_⟩;obtain⟨⟨c,ow,hs,hpin⟩,hb,hn⟩:=id h;obtain⟨g,b0,nn,cap,g2,b2,n2,cap2,hrv,hcell,hpv⟩:=hs.getC hp;obtain⟨ex,px⟩:=pA (hs.getC (show f.getC x=U (.v (.int kd') z) by unfold F.getC;rw[hx]));obtain⟨mm,hmem⟩:=vE hrow;have hs1:=hs.toSafe kd';have hmem1:∃m1,(q,m1,O.row e k T l J)∈(f.toSafe kd').ob:=by
           refine⟨mm,?_⟩;simp only[F.toSafe,Ch,C2];exact⟨_,⟨hmem,rfl⟩,zT rfl⟩
          obtain⟨m1,hmem1⟩:=hmem1;obtain⟨r0,r1,r2,xs,G,r3,r4,r5,r6⟩:=hs1.ob _ _ _ hmem1;obtain⟨hnd,how⟩:=r6 rfl;have hkk:∀e∈l.map (cells T),e.length=k:=λe he=>by obtain⟨e',_,rfl⟩:=Ch.1 he;rw[dI,r1]
          have hel':(l.map (cells T))[i]? =U (cells T el):=by simp[hel]
          obtain⟨hcl,_⟩:=NQ T el hleaf;have hil:i<l.length:=(Cu.1 hel).1;have hik:i * k+k<=l.length * k:=by rw[<- CZ];exact DA _ hil
          have hxu:xs[i * k+off]? =U (.slice (U ⟨g2,b2,Y⟩) n2 cap2):=by
           obtain⟨hxl,hr⟩:=r3;rcases hr with ⟨hn',_⟩ | ⟨g',cap',cur,hv',hB,hh,hnc,hcm,hsz,htk⟩
           .rw[hrv]at hn';cases hn'
           .rw[hrv]at hv';injection hv' with e1 e2 e3;injection e1 with e1;injection e1 with e1 e0 _;subst e1 e0;simp only[World.cell?,hh]at hcell;rw[<- htk,Ft,zT (by omega)];simpa using hcell
          obtain⟨F1,G2,F3,e1,p1,p2⟩:=bUr r4 hkk hel' hcl hxu;have hsub:∀b∈G2,b∈G:=λb hb=>by rw[e1];simp[hb]
          have hnd2:(F1++(G2++F3)).Nodup:=by rw[<- e1];exact hnd
          have hndG:G2.Nodup:=(DB.1 (DB.1 hnd2).2.1).1;have hoff:∀b∈F1++F3,b∉G2:=by
           intro b hb hG;simp only[DB,C0]at hnd2 hb;obtain⟨n1,⟨n2,n3,n4⟩,n5⟩:=hnd2;rcases hb with hb | hb
           .exact n5 b hb b (.inl hG) rfl
           .exact n4 b hG b hb rfl
          have hjl:j<x2.length:=(Cu.1 hel2).1;have hje:x2[j]=el2:=(Cu.1 hel2).2;have hqm:qq<tyLen t2:=by rw[<- Oc,hm];exact c4
          obtain⟨ts,hts,hzz⟩:=Qc (f:=F00) (by simp;exact hqm) hd2;obtain⟨ts2,hts2,hzz2⟩:=Qc (f:=F00) (by simp;rw[r1];exact c3) hd;cases hts with
          | @cons _ τ _ _ hτ hnil=>
           cases hnil;have hτe:=JU hτ;subst hτe;cases hts2 with
           | @cons _ τ2 _ _ hτ2 hnil2=>
            cases hnil2;have hτe2:=JU hτ2;subst hτe2;obtain⟨hcell2,_⟩:=NQ t2 el2 hold;rw[<- hje]at hcell2 hzz;have hg2:g2∈G2:=by
             generalize hes:fX (.sl t2) x2=τ at p1;cases p1 with
             | lit _=>cases hes
             | nil _=>
              have hes:Go.Ab.T.sl (List.map (cells t2) x2)=Go.Ab.T.sl []:=hes;injection hes with hes;have :x2=[]:=by simpa using hes
              subst this;simp at hjl
             | cons _ _ _ _ _ _ _ _ _=>exact CC ..
            obtain⟨w',hrun,hrep',hoth,hsz,o1,o2,o3,hunf,_,hc0,hcr⟩:=bTr (P:=X.P) p1 rfl hndG hjl hqm hcell2 hzz (Rep.lit (w:=w) px) rfl (how g2 (hsub g2 hg2)).2.2.2;have how2:=how g2 (hsub g2 hg2);rw[<- hm,Oc]at hpv;have kt:OJ kd' w w' g2 (b2+(j * tyLen t2+qq)):=⟨⟨_,hc0⟩,λb p hbp=>by
             by_cases hbg:b=g2
             .subst hbg;exact hcr p λe=>hbp ⟨rfl,e⟩
             .exact World.cell?_of_block (hoth b hbg)⟩
            have hstay:∀b∈F1++F3,w'.heap[b]? =w.heap[b]? :=λb hb=>hoth b λe=>hoff b hb (e▸hg2)
            have hrow':=p2 w' _ hrep' hstay;rw[<- hzz2,<- PX]at hrow';have hlive:=bOm (c:=c) (ow:=ow) (y:= .row e k T (l.set i el') J) hmem1 hs1.uniq (λb=>Iff.rfl);have hokE:BY X.src c ow ((f.toSafe kd').setOb q (.row e k T (l.set i el') J)).ob=BY X.src c ow (f.toSafe kd').ob:=by
             funext b;apply propext;exact⟨λ⟨h1,h2⟩=>⟨h1,λhl=>h2 ((hlive b).2 hl)⟩,λ⟨h1,h2⟩=>⟨h1,λhl=>h2 ((hlive b).1 hl)⟩⟩
            have hnew:JA X.M c ow w' (BY X.src c ow (f.toSafe kd').ob) q e k T (l.set i el') J:=by
             refine⟨r0,r1,r2,xs,F1++(G2++F3),?_,hrow',by rw[<- e1];exact r5,λ_=>⟨hnd2,?_⟩⟩
             .rw[List.length_set];exact UY r3 λg' hg'=>hoth g' λe=>how2.2.2.1 (e▸hg')
             .rw[<- e1];intro b hb;obtain⟨h1,h2,h3,h4⟩:=how b hb;refine⟨h1,h2,h3,?_⟩
              by_cases hbg:b=g2
              .rw[hbg];exact hunf
              .exact h4.keep (hoth b hbg)
            have hsim:aX X.M X.src c ow ((f.toSafe kd').setOb q (.row e k T (l.set i el') J)) a w':=by
             refine⟨hs1.defers,λs n y hm=> ?_,λo n y hm=> ?_,λo n y m y' hm hm'=> ?_,hs1.rvs⟩
             .obtain⟨v,hv,hr⟩:=hs1.fr s n y hm;rw[hokE];have hys:y.safe kd'=J:=by simpa using (C2.1 hm).2
              exact⟨v,hv,hr.turn kt hys⟩
             .rw[hokE];rcases iV hm with ⟨hne,hm⟩ | ⟨rfl,rfl⟩
              .obtain⟨_,y',_,rfl,hkept⟩:=RE hm;refine yT.turn kt how2.2.1 hoth (hs1.ob _ _ _ hm) (bKo kd' y') ?_ hne;cases y' with
               | box _=>rfl
               | row _ _ _ _ _=>exact hkept
               | win _ _ _=>rfl
              .exact hnew
             .rcases iV hm with ⟨hne,hm⟩ | ⟨e1,rfl⟩
              .rcases iV hm' with ⟨_,hm'⟩ | ⟨e2,_⟩
               .exact hs1.uniq _ _ _ _ _ hm hm'
               .exact absurd e2 hne
              .rcases iV hm' with ⟨hne,_⟩ | ⟨_,rfl⟩
               .exact absurd e1 hne
               .rfl
            unfold Oper.wp;have hrun':(execOp a.eval o).run X.P w= .ok .skip w':=by
             simp[execOp,hop,Instr.storeAt,hpv,Instr.sureAddr,storeVar,mH hi,ex,Value.cells,c2,hrun]
            rw[hrun'];simp only[Oper.upon,hdst];exact hK _ _ ⟨⟨c,ow,hsim,hpin⟩,hb.trans ⟨o1,o2,o3,by omega,λb hlt hnm=>hoth b λe=>hnm (e▸how2.1)⟩,hn⟩ (RP hop hdst (by omega) λb _ hne=>hoth b (hne g2 (by rw[hpv];rfl)))
         .cases hv
        .cases hv
       .cases hv
      .cases hv
     .cases hv
    .cases hv
   .cases hv
  .cases hv
 .cases hv
end
end
end Go.V
set_option linter.unusedVariables false
set_option linter.unusedSectionVars false
namespace Go.V
open Go.Ab Go.RowKit
section
variable {M src:Nat->Prop} {c:Cx} {ow:Nat->Option Nat} {f g:F} {a:Act} {w:World}
theorem SL:∀t:Ty,G4 t=tyLen t
 | .pair a b=>by simp[G4,tyLen,SL a,SL b]
 | .int _=>rfl
 | .bool=>rfl
 | .str=>rfl
 | .sl _=>rfl
theorem RD{e:Nat}(h:f.unused e=J):f.free e:=by
 simp only[F.unused,Ck,Dg]at h;refine⟨λs n x hm=>by simpa using h.1 _ hm,λo n x hm=> ?_⟩;have :=h.2 _ hm;simpa using this
def Cx.ren(c:Cx)(d e:Nat):Cx:=⟨λo=>if o=e then c.loc d else c.loc o,λo=>if o=e then c.rv d else c.rv o⟩
def Io(ow:Nat->Option Nat)(d e:Nat)(b:Nat):Option Nat:=if ow b=U e then Y else (ow b).map λo=>if o=d then e else o
theorem NX{d e b o:Nat}(h:ow b=U o)(hne:o≠e):Io ow d e b=U (if o=d then e else o):=by
 unfold Io;rw[zS (by rw[h];simpa using hne),h];rfl
theorem bYb{d e b o:Nat}(h:Io ow d e b=U (if o=d then e else o))(hne:o≠e):ow b=U o:=by
 unfold Io at h;split at h
 .cases h
 .rename_i hn;obtain⟨q,hq,h1⟩:=CX.1 h;have hqe:q≠e:=λhe=>hn (by rw[hq,he])
  have :q=o:=by
   by_cases h2:q=d<;>by_cases h3:o=d
   .rw[h2,h3]
   .rw[zT h2,zS h3]at h1;exact absurd h1.symm hne
   .rw[zS h2,zT h3]at h1;exact absurd h1 hqe
   .rw[zS h2,zS h3]at h1;exact h1
  rw[hq,this]
theorem J1{d e o:Nat}(hne:o≠e):(c.ren d e).loc (if o=d then e else o)=c.loc o/\(c.ren d e).rv (if o=d then e else o)=c.rv o:=by
 by_cases hd:o=d
 .subst hd;simp[Cx.ren]
 .simp[Cx.ren,hd,hne]
theorem Vh{ok:Nat->Prop}{d e:Nat}{x:C}{v:Value}(h:aW c ow w ok v x)(hn:x.names e=BW):aW (c.ren d e) (Io ow d e) w ok v (GF d e x):=by
 cases x with
 | row r=>
  have hn:r≠e:=by simpa [C.names] using hn
  show v=(c.ren d e).rv _;rw[(J1 hn).2];exact h
 | ptr o off=>
  have hn:o≠e:=by simpa [C.names] using hn
  show v= .pointer (U ⟨(c.ren d e).loc _,off,Y⟩);rw[(J1 hn).1];exact h
 | rp r k i off=>
  have hn:r≠e:=by simpa [C.names] using hn
  obtain⟨g,b0,n,cap,h1,h2⟩:=h;exact⟨g,b0,n,cap,by rw[(J1 hn).2];exact h1,h2⟩
 | sub r k i off t x=>
  have hn:r≠e:=by simpa [C.names] using hn
  obtain⟨g,b0,n,cap,h1,h2,G,h3,h4⟩:=h;exact⟨g,b0,n,cap,by rw[(J1 hn).2];exact h1,h2,G,h3,λb hb=>NX (h4 b hb) hn⟩
 | ip r k i off m j p=>
  have hn:r≠e:=by simpa [C.names] using hn
  obtain⟨g,b0,n,cap,g2,b2,n2,cap2,h1,h2⟩:=h;exact⟨g,b0,n,cap,g2,b2,n2,cap2,by rw[(J1 hn).2];exact h1,h2⟩
 | clo g o=>
  have hn:o≠e:=by simpa [C.names] using hn
  show v= .func (.func g) #[] #[.pointer (U ⟨(c.ren d e).loc _,0,Y⟩)];rw[(J1 hn).1];exact h
 | rc r k lo hi=>
  have hn:r≠e:=by simpa [C.names] using hn
  obtain⟨ad,n,cap,h1,h2⟩:=h;exact⟨ad,n,cap,by rw[(J1 hn).2];exact h1,h2⟩
 | v _ _=>exact h
 | nil=>exact h
 | ep _ _ _=>exact h
 | any=>exact h
theorem A.ren_sound{ok:Nat->Prop}{d e:Nat}{x:A}{v:Value}(h:dT c ow w ok v x)(hn:x.names e=BW):dT (c.ren d e) (Io ow d e) w ok v (x.ren d e):=by
 cases x with
 | one t=>exact Vh h hn
 | agg ts=>
  obtain⟨vs,rfl,ha⟩:=h;simp only[A.names,Da]at hn;exact⟨vs,rfl,ha.map_right2 λu t ht hu=>Vh hu (by simpa using hn t ht)⟩
theorem S.ren_sound{ok:Nat->Prop}{d e:Nat}{x:S}{v:Value}(h:jL c ow w ok v x)(hn:x.names e=BW):jL (c.ren d e) (Io ow d e) w ok v (x.ren d e):=by
 cases x with
 | val x=>exact A.ren_sound h hn
 | tup xs=>
  obtain⟨vs,rfl,ha⟩:=h;simp only[S.names,Da]at hn;exact⟨vs,rfl,ha.map_right2 λu t ht hu=>A.ren_sound hu (by simpa using hn t ht)⟩
 | un=>exact h
theorem VN{d e:Nat}{x:C}(h:x.names d=BW):GF d e x=x:=by
 cases x with
 | row r=>
  have :r≠d:=by simpa [C.names] using h
  simp[GF,this]
 | ptr o off=>
  have :o≠d:=by simpa [C.names] using h
  simp[GF,this]
 | rp r k i off=>
  have :r≠d:=by simpa [C.names] using h
  simp[GF,this]
 | sub r k i off t x=>
  have :r≠d:=by simpa [C.names] using h
  simp[GF,this]
 | ip r k i off m j p=>
  have :r≠d:=by simpa [C.names] using h
  simp[GF,this]
 | clo g o=>
  have :o≠d:=by simpa [C.names] using h
  simp[GF,this]
 | rc r k lo hi=>
  have :r≠d:=by simpa [C.names] using h
  simp[GF,this]
 | v _ _=>rfl
 | nil=>rfl
 | ep _ _ _=>rfl
 | any=>rfl
theorem St{α:Type}{f:α->α}:∀{l:List α},(∀x∈l,f x=x)->l.map f=l
 | [],_=>rfl
 | x::xs,h=>by rw[CA,h x (CC ..),St λy hy=>h y (C1 _ hy)]
theorem A.ren_self{d e:Nat}{x:A}(h:x.names d=BW):x.ren d e=x:=by
 cases x with
 | one t=>simp only[A.ren];rw[VN h]
 | agg ts=>simp only[A.names,Da]at h;simp only[A.ren];rw[St λy hy=>VN (by simpa using h y hy)]
theorem S.ren_self{d e:Nat}{x:S}(h:x.names d=BW):x.ren d e=x:=by
 cases x with
 | val x=>simp only[S.ren];rw[A.ren_self h]
 | tup xs=>simp only[S.names,Da]at h;simp only[S.ren];rw[St λy hy=>A.ren_self (by simpa using h y hy)]
 | un=>rfl
theorem O.ren_self{d e:Nat}{x:O}(h:x.names d=BW):x.ren d e=x:=by
 cases x with
 | box cs=>simp only[O.names,Da]at h;simp only[O.ren];rw[St λy hy=>VN (by simpa using h y hy)]
 | row _ _ _ _ _=>rfl
 | win _ _ _=>rfl
def F.ren(f:F)(d e:Nat):F:=⟨f.ctr+1,f.fr.map (λx=>if x.2.2.names d then (x.1,f.ctr,x.2.2.ren d e) else x),f.ob.map λx=>if x.1=d then (e,f.ctr,x.2.2.ren d e) else if x.2.2.names d then (x.1,f.ctr,x.2.2.ren d e) else x⟩
theorem bTv{d e s n:Nat}{x:S}(h:(s,n,x)∈(f.ren d e).fr):∃m y,(s,m,y)∈f.fr/\x=y.ren d e/\(n<f.ctr->(s,n,x)∈f.fr):=by
 simp only[F.ren,Ch]at h;obtain⟨⟨s1,m,y⟩,hm,he⟩:=h;cases hn:y.names d with
 | true=>
  simp only[hn,zV]at he;injection he with e1 he;injection he with e2 e3;subst e1 e3;exact⟨m,y,hm,rfl,λhlt=>by omega⟩
 | false=>
  simp only[hn]at he;injection he with e1 he;injection he with e2 e3;subst e1 e2 e3;exact⟨m,y,hm,(S.ren_self hn).symm,λ_=>hm⟩
theorem Q0{d e o n:Nat}{x:O}(h:(o,n,x)∈(f.ren d e).ob):∃o1 m y,(o1,m,y)∈f.ob/\o=(if o1=d then e else o1)/\x=y.ren d e/\(n<f.ctr->(o,n,x)∈f.ob):=by
 simp only[F.ren,Ch]at h;obtain⟨⟨o1,m,y⟩,hm,he⟩:=h
 by_cases hd:o1=d
 .simp only[hd,zV]at he;injection he with e1 he;injection he with e2 e3;subst e1 e3;exact⟨o1,m,y,hm,by rw[zT hd],rfl,λhlt=>by omega⟩
 .simp only[hd,zU]at he;cases hn:y.names d with
  | true=>
   simp only[hn,zV]at he;injection he with e1 he;injection he with e2 e3;subst e1 e3;exact⟨o1,m,y,hm,by rw[zS hd],rfl,λhlt=>by omega⟩
  | false=>
   simp only[hn]at he;injection he with e1 he;injection he with e2 e3;subst e1 e2 e3;exact⟨o1,m,y,hm,by rw[zS hd],(O.ren_self hn).symm,λ_=>hm⟩
theorem Ce.ren(f:F)(d e:Nat):Ce f (f.ren d e):=⟨Et _,λs n x hm hn=>by obtain⟨_,_,_,_,h⟩:=bTv hm;exact h hn,λo n x hm hn=>by obtain⟨_,_,_,_,_,_,h⟩:=Q0 hm;exact h hn⟩
theorem cGz{d e o1 m:Nat}{y:O}(h:(o1,m,y)∈f.ob):∃n,((if o1=d then e else o1),n,y.ren d e)∈(f.ren d e).ob:=by
 simp only[F.ren,Ch]
 by_cases hd:o1=d
 .exact⟨f.ctr,(o1,m,y),h,by simp[hd]⟩
 .cases hn:y.names d with
  | true=>exact⟨f.ctr,(o1,m,y),h,by simp[hd,hn]⟩
  | false=>exact⟨m,(o1,m,y),h,by simp[hd,hn,O.ren_self hn]⟩
theorem aX.ren(h:aX M src c ow f a w){d e:Nat}(hf:f.free e):aX M src (c.ren d e) (Io ow d e) (f.ren d e) a w:=by
 have hblk:∀o1 m y,(o1,m,y)∈f.ob-> ∀b,(y.ren d e).blk (c.ren d e) (Io ow d e) (if o1=d then e else o1) b↔y.blk c ow o1 b:=by
  intro o1 m y hy b;have hne:=(hf.2 o1 m y hy).1;obtain⟨h1,h2⟩:=J1 (c:=c) (d:=d) hne;cases y with
  | box cs=>simp only[O.ren,O.blk,h1]
  | row e' k t l dp=>simp only[O.ren,O.blk,h2]
  | win k t l=>exact⟨λhb=>bYb hb hne,λhb=>NX hb hne⟩
 have hok:BY src (c.ren d e) (Io ow d e) (f.ren d e).ob=BY src c ow f.ob:=by
  funext b;apply propext;refine and_congr_right λ_=>not_congr ⟨?_,?_⟩
  .rintro⟨o',n,x,hm,hx⟩
   obtain⟨o1,m,y,hy,rfl,rfl,_⟩:=Q0 hm;exact⟨o1,m,y,hy,(hblk o1 m y hy b).1 hx⟩
  .rintro⟨o1,m,y,hy,hx⟩
   obtain⟨n,hn⟩:=cGz (d:=d) (e:=e) hy;exact⟨_,n,_,hn,(hblk o1 m y hy b).2 hx⟩
 refine⟨h.defers,λs n x hm=> ?_,λo' n x hm=> ?_,λo' n x m' y hx hy=> ?_,λr=> ?_⟩
 .obtain⟨m,y,hy,rfl,_⟩:=bTv hm;obtain⟨v,hv,h1⟩:=h.fr s m y hy;exact⟨v,hv,by rw[hok];exact S.ren_sound h1 (hf.1 s m y hy)⟩
 .rw[hok];obtain⟨o1,m,y,hy,rfl,rfl,_⟩:=Q0 hm;obtain⟨hne,hnm⟩:=hf.2 o1 m y hy;obtain⟨l1,l2⟩:=J1 (c:=c) (d:=d) hne;have ho:=h.ob _ _ _ hy;cases y with
  | box cs=>
   obtain⟨b1,b2,vs,ty,b3,b4⟩:=ho;simp only[O.names,Da]at hnm;exact⟨by rw[l1];exact b1,by rw[l1];exact NX b2 hne,vs,ty,by rw[l1];exact b3,b4.map_right2 λu t ht hu=>Vh hu (by simpa using hnm t ht)⟩
  | row e' k t l dp=>
   obtain⟨r0,r1,r2,xs,G,r3,r4,r5,r6⟩:=ho;refine⟨r0,r1,λg hg=> ?_,xs,G,by rw[l2];exact r3,r4,r5,λhd=> ?_⟩
   .rw[l2]at hg;exact⟨(r2 g hg).1,NX (r2 g hg).2 hne⟩
   .obtain⟨n1,n2⟩:=r6 hd;refine⟨n1,λb hb=> ?_⟩;obtain⟨m1,m2,m3,m4⟩:=n2 b hb;exact⟨m1,NX m2 hne,by rw[l2];exact m3,m4⟩
  | win k t l=>
   obtain⟨r0,r1,G,r2,r3,r4⟩:=ho;exact⟨r0,r1,G,by rw[l2];exact r2,r3,λb hb=>⟨(r4 b hb).1,NX (r4 b hb).2.1 hne,(r4 b hb).2.2⟩⟩
 .obtain⟨o1,m1,y1,hy1,q1,rfl,_⟩:=Q0 hx;obtain⟨o2,m2,y2,hy2,q2,rfl,_⟩:=Q0 hy;have hne1:=(hf.2 _ _ _ hy1).1;have hne2:=(hf.2 _ _ _ hy2).1;have :o1=o2:=by
   rw[q1]at q2
   by_cases h1:o1=d<;>by_cases h2:o2=d
   .rw[h1,h2]
   .rw[zT h1,zS h2]at q2;exact absurd q2.symm hne2
   .rw[zS h1,zT h2]at q2;exact absurd q2 hne1
   .rw[zS h1,zS h2]at q2;exact q2
  subst this;rw[h.uniq _ _ _ _ _ hy1 hy2]
 .simp only[Cx.ren];split
  .exact h.rvs d
  .exact h.rvs r
theorem aX.addNil(h:aX M src c ow f a w){d m n e k:Nat}{t:Ty}(hf:f.free d)(hk:0<k)(ht:tyLen t=k):aX M src (c.setRv d (.slice Y 0 0)) ow ⟨n,f.fr,(d,m,.row e k t [] J)::f.ob⟩ a w:=by
 have h1:=h.recx hf (Cx.but_rv c d (.slice Y 0 0)) (λr=>by
  simp only[Cx.setRv];split
  .exact⟨_,_,_,rfl⟩
  .exact h.rvs r)
 have hrv:(c.setRv d (.slice Y 0 0)).rv d= .slice Y 0 0:=by simp[Cx.setRv]
 have hok:BY src (c.setRv d (.slice Y 0 0)) ow ((d,m,.row e k t [] J)::f.ob)=BY src (c.setRv d (.slice Y 0 0)) ow f.ob:=by
  funext b;apply propext;refine and_congr_right λ_=>not_congr ⟨?_,?_⟩
  .rintro⟨o',n',x,hm,hx⟩
   rcases Cl.1 hm with he | hm
   .injection he with e1 he;injection he with e2 e3;subst e1 e3;have hx:((c.setRv o' (.slice Y 0 0)).rv o').ownBlock=U b:=hx;rw[hrv]at hx;cases hx
   .exact⟨o',n',x,hm,hx⟩
  .rintro⟨o',n',x,hm,hx⟩
   exact⟨o',n',x,C1 _ hm,hx⟩
 refine⟨h1.defers,λs n x hm=> ?_,λo' n x hm=> ?_,λo' n x m' y hx hy=> ?_,h1.rvs⟩
 .obtain⟨v,hv,h2⟩:=h1.fr s n x hm;exact⟨v,hv,by rw[hok];exact h2⟩
 .rw[hok];rcases Cl.1 hm with he | hm
  .injection he with e1 he;injection he with e2 e3;subst e1 e3;refine⟨hk,ht,λg hg=> ?_,[],[],?_,.nil,by simp,λ_=>by simp⟩
   .rw[hrv]at hg;cases hg
   .rw[hrv];exact⟨by simp,.inl ⟨rfl,rfl⟩⟩
  .exact h1.ob o' n x hm
 .rcases Cl.1 hx with he | hx1
  .injection he with e1 e2;injection e2 with _ e2;rcases Cl.1 hy with he' | hy1
   .injection he' with e3 e4;injection e4 with _ e4;rw[e2,e4]
   .exact absurd e1 ((hf.2 _ _ _ hy1).1)
  .rcases Cl.1 hy with he' | hy1
   .injection he' with e3 e4;exact absurd e3 ((hf.2 _ _ _ hx1).1)
   .exact h1.uniq _ _ _ _ _ hx1 hy1
theorem bD.setR{α β:Type}{R:α->β->Prop}{as:List α}{bs:List β}(h:bD R as bs){j:Nat}{b b':β}(hj:bs[j]? =U b)(hr:∀u,R u b->R u b'):bD R as (bs.set j b'):=by
 induction h generalizing j with
 | nil=>simp at hj
 | cons h hs ih=>
  cases j with
  | zero=>simp at hj;subst hj;exact .cons (hr _ h) hs
  | succ j=>exact .cons h (ih (by simpa using hj))
theorem bPs{ok:Nat->Prop}{x:A}{v:Value}{j:Nat}{y y':C}(h:dT c ow w ok v x)(hj:x.cells[j]? =U y)(hr:∀u,aW c ow w ok u y->aW c ow w ok u y'):dT c ow w ok v (x.setC j y'):=by
 cases x with
 | one z=>
  simp only[A.cells]at hj;cases j with
  | zero=>simp at hj;subst hj;exact hr v h
  | succ j=>simp at hj
 | agg zs=>
  obtain⟨vs,hv,ha⟩:=h;exact⟨vs,hv,ha.setR hj hr⟩
theorem aX.slot(h:aX M src c ow f a w){s:Nat}{x x':S}(hl:f.look s=U x)(hr:∀v,jL c ow w (BY src c ow f.ob) v x->jL c ow w (BY src c ow f.ob) v x'):aX M src c ow (f.put (U s) x') a w:=by
 refine⟨h.defers,λs' n y hm=> ?_,h.ob,h.uniq,h.rvs⟩;simp only[F.put,Cl,C2]at hm;rcases hm with hm | ⟨hm,hne⟩
 .injection hm with e1 hm;injection hm with e2 e3;subst e1 e2 e3;obtain⟨n,hn⟩:=M9 hl;obtain⟨v,hv,h1⟩:=h.fr _ _ _ hn;exact⟨v,hv,hr v h1⟩
 .exact h.fr s' n y hm
theorem aX.boxed(h:aX M src c ow f a w){i:Nat}{cs cs':List C}(hb:f.obj i=U (.box cs))(hr:∀vs,bD (aW c ow w (BY src c ow f.ob)) vs cs->bD (aW c ow w (BY src c ow f.ob)) vs cs'):aX M src c ow (f.setOb i (.box cs')) a w:=by
 obtain⟨n0,hn0⟩:=vE hb;have hok:BY src c ow (f.setOb i (.box cs')).ob=BY src c ow f.ob:=by
  funext b;apply propext;refine and_congr_right λ_=>not_congr ⟨?_,?_⟩
  .rintro⟨o',n',x,hm,hx⟩
   rcases iV hm with ⟨_,hm⟩ | ⟨rfl,rfl⟩
   .exact⟨o',n',x,hm,hx⟩
   .exact⟨o',n0,_,hn0,hx⟩
  .rintro⟨o',n',x,hm,hx⟩
   by_cases hi:o'=i
   .subst hi;have :=h.uniq _ _ _ _ _ hm hn0;subst this;exact⟨o',f.ctr,.box cs',Ch.2 ⟨_,hm,by simp⟩,hx⟩
   .exact⟨o',n',x,Ch.2 ⟨_,hm,by simp[hi]⟩,hx⟩
 refine⟨h.defers,λs n x hm=> ?_,λo' n x hm=> ?_,λo' n x m y hx hy=> ?_,h.rvs⟩
 .rw[hok];exact h.fr s n x hm
 .rw[hok];rcases iV hm with ⟨_,hm⟩ | ⟨rfl,rfl⟩
  .exact h.ob o' n x hm
  .obtain⟨b1,b2,vs,ty,b3,b4⟩:=h.ob _ _ _ hn0;exact⟨b1,b2,vs,ty,b3,hr vs b4⟩
 .rcases iV hx with ⟨hne,hx⟩ | ⟨e1,rfl⟩
  .rcases iV hy with ⟨_,hy⟩ | ⟨e2,_⟩
   .exact h.uniq _ _ _ _ _ hx hy
   .exact absurd e2 hne
  .rcases iV hy with ⟨hne,_⟩ | ⟨_,rfl⟩
   .exact absurd e1 hne
   .rfl
end
section
variable {X:Dn} {f g:F} {a:Act} {w:World}
theorem Gy.ren{c:Cx}(h:Gy X c){d e:Nat}(he:pinned e=BW):Gy X (c.ren d e):=λo ho=>by
 have hne:o≠e:=by rintro rfl;rw[he]at ho;cases ho
 simp only[Cx.ren,zS hne];exact h o ho
theorem cAb{x:Wk}(hx:f.wk x=U g):Ce f g/\ ∀a w,At X f a w->At X g a w:=by
 cases x with
 | pick ss os=>
  injection hx with hx;subst hx;refine⟨⟨Cz _,λs n x hm _=>(C2.1 hm).1,λo n x hm _=>(C2.1 hm).1⟩,λa w h=> ?_⟩;obtain⟨⟨cx,ow,hs,hpin⟩,hb,hn⟩:=h;refine⟨⟨cx,ow,hs.weak (λs n x hm=>⟨n,(C2.1 hm).1⟩) (λo n x hm=>⟨n,x,(C2.1 hm).1,O.le_refl x⟩) (λo n x m y hx hy=>hs.uniq _ _ _ _ _ (C2.1 hx).1 (C2.1 hy).1),hpin⟩,hb,hn⟩
 | frz r=>
  injection hx with hx;subst hx;refine⟨Ce.frzRow f r,λa w h=> ?_⟩;obtain⟨⟨cx,ow,hs,hpin⟩,hb,hn⟩:=h;exact⟨⟨cx,ow,hs.frzRow X.hsrc r,hpin⟩,hb,hn⟩
 | ren d e=>
  simp only[F.wk]at hx;split at hx
  .rename_i hc;injection hx with hx;have hx:f.ren d e=g:=hx;subst hx;refine⟨Ce.ren f d e,λa w h=> ?_⟩;obtain⟨⟨cx,ow,hs,hpin⟩,hb,hn⟩:=h;exact⟨⟨_,_,hs.ren (RD hc.1),hpin.ren hc.2.2⟩,hb,hn⟩
  .cases hx
 | nilS s j i e k t=>
  simp only[F.wk]at hx;split at hx
  .rename_i x hl;split at hx
   .rename_i hj;split at hx
    .rename_i hc;obtain⟨c1,c2,c3,c4⟩:=hc;injection hx with hx;subst hx;refine⟨⟨by simp[F.put];omega,λs' n y hm hlt=> ?_,λo n y hm hlt=> ?_⟩,λa w h=> ?_⟩
     .simp only[F.put,Cl,C2]at hm;rcases hm with hm | hm
      .injection hm with _ hm;injection hm with e1 _;omega
      .exact hm.1
     .rcases Cl.1 hm with he | hm
      .injection he with _ he;injection he with e1 _;omega
      .exact hm
     .obtain⟨⟨cx,ow,hs,hpin⟩,hb,hn⟩:=h;have h1:=hs.addNil (m:=f.ctr) (n:=f.ctr+1) (e:=e) (RD c1) c3 (by rw[<- SL];exact c4);refine⟨⟨_,ow,h1.slot (x:= .val x) hl λv hv=>bPs hv hj λu hu=> ?_,hpin.rv c2 _⟩,hb,hn⟩;have hu:u= .slice Y 0 0:=hu;show u=(cx.setRv i (.slice Y 0 0)).rv i;rw[hu];simp[Cx.setRv]
    .cases hx
   .cases hx
  .cases hx
 | nilB o j i e k t=>
  simp only[F.wk]at hx;split at hx
  .rename_i cs hl;split at hx
   .rename_i hj;split at hx
    .rename_i hc;obtain⟨c1,c2,c3,c4⟩:=hc;injection hx with hx;subst hx;have hne:o≠i:=by
      obtain⟨n,hm⟩:=vE hl;exact ((RD c1).2 _ _ _ hm).1
     refine⟨⟨by simp[F.setOb];omega,λs' n y hm hlt=>hm,λo' n y hm hlt=> ?_⟩,λa w h=> ?_⟩
     .simp only[F.setOb,Ch]at hm;obtain⟨⟨o1,m,z⟩,hz,he⟩:=hm;split at he
      .injection he with _ he;injection he with e1 _;omega
      .rw[<- he];rcases Cl.1 hz with he2 | hz
       .injection he2 with _ he2;injection he2 with e1 _;injection he with _ he;injection he with e2 _;omega
       .exact hz
     .obtain⟨⟨cx,ow,hs,hpin⟩,hb,hn⟩:=h;have h1:=hs.addNil (m:=f.ctr) (n:=f.ctr+1) (e:=e) (RD c1) c3 (by rw[<- SL];exact c4);have hl':(⟨f.ctr+1,f.fr,(i,f.ctr,.row e k t [] J)::f.ob⟩:F).obj o=U (.box cs):=by
       unfold F.obj at hl ⊢;rw[US (by simpa using Ne.symm hne)];exact hl
      refine⟨⟨_,ow,h1.boxed hl' λvs hv=>hv.setR hj λu hu=> ?_,hpin.rv c2 _⟩,hb,hn⟩;have hu:u= .slice Y 0 0:=hu;show u=(cx.setRv i (.slice Y 0 0)).rv i;rw[hu];simp[Cx.setRv]
    .cases hx
   .cases hx
  .cases hx
theorem V5:∀{xs:List Wk} {f g:F},f.wks xs=U g->Ce f g/\ ∀a w,At X f a w->At X g a w
 | [],f,g,h=>by injection h with h;subst h;exact⟨.refl _,λ_ _ h=>h⟩
 | x::xs,f,g,h=>by
  simp only[F.wks]at h;split at h
  .rename_i k hk;obtain⟨h1,h2⟩:=cAb (X:=X) hk;obtain⟨h3,h4⟩:=V5 h;exact⟨h1.trans h3,λa w hat=>h4 a w (h2 a w hat)⟩
  .cases h
end
end Go.V
set_option linter.unusedVariables false
set_option linter.unusedSectionVars false
namespace Go.V
open Go.Ab Go.RowKit
inductive DO (H:List (Nat×Nat)):C->C->Prop
 | v {t:Ty} {y:den t}:DO H (.v t y) (.v t y)
 | nil {t:Ty}:DO H (.v (.sl t) []) .nil
 | row {q r:Nat} (h:(q,r)∈H):DO H (.row q) (.row r)
 | ptr {p o off:Nat} (h:(p,o)∈H):DO H (.ptr p off) (.ptr o off)
theorem DO.mono{H H':List (Nat×Nat)}{d x:C}(h:DO H d x)(hs:∀e∈H,e∈H'):DO H' d x:=by
 cases h with
 | v=>exact .v
 | nil=>exact .nil
 | row h=>exact .row (hs _ h)
 | ptr h=>exact .ptr (hs _ h)
theorem bEb{ct:CT}{x:C}{tvs:List TV}{ps:List (Nat×Nat)}(h:TH ct x=U (tvs,ps))(rest:List TV):∃d,ct.inj (tvs++rest)=U (d,rest)/\DO ps d x:=by
 unfold TH at h;split at h
 .rename_i t t' y;obtain⟨z,hz,he⟩:=CX.1 h;injection he with e1 e2;subst e1 e2;obtain⟨e,hz⟩:=gP hz;subst e;have hz:y=z:=hz;subst hz;exact⟨.v t' y,by show (iK t' t' y).map _=_;rw[lB];rfl,.v⟩
 .rename_i t;injection h with h;injection h with e1 e2;subst e1 e2;exact⟨.v (.sl t) [],by show (iK (.sl t) (.sl t) []).map _=_;rw[lB];rfl,.nil⟩
 .rename_i q r;injection h with h;injection h with e1 e2;subst e1 e2;exact⟨.row q,rfl,.row (Cy.2 rfl)⟩
 .rename_i p off o off';split at h
  .rename_i he;subst he;injection h with h;injection h with e1 e2;subst e1 e2;exact⟨.ptr p off,rfl,.ptr (Cy.2 rfl)⟩
  .cases h
 .cases h
theorem Vy:∀{cts:List CT} {cs:List C} {tvs:List TV} {ps:List (Nat×Nat)},QY cts cs=U (tvs,ps)-> ∀rest,∃ds,Ht cts (tvs++rest)=U (ds,rest)/\bD (DO ps) ds cs
 | [],[],tvs,ps,h,rest=>by injection h with h;injection h with e1 e2;subst e1 e2;exact⟨[],rfl,.nil⟩
 | [],_::_,tvs,ps,h,rest=>by cases h
 | _::_,[],tvs,ps,h,rest=>by cases h
 | ct::cts,x::xs,tvs,ps,h,rest=>by
  simp only[QY]at h;split at h
  .rename_i a p b q h1 h2;injection h with h;injection h with e1 e2;subst e1 e2;obtain⟨ds,g1,g2⟩:=Vy h2 rest;obtain⟨d,g3,g4⟩:=bEb h1 (b++rest);refine⟨d::ds,?_,.cons (g4.mono λe he=>Ds _ he) (g2.mono λd x _ hr=>hr.mono λe he=>D5 _ he)⟩;rw[CY];simp[Ht,g3,g1]
  .cases h
def QK(H:List (Nat×Nat)):A->A->Prop
 | .one d,.one x=>DO H d x
 | .agg ds,.agg xs=>bD (DO H) ds xs
 | _,_=>False
theorem QK.mono{H H':List (Nat×Nat)}{d x:A}(h:QK H d x)(hs:∀e∈H,e∈H'):QK H' d x:=by
 cases d with
 | one d=>cases x with
  | one x=>exact DO.mono h hs
  | agg x=>exact h
 | agg d=>cases x with
  | one x=>exact h
  | agg x=>exact bD.mono h λ_ _ _ hr=>DO.mono hr hs
inductive Gm (f:F) (H:List (Nat×Nat)):Nat->List (Nat×Nat×S)->List Operand->Prop
 | nil {i:Nat}:Gm f H i [] []
 | cons {i:Nat} {d y:A} {x:Operand} {fr:List (Nat×Nat×S)} {xs:List Operand} (hx:f.get x=U (.val y)) (h:QK H d y) (hs:Gm f H (i+1) fr xs):Gm f H i ((i,0,.val d)::fr) (x::xs)
theorem Gm.mono{f:F}{H H':List (Nat×Nat)}(hs:∀e∈H,e∈H'){i:Nat}{fr:List (Nat×Nat×S)}{xs:List Operand}(h:Gm f H i fr xs):Gm f H' i fr xs:=by
 induction h with
 | nil=>exact .nil
 | cons hx h _ ih=>exact .cons hx (h.mono hs) ih
theorem Gm.mem{f:F}{H:List (Nat×Nat)}{i:Nat}{fr:List (Nat×Nat×S)}{xs:List Operand}(h:Gm f H i fr xs):∀e∈fr,∃j x d y,e.1=i+j/\xs[j]? =U x/\f.get x=U (.val y)/\e.2.2= .val d/\QK H d y:=by
 induction h with
 | nil=>intro e he;cases he
 | cons hx ha hs ih=>
  intro e he;rcases Cl.1 he with rfl | he
  .exact⟨0,_,_,_,rfl,rfl,hx,rfl,ha⟩
  .obtain⟨j,x,d,y,h1,h2,h3⟩:=ih e he;exact⟨j+1,x,d,y,by omega,by simpa using h2,h3⟩
theorem Gm.length{f:F}{H:List (Nat×Nat)}{i:Nat}{fr:List (Nat×Nat×S)}{xs:List Operand}(h:Gm f H i fr xs):fr.length=xs.length:=by
 induction h with
 | nil=>rfl
 | cons _ _ _ ih=>simp[ih]
theorem aTk{f:F}:∀{i:Nat} {hs:List (Nat×ST)} {xs:List Operand} {tvs:List TV} {ps:List (Nat×Nat)},S0 f i hs xs=U (tvs,ps)-> ∀rest,∃fr,vY F0 hs (tvs++rest)=U (fr,rest)/\Gm f ps i fr xs
 | i,[],[],tvs,ps,h,rest=>by injection h with h;injection h with e1 e2;subst e1 e2;exact⟨[],rfl,.nil⟩
 | i,[],_::_,tvs,ps,h,rest=>by cases h
 | i,_::_,[],tvs,ps,h,rest=>by cases h
 | i,(j,st)::hs,x::xs,tvs,ps,h,rest=>by
  simp only[S0]at h;split at h
  .rename_i hij;subst hij;split at h
   .rename_i a p b q h1 h2;injection h with h;injection h with e1 e2;subst e1 e2;obtain⟨fr,g1,g2⟩:=aTk h2 rest;have g2':=g2.mono (H':=p++q) λe he=>D5 _ he
    unfold cDl at h1;split at h1
    .rename_i ct y hg;obtain⟨d,g3,g4⟩:=bEb h1 (b++rest);refine⟨(i,0,.val (.one d))::fr,?_,.cons hg (show DO _ d y from g4.mono λe he=>Ds _ he) g2'⟩;rw[CY,vY,g3];simp only[g1];rfl
    .rename_i cts ys hg;obtain⟨ds,g3,g4⟩:=Vy h1 (b++rest);refine⟨(i,0,.val (.agg ds))::fr,?_,.cons hg (show bD (DO _) ds ys from g4.mono λ_ _ _ hr=>hr.mono λe he=>Ds _ he) g2'⟩;rw[CY,vY,g3];simp only[g1];rfl
    .cases h1
   .cases h
  .cases h
inductive TD (H:List (Nat×Nat)):O->O->Prop
 | box {ds cs:List C} (h:bD (DO H) ds cs):TD H (.box ds) (.box cs)
 | row {e k:Nat} {t:Ty} {l:List (den t)} {deep:Bool}:TD H (.row e k t l BW) (.row e k t l deep)
theorem bFk{ps:List (Nat×Nat)}{p:Nat}{e:Nat×Nat}(h:ps.find? (λe=>e.1==p)=U e):(p,e.2)∈ps:=by
 have h1:=H4 h;have h2:e.1=p:=by simpa using Ki h
 rw[<- h2];exact h1
theorem Vc{f:F}:∀{hs:List (Nat×OT)} {ps H:List (Nat×Nat)} {tvs:List TV},Lj f hs ps=U (tvs,H)->(∀e∈ps,e∈H)/\ ∀rest,∃ob,Eg F0 hs (tvs++rest)=U (ob,rest)/\ob.map (·.1)=hs.map (·.1)/\ ∀e∈ob,∃o x,(e.1,o)∈H/\f.obj o=U x/\TD H e.2.2 x
 | [],ps,H,tvs,h=>by
  injection h with h;injection h with e1 e2;subst e1 e2;exact⟨λe he=>he,λrest=>⟨[],rfl,rfl,λe he=>by cases he⟩⟩
 | (p,.box cts)::hs,ps,H,tvs,h=>by
  simp only[Lj]at h;split at h
  .rename_i e hf;split at h
   .rename_i cs hob;split at h
    .rename_i a qs hl;split at h
     .rename_i b r hr;injection h with h;injection h with e1 e2;subst e1 e2;obtain⟨g1,g2⟩:=Vc hr;refine⟨λe he=>g1 e (Ds _ he),λrest=> ?_⟩;obtain⟨ob,g3,g4,g5⟩:=g2 rest;obtain⟨ds,g6,g7⟩:=Vy hl (b++rest);refine⟨(p,0,.box ds)::ob,?_,by simp[g4],λe' he'=> ?_⟩
      .rw[CY,Eg,g6];simp only[g3];rfl
      .rcases Cl.1 he' with rfl | he'
       .exact⟨e.2,_,g1 _ (Ds _ (bFk hf)),hob,.box (g7.mono λ_ _ _ hr=>hr.mono λe he=>g1 e (D5 _ he))⟩
       .exact g5 e' he'
     .cases h
    .cases h
   .cases h
  .cases h
 | (p,.row e k t deep)::hs,ps,H,tvs,h=>by
  simp only[Lj]at h;split at h
  .rename_i z hf;split at h
   .rename_i e' k' t' l dp hob;split at h
    .rename_i hc;obtain⟨rfl,rfl,rfl,rfl⟩:=hc;split at h
     .rename_i b r hr;injection h with h;injection h with e1 e2;subst e1 e2;obtain⟨g1,g2⟩:=Vc hr;refine⟨g1,λrest=> ?_⟩;obtain⟨ob,g3,g4,g5⟩:=g2 rest;refine⟨(p,0,.row e k t l BW)::ob,?_,by simp[g4],λe' he'=> ?_⟩
      .show Eg F0 ((p,.row e k t BW)::hs) (⟨.sl t,l⟩::(b++rest))=_;simp only[Eg,lB,g3];rfl
      .rcases Cl.1 he' with rfl | he'
       .exact⟨z.2,_,g1 _ (bFk hf),hob,.row⟩
       .exact g5 e' he'
     .cases h
    .cases h
   .cases h
  .cases h
 | (p,.keep)::hs,ps,H,tvs,h=>by simp[Lj]at h
 | (p,.win _ _)::hs,ps,H,tvs,h=>by simp[Lj]at h
section
variable {M src:Nat->Prop} {c:Cx} {ow:Nat->Option Nat} {f:F} {a:Act} {w:World}
def O.isWin:O->Bool
 | .win _ _ _=>J
 | _=>BW
def HB(c:Cx)(ow:Nat->Option Nat)(f:F)(H:List (Nat×Nat))(b:Nat):Prop:= ∃e∈H,∃n x,(e.2,n,x)∈f.ob/\x.isWin=BW/\x.blk c ow e.2 b
theorem HB.spec(h:aX M src c ow f a w){H:List (Nat×Nat)}{b:Nat}(hb:HB c ow f H b):b<w.heap.size/\M b/\live c ow f.ob b/\ ∃e∈H,ow b=U e.2:=by
 obtain⟨e,he,n,x,hm,hw,hx⟩:=hb;have hob:=h.ob _ _ _ hm;refine⟨hob.lt (λk t l hc=>by rw[hc]at hw;cases hw) hx,?_,⟨_,_,_,hm,hx⟩,e,he,hob.own hx⟩;cases x with
 | box cs=>have hx:c.loc e.2=b:=hx;subst hx;exact hob.1
 | row e' k t l deep=>exact (hob.2.2.1 b hx).1
 | win _ _ _=>cases hw
def E8(c:Cx)(H:List (Nat×Nat)):Cx:=⟨λp=>match H.find? λe=>e.1==p with
 | some e=>c.loc e.2
 | none=>c.loc p,λp=>match H.find? λe=>e.1==p with
 | some e=>c.rv e.2
 | none=>c.rv p⟩
open Classical in
noncomputable def owP(ow:Nat->Option Nat)(H:List (Nat×Nat))(b:Nat):Option Nat:=(H.find? λe=>Z (ow b=U e.2)).map (·.1)
theorem Qu{H:List (Nat×Nat)}(hn:(H.map (·.1)).Nodup){p o:Nat}(h:(p,o)∈H):(E8 c H).loc p=c.loc o/\(E8 c H).rv p=c.rv o:=by
 have :=wB hn h;unfold E8;simp[this]
theorem bU6{H:List (Nat×Nat)}(hn:(H.map (·.2)).Nodup){p o b:Nat}(h:(p,o)∈H)(hb:ow b=U o):owP ow H b=U p:=by
 unfold owP;have :H.find? (λe=>Z (ow b=U e.2))=U (p,o):=by
  induction H with
  | nil=>cases h
  | cons e H ih=>
   simp only[CA,EW]at hn;rcases Cl.1 h with rfl | h
   .rw[List.find?_cons_of_pos (by simpa using hb)]
   .rw[US]
    .exact ih hn.2 h
    .rw[hb];simp only[zR,Option.some.injEq]
     rintro rfl
     exact hn.1 (Ch.2 ⟨(p,e.2),h,rfl⟩)
 rw[this];rfl
theorem bXx(h:aX M src c ow f a w)(hM:∀b,w.heap.size<=b->ow b=Y){H:List (Nat×Nat)}(hn1:(H.map (·.1)).Nodup)(hn2:(H.map (·.2)).Nodup){fr:List (Nat×Nat×S)}{ob:List (Nat×Nat×O)}{xs:List Operand}(ha:Gm f H 0 fr xs)(hnd:(ob.map (·.1)).Nodup)
  (ho:∀e∈ob,∃o x,(e.1,o)∈H/\f.obj o=U x/\TD H e.2.2 x):
  aX (λb=>w.heap.size<=b\/HB c ow f H b) (λb=>(w.heap.size<=b\/HB c ow f H b)\/BY src c ow f.ob b) (E8 c H) (owP ow H) ⟨1,fr,ob⟩ (DJ (xs.map a.eval)) w:=by
 have hlive:∀b,live (E8 c H) (owP ow H) ob b->HB c ow f H b:=by
  rintro b ⟨p,n,x',hm,hb⟩
  obtain⟨o,x,h1,h2,h3⟩:=ho _ hm;obtain⟨n',hx⟩:=vE h2;obtain⟨k1,k2⟩:=Qu (c:=c) hn1 h1;cases h3 with
  | box _=>exact⟨_,h1,n',_,hx,rfl,by have hb:(E8 c H).loc p=b:=hb;rw[k1]at hb;exact hb⟩
  | row=>exact⟨_,h1,n',_,hx,rfl,by have hb:((E8 c H).rv p).ownBlock=U b:=hb;rw[k2]at hb;exact hb⟩
 have hok:∀b,BY src c ow f.ob b->BY (λb=>(w.heap.size<=b\/HB c ow f H b)\/BY src c ow f.ob b) (E8 c H) (owP ow H) ob b:=λb hb=>⟨.inr hb,λhl=>hb.2 (HB.spec h (hlive b hl)).2.2.1⟩
 have hC:∀(v:Value) (d x:C),DO H d x->aW c ow w (BY src c ow f.ob) v x->aW (E8 c H) (owP ow H) w (BY (λb=>(w.heap.size<=b\/HB c ow f H b)\/BY src c ow f.ob b) (E8 c H) (owP ow H) ob) v d:=by
  intro v d x hd hr;cases hd with
  | v=>
   obtain⟨G,g1,g2⟩:=hr;exact⟨G,g1,λb hb=>hok b (g2 b hb)⟩
  | nil=>
   have hr:v= .slice Y 0 0:=hr;subst hr;exact⟨[],.nil (C3 _),by simp⟩
  | row h1=>
   have hr:v=c.rv _:=hr;show v=(E8 c H).rv _;rw[(Qu hn1 h1).2];exact hr
  | ptr h1=>
   have hr:v= .pointer (U ⟨c.loc _,_,Y⟩):=hr;show v= .pointer (U ⟨(E8 c H).loc _,_,Y⟩);rw[(Qu hn1 h1).1];exact hr
 have hCs:∀{vs:List Value} {ds zs:List C},bD (aW c ow w (BY src c ow f.ob)) vs zs->bD (DO H) ds zs->bD (aW (E8 c H) (owP ow H) w (BY (λb=>(w.heap.size<=b\/HB c ow f H b)\/BY src c ow f.ob b) (E8 c H) (owP ow H) ob)) vs ds:=by
  intro vs ds zs hv
  induction hv generalizing ds with
  | nil=>intro hd;cases hd;exact .nil
  | cons h1 h2 ih=>
   intro hd;cases hd with
   | cons k1 k2=>exact .cons (hC _ _ _ k1 h1) (ih k2)
 refine⟨rfl,λs n x hm=> ?_,λp n x' hm=> ?_,λo' n x m y hx hy=> ?_,λq=> ?_⟩
 .obtain⟨j,op,d',y,h1,h2,h3,h4,h5⟩:=ha.mem _ hm;simp only[Dc]at h1;have h4:x= .val d':=h4;subst h1 h4;have hr:dT c ow w (BY src c ow f.ob) (a.eval op) y:=h.get h3;refine⟨a.eval op,by simp[DJ,h2],?_⟩;cases d' with
  | one d'=>
   cases y with
   | one z=>exact hC _ _ _ h5 hr
   | agg _=>cases h5
  | agg ds=>
   cases y with
   | one z=>cases h5
   | agg zs=>
    obtain⟨vs,hvs,hall⟩:=hr;exact⟨vs,hvs,hCs hall h5⟩
 .obtain⟨o,x,h1,h2,h3⟩:=ho _ hm;obtain⟨n',hx⟩:=vE h2;have hob:=h.ob _ _ _ hx;obtain⟨k1,k2⟩:=Qu (c:=c) hn1 h1;cases h3 with
  | @box ds cs hall=>
   obtain⟨b1,b2,vs,ty,b3,b4⟩:=hob;exact⟨by rw[k1];exact .inr ⟨_,h1,n',_,hx,rfl,rfl⟩,by rw[k1];exact bU6 hn2 h1 b2,vs,ty,by rw[k1];exact b3,hCs b4 hall⟩
  | @row e k t l deep=>
   obtain⟨r0,r1,r2,us,G,r3,r4,r5,r6⟩:=hob;refine⟨r0,r1,λg hg=> ?_,us,G,by rw[k2];exact r3,r4,λb hb=>hok b (r5 b hb),λhd=>by cases hd⟩;rw[k2]at hg;exact⟨.inr ⟨_,h1,n',_,hx,rfl,hg⟩,bU6 hn2 h1 (r2 g hg).2⟩
 .have h1:=wB hnd hx;have h2:=wB hnd hy;rw[h1]at h2;injection h2 with h2;injection h2 with _ h2;injection h2
 .show ∃ad n k,(match H.find? λe=>e.1==q with
   | some e=>c.rv e.2
   | none=>c.rv q)=_
  split
  .exact h.rvs _
  .exact h.rvs _
end
section
variable {f:F}
theorem bFt:∀{ids:List Nat} {f:F} {s n:Nat} {x:S},(s,n,x)∈(f.scrubs ids).fr->(s,n,x)∈f.fr/\ ∀i∈ids,x.names i=BW
 | [],f,s,n,x,h=>⟨h,by simp⟩
 | i::ids,f,s,n,x,h=>by
  obtain⟨h1,h2⟩:=bFt (ids:=ids) (f:=f.scrub i) h;have h1:=C2.1 h1;refine⟨h1.1,λj hj=> ?_⟩;rcases Cl.1 hj with rfl | hj
  .simpa using h1.2
  .exact h2 j hj
theorem bD2:∀{ids:List Nat} {f:F} {o n:Nat} {x:O},(o,n,x)∈(f.scrubs ids).ob->o∉ids/\ ∃m y,(o,m,y)∈f.ob/\O.sc x y/\(∀i∈ids,x.names i=BW)/\(y.isSub=BW->x.isSub=BW)
 | [],f,o,n,x,h=>⟨by simp,n,x,h,.refl,by simp,id⟩
 | i::ids,f,o,n,x,h=>by
  obtain⟨h1,m,y,hy,h2,h3,h4⟩:=bD2 (ids:=ids) (f:=f.scrub i) h;obtain⟨hne,m',z,hz,rfl⟩:=fW hy;refine⟨by simp only[Cl,not_or];exact⟨hne,h1⟩,m',z,hz,h2.trans (O.scrub_sc _ z),λj hj=> ?_,λhz'=>h4 (O.scrub_isSub hz')⟩;rcases Cl.1 hj with rfl | hj
  .exact h2.names (O.scrub_names z _)
  .exact h3 j hj
theorem aWi:∀{ids:List Nat} {f:F},f.uniq->(f.scrubs ids).uniq
 | [],f,h=>h
 | i::ids,f,h=>aWi (ids:=ids) (f:=f.scrub i) (by
  intro o n x m y hx hy;obtain⟨_,_,x',hx',rfl⟩:=fW hx;obtain⟨_,_,y',hy',rfl⟩:=fW hy;rw[h _ _ _ _ _ hx' hy'])
theorem Ce.scrubs:∀(ids:List Nat) (f:F),Ce f (f.scrubs ids)
 | [],f=> .refl f
 | i::ids,f=>(Ce.scrub f i).trans (Ce.scrubs ids _)
theorem Ce.less(f:F)(H:List (Nat×Nat)):Ce f (f.less H):=⟨Cz _,λ_ _ _ h _=>h,λ_ _ _ h _=>(C2.1 h).1⟩
theorem Ce.give(f:F)(H:List (Nat×Nat))(d:Nat)(es:List (Nat×Nat×O)):Ce f (f.give H d es):=by
 refine⟨Et _,λ_ _ _ h _=>h,λo n x h hn=> ?_⟩;rcases C0.1 h with h | h
 .obtain⟨e,_,he⟩:=Ch.1 h;injection he with _ he;injection he with he _;omega
 .exact h
end
theorem bFr:∀{l:List (Nat×Nat)},(l.map (·.2)).Nodup-> ∀{x y:Nat×Nat},x∈l->y∈l->x.2=y.2->x=y
 | [],_,_,_,h,_,_=>by cases h
 | e::l,hn,x,y,hx,hy,he=>by
  rw[CA,EW]at hn;obtain⟨n1,n2⟩:=hn;have key:∀z∈l,z.2≠e.2:=λz hz hc=>n1 (hc▸List.mem_map_of_mem hz)
  rcases Cl.1 hx with h1 | h1
  .rcases Cl.1 hy with h2 | h2
   .rw[h1,h2]
   .rw[h1]at he;exact absurd he.symm (key y h2)
  .rcases Cl.1 hy with h2 | h2
   .rw[h2]at he;exact absurd he (key x h1)
   .exact bFr n2 h1 h2 he
theorem aWt{H:List (Nat×Nat)}{d:Nat}{p:F}(h:SX H d p=J):p.fr.map (·.1)=Es p.fr.length/\(p.ob.map (·.1)).Nodup/\(∀e∈p.ob,UB H d (p.ob.map (·.1)) e=J)/\ ∀e∈p.fr,Um (p.ob.map (·.1)) e.2.2=J:=by
 simp only[SX,Ck,beq_iff_eq,Dg]at h;obtain⟨h1,h2,h3,h4⟩:=h;exact⟨h1,kP h2,h3,h4⟩
theorem Oj{H:List (Nat×Nat)}{d:Nat}{ids:List Nat}{e:Nat×Nat×O}(h:UB H d ids e=J):Rf H d e.1=J/\e.2.2.isWin=BW/\ ∀cs,e.2.2= .box cs-> ∀x∈cs,LW ids x=J:=by
 simp only[UB,Ck]at h;obtain⟨h1,h2⟩:=h;obtain⟨i,n,x⟩:=e;cases x with
 | box cs=>exact⟨h1,rfl,λcs' hc x hx=>by cases hc;exact Dg.1 h2 x hx⟩
 | row e k t l deep=>exact⟨h1,rfl,λcs hc=>by cases hc⟩
 | win _ _ _=>cases h2
theorem Ow{H:List (Nat×Nat)}{d q:Nat}(h:pinned q=BW):rho H d q=cZ d+q:=by
 unfold rho;have :H.find? (λe=>pinned e.1&&e.1==q)=Y:=by
  rw[List.find?_eq_none];intro e he hc;simp only[Ck,beq_iff_eq]at hc;rw[hc.2,h]at hc;cases hc.1
 rw[this]
theorem cGj{H:List (Nat×Nat)}{d q:Nat}(h:pinned q=J)(hm:q∈H.map (·.1)):(q,rho H d q)∈H:=by
 obtain⟨e,he,rfl⟩:=Ch.1 hm;unfold rho;cases hf:H.find? λx=>pinned x.1&&x.1==e.1 with
 | none=>
  rw[List.find?_eq_none]at hf;exact absurd (by simp[h]) (hf e he)
 | some z=>
  have h1:=H4 hf;have h2:=Ki hf;simp only[Ck,beq_iff_eq]at h2;show (e.1,z.2)∈H;rw[<- h2.2];exact h1
section
variable {M src:Nat->Prop} {c:Cx} {ow:Nat->Option Nat} {f:F} {a:Act} {w:World}
theorem aW.keepP{ok ok':Nat->Prop}{c:Cx}{ow ow':Nat->Option Nat}{w w':World}{v:Value}{f:F}{H:List (Nat×Nat)}{x:C}(h:aW c ow w ok v x)(hs:x.subOk f H=J)(kp:Ix w w' ok ok')
  (hr:∀r,f.isRow r=J->r∉H.map (·.2)->(∀g,(c.rv r).ownBlock=U g->w'.heap[g]? =w.heap[g]?)/\ ∀b,b<w.heap.size->ow b=U r->w'.heap[b]? =w.heap[b]? /\ow' b=U r):aW c ow' w' ok' v x:=by
 cases x with
 | sub r k i off t y=>
  obtain⟨g,b0,n,cap,h1,h2,G,h3,h4⟩:=h;simp only[C.subOk,Ck,Eu,List.contains_eq_mem,decide_eq_false_iff_not]at hs;obtain⟨k1,k2⟩:=hr r hs.1 hs.2;exact⟨g,b0,n,cap,h1,(World.cell?_of_block (k1 g (by simp[h1,Value.ownBlock]))).trans h2,G,h3.frame λb hb=>(k2 b (h3.lt b hb) (h4 b hb)).1,λb hb=>(k2 b (h3.lt b hb) (h4 b hb)).2⟩
 | ip r k i off m j q=>
  obtain⟨g,b0,n,cap,g2,b2,n2,cap2,h1,h2,h3⟩:=h;simp only[C.subOk,Ck,Eu,List.contains_eq_mem,decide_eq_false_iff_not]at hs;obtain⟨k1,k2⟩:=hr r hs.1 hs.2;exact⟨g,b0,n,cap,g2,b2,n2,cap2,h1,(World.cell?_of_block (k1 g (by simp[h1,Value.ownBlock]))).trans h2,h3⟩
 | _=>exact aW.keep h rfl kp
theorem jL.keepP{ok ok':Nat->Prop}{c:Cx}{ow ow':Nat->Option Nat}{w w':World}{v:Value}{f:F}{H:List (Nat×Nat)}{x:S}(h:jL c ow w ok v x)(hs:x.subOk f H=J)(kp:Ix w w' ok ok')
  (hr:∀r,f.isRow r=J->r∉H.map (·.2)->(∀g,(c.rv r).ownBlock=U g->w'.heap[g]? =w.heap[g]?)/\ ∀b,b<w.heap.size->ow b=U r->w'.heap[b]? =w.heap[b]? /\ow' b=U r):jL c ow' w' ok' v x:=by
 have hA:∀(v:Value) (x:A),dT c ow w ok v x->x.subOk f H=J->dT c ow' w' ok' v x:=λv x h hs=>by
  cases x with
  | one t=>exact aW.keepP h hs kp hr
  | agg ts=>
   simp only[A.subOk,Dg]at hs;obtain⟨vs,hv,ha⟩:=h;exact⟨vs,hv,ha.mono λa b hb hr'=>hr'.keepP (hs b hb) kp hr⟩
 cases x with
 | val x=>exact hA v x h hs
 | tup xs=>
  simp only[S.subOk,Dg]at hs;obtain⟨vs,hv,ha⟩:=h;exact⟨vs,hv,ha.mono λa b hb hr'=>hA a b hr' (hs b hb)⟩
 | un=>exact h
theorem bT5{f:F}{r:Nat}(h:f.isRow r=J):∃e k,∃(t:Ty) (l:List (den t)),∃deep,f.obj r=U (.row e k t l deep):=by
 unfold F.isRow at h;split at h
 .rename_i e k t l deep ho;exact⟨e,k,t,l,deep,ho⟩
 .cases h
theorem bO9(h:aX M src c ow f a w){H:List (Nat×Nat)}(hso:f.subOk H=J)(hown0:∀b,w.heap.size<=b->ow b=Y)(hfresh:∀b,w.heap.size<=b->M b)(hsrc:∀b,M b->src b)(hn1:(H.map (·.1)).Nodup)(hn2:(H.map (·.2)).Nodup){c':Cx}{ow':Nat->Option Nat}{p:F}{a':Act}{w':World}{d:Nat}
  (hp:aX (λb=>w.heap.size<=b\/HB c ow f H b) (λb=>(w.heap.size<=b\/HB c ow f H b)\/BY src c ow f.ob b) c' ow' p a' w') (hbel:qI (λb=>w.heap.size<=b\/HB c ow f H b) w w') (hpin:∀o,pinned o=J->c'.loc o=(E8 c H).loc o/\c'.rv o=(E8 c H).rv o) (hpost:SX H d p=J):
  ∃c'' ow'',aX M src c'' ow'' (((f.scrubs (vG H d p)).less H).give H d p.ob) a w'/\(∀o,pinned o=J->c''.loc o=c.loc o/\c''.rv o=c.rv o)/\
   ∀v x,Rw (p.ob.map (·.1)) x=J->dT c' ow' w' (BY (λb=>(w.heap.size<=b\/HB c ow f H b)\/BY src c ow f.ob b) c' ow' p.ob) v x->dT c'' ow'' w' (BY src c'' ow'' (((f.scrubs (vG H d p)).less H).give H d p.ob).ob) v (YS H d x):=by
 classical
 obtain⟨hp1,hp2,hp3,hp4⟩:=aWt hpost;generalize hgob:(((f.scrubs (vG H d p)).less H).give H d p.ob)=g;have hgfr:g.fr=(f.scrubs (vG H d p)).fr:=by rw[<- hgob];rfl
 have hgo:g.ob=p.ob.map (λe=>(rho H d e.1,((f.scrubs (vG H d p)).less H).ctr,YV H d e.2.2))++((f.scrubs (vG H d p)).less H).ob:=by rw[<- hgob];rfl
 let isN:Nat->Prop:=λo=> ∃e∈p.ob,pinned e.1=BW/\o=cZ d+e.1
 let c'':Cx:=⟨λo=>if isN o then c'.loc (o - cZ d) else c.loc o,λo=>if isN o then c'.rv (o - cZ d) else c.rv o⟩
 let M':Nat->Prop:=λb=>w.heap.size<=b\/HB c ow f H b
 let ow'':Nat->Option Nat:=λb=>if M' b then (p.ob.find? λe=>Z (ow' b=U e.1)).map (λe=>rho H d e.1) else ow b
 have hNpin:∀o,isN o->pinned o=BW:=λo ⟨e,he,h1,h2⟩=>by
  have :=(Oj (hp3 e he)).1;simp only[Rf,h1,zY,Ck,Eu]at this;rw[h2];exact this.1
 have hNbox:∀q∈H,pinned q.1=J-> ¬ isN q.2:=λq hq hpq ⟨e,he,h1,h2⟩=>by
  have :=(Oj (hp3 e he)).1;simp only[Rf,h1,zY,Ck,Eu,Da]at this;exact this.2 q hq (by simp[hpq,h2])
 have hold:∀e∈p.ob,pinned e.1=J->(e.1,rho H d e.1)∈H:=λe he h1=>by
  have :=(Oj (hp3 e he)).1;simp only[Rf,h1,zZ,List.contains_iff_mem]at this;exact cGj h1 this
 have hcO:∀o,¬ isN o->c''.loc o=c.loc o/\c''.rv o=c.rv o:=λo ho=>⟨zS ho,zS ho⟩
 have hcN:∀e∈p.ob,c''.loc (rho H d e.1)=c'.loc e.1/\c''.rv (rho H d e.1)=c'.rv e.1:=λe he=>by
  cases hpe:pinned e.1 with
  | true=>
   have hm:=hold e he hpe;obtain⟨k1,k2⟩:=hcO _ (hNbox _ hm hpe);obtain⟨k3,k4⟩:=hpin e.1 hpe;obtain⟨k5,k6⟩:=Qu (c:=c) hn1 hm;exact⟨by rw[k1,k3,k5],by rw[k2,k4,k6]⟩
  | false=>
   rw[Ow hpe];have :isN (cZ d+e.1):=⟨e,he,hpe,rfl⟩
   have e1:cZ d+e.1 - cZ d=e.1:=by omega
   constructor
   .show (if isN (cZ d+e.1) then c'.loc (cZ d+e.1 - cZ d) else _)=_;rw[zT this,e1]
   .show (if isN (cZ d+e.1) then c'.rv (cZ d+e.1 - cZ d) else _)=_;rw[zT this,e1]
 have hinj:∀e∈p.ob,∀e'∈p.ob,rho H d e.1=rho H d e'.1->e.1=e'.1:=λe he e' he' hr=>by
  cases h1:pinned e.1 with
  | true=>
   have m1:=hold e he h1;cases h2:pinned e'.1 with
   | true=>
    have m2:=hold e' he' h2;rw[hr]at m1;exact (Prod.mk.inj (bFr hn2 m1 m2 rfl)).1
   | false=>
    exact absurd ⟨e',he',h2,by rw[hr,Ow h2]⟩ (hNbox _ m1 h1)
  | false=>
   cases h2:pinned e'.1 with
   | true=>
    have m2:=hold e' he' h2;exact absurd ⟨e,he,h1,by rw[<- hr,Ow h1]⟩ (hNbox _ m2 h2)
   | false=>rw[Ow h1,Ow h2]at hr;omega
 have howN:∀b,M' b-> ∀e∈p.ob,ow' b=U e.1->ow'' b=U (rho H d e.1):=λb hb e he h1=>by
  show (if M' b then _ else _)=_;rw[zT hb];have :p.ob.find? (λe=>Z (ow' b=U e.1))=U e:=by
   rw[h1];have :(λx:Nat×Nat×O=>Z (U e.1=U x.1))=λx=>x.1==e.1:=by
    funext x;rw[Bool.eq_iff_iff];simp only[zR,Option.some.injEq,beq_iff_eq];exact eq_comm
   rw[this];exact wB hp2 he
  rw[this];rfl
 have howO:∀b,¬ M' b->ow'' b=ow b:=λb hb=>zS hb
 have howI:∀b o,ow'' b=U o->(¬ M' b/\ow b=U o)\/(M' b/\ ∃e∈p.ob,o=rho H d e.1):=λb o h1=>by
  by_cases hb:M' b
  .have h1:(if M' b then (p.ob.find? λe=>Z (ow' b=U e.1)).map (λe=>rho H d e.1) else ow b)=U o:=h1;rw[zT hb]at h1;obtain⟨e,he,h2⟩:=CX.1 h1;exact .inr ⟨hb,e,H4 he,h2.symm⟩
  .rw[howO b hb]at h1;exact .inl ⟨hb,h1⟩
 have hf2:∀o n x,(o,n,x)∈((f.scrubs (vG H d p)).less H).ob-> ¬ isN o/\o∉H.map (·.2)/\ ∃m y,(o,m,y)∈f.ob/\O.sc x y/\(∀i,isN i->x.names i=BW)/\(y.isSub=BW->x.isSub=BW):=by
  intro o n x hm;obtain⟨hm1,hm2⟩:=C2.1 hm;obtain⟨k1,m,y,k2,k3,k4,k5⟩:=bD2 hm1;simp only[vG,C0,not_or]at k1;refine⟨?_,?_,m,y,k2,k3,?_,k5⟩
  .rintro⟨e,he,h1,h2⟩
   exact k1.2 (Ch.2 ⟨e,C2.2 ⟨he,by simp[h1]⟩,h2.symm⟩)
  .intro hc;obtain⟨q,hq,h1⟩:=Ch.1 hc;cases hpq:pinned q.1 with
   | true=>
    simp only[Eu,Da]at hm2;exact hm2 q hq (by simp[hpq,h1])
   | false=>exact k1.1 (Ch.2 ⟨q,C2.2 ⟨hq,by simp[hpq]⟩,h1⟩)
  .rintro i ⟨e,he,h1,h2⟩
   exact k4 i (by simp only[vG,C0];exact .inr (Ch.2 ⟨e,C2.2 ⟨he,by simp[h1]⟩,h2.symm⟩))
 have hdis:∀o n x,(o,n,x)∈((f.scrubs (vG H d p)).less H).ob-> ∀e∈p.ob,o≠rho H d e.1:=λo n x hm e he hc=>by
  obtain⟨k1,k2,_⟩:=hf2 o n x hm;cases hpe:pinned e.1 with
  | true=>exact k2 (Ch.2 ⟨_,hold e he hpe,hc.symm⟩)
  | false=>exact k1 ⟨e,he,hpe,by rw[hc,Ow hpe]⟩
 have hHB:∀b o,HB c ow f H b->ow b=U o->o∈H.map (·.2):=λb o hb ho=>by
  obtain⟨_,_,_,e,he,h1⟩:=hb.spec h;rw[ho]at h1;injection h1 with h1;exact Ch.2 ⟨e,he,h1.symm⟩
 have hM'M:∀b,M' b->M b:=λb hb=>by
  rcases hb with hb | hb
  .exact hfresh b hb
  .exact (hb.spec h).2.1
 have hpblk:∀e∈p.ob,∀b,(YV H d e.2.2).blk c'' ow'' (rho H d e.1) b->M' b/\live c' ow' p.ob b:=λe he b hb=>by
  obtain⟨i,n,x⟩:=e;obtain⟨k1,k2⟩:=hcN _ he;have hob:=hp.ob _ _ _ he;cases x with
  | box cs=>
   have hb:c''.loc (rho H d i)=b:=hb;rw[k1]at hb;exact⟨hb▸hob.1,⟨_,_,_,he,hb⟩⟩
  | row e' k t l deep=>
   have hb:(c''.rv (rho H d i)).ownBlock=U b:=hb;rw[k2]at hb;exact⟨(hob.2.2.1 b hb).1,⟨_,_,_,he,hb⟩⟩
  | win _ _ _=>have :=(Oj (hp3 _ he)).2.1;cases this
 have hfblk:∀o n x,(o,n,x)∈((f.scrubs (vG H d p)).less H).ob-> ∀b,x.blk c'' ow'' o b-> ¬ M' b/\b<w.heap.size/\live c ow f.ob b:=λo n x hm b hb=>by
  obtain⟨k1,k2,m,y,k3,k4,_,_⟩:=hf2 o n x hm;have hyb:=k4.le.blk hb;have hob:=h.ob _ _ _ k3;obtain⟨q1,q2⟩:=hcO o k1;have key:y.blk c ow o b->ow b=U o:=λhy=>hob.own hy
  have hfin:y.blk c ow o b-> ¬ M' b/\b<w.heap.size/\live c ow f.ob b:=λhy=>by
   have ho:=key hy;have hlt:b<w.heap.size:=by
    rcases Nat.lt_or_ge b w.heap.size with h1 | h1
    .exact h1
    .rw[hown0 b h1]at ho;cases ho
   refine⟨λhm'=> ?_,hlt,⟨_,_,_,k3,hy⟩⟩;rcases hm' with h1 | h1
   .omega
   .exact k2 (hHB b o h1 ho)
  cases y with
  | box cs=>exact hfin (by have hyb:c''.loc o=b:=hyb;rw[q1]at hyb;exact hyb)
  | row e' k t l deep=>exact hfin (by have hyb:(c''.rv o).ownBlock=U b:=hyb;rw[q2]at hyb;exact hyb)
  | win k t l=>
   have hyb:ow'' b=U o:=hyb;rcases howI b o hyb with ⟨_,h2⟩ | ⟨_,e,he,h2⟩
   .exact hfin h2
   .exact absurd h2 (hdis o n x hm e he)
 have hlv:∀b,live c'' ow'' g.ob b->(¬ M' b/\b<w.heap.size/\live c ow f.ob b)\/(M' b/\live c' ow' p.ob b):=by
  rintro b ⟨o,n,x,hm,hx⟩
  rw[hgo]at hm;rcases C0.1 hm with hm | hm
  .obtain⟨e,he,h1⟩:=Ch.1 hm;injection h1 with e1 h1;injection h1 with _ e2;subst e1 e2;exact .inr (hpblk e he b hx)
  .exact .inl (hfblk o n x hm b hx)
 have hokO:∀b,b<w.heap.size->BY src c ow f.ob b->BY src c'' ow'' g.ob b:=λb hlt hok=>⟨hok.1,λhl=>by
  rcases hlv b hl with ⟨_,_,h1⟩ | ⟨h1,_⟩
  .exact hok.2 h1
  .rcases h1 with h1 | h1
   .omega
   .exact hok.2 (h1.spec h).2.2.1⟩
 have hokN:∀b,BY (λb=>(w.heap.size<=b\/HB c ow f H b)\/BY src c ow f.ob b) c' ow' p.ob b->BY src c'' ow'' g.ob b:=λb hok=>by
  refine⟨?_,λhl=> ?_⟩
  .rcases hok.1 with h1 | h1
   .exact hsrc b (hM'M b h1)
   .exact h1.1
  .rcases hlv b hl with ⟨h1,_,h2⟩ | ⟨_,h2⟩
   .rcases hok.1 with h3 | h3
    .exact h1 h3
    .exact h3.2 h2
   .exact hok.2 h2
 have hblk:∀b,b<w.heap.size-> ¬ M' b->w'.heap[b]? =w.heap[b]? :=λb hlt hb=>hbel.block b hlt hb
 have kp:Ix w w' (BY src c ow f.ob) (BY src c'' ow'' g.ob):=⟨hbel.size,λb hlt hok=>hblk b hlt λhm=>by
  rcases hm with h1 | h1
  .omega
  .exact hok.2 (h1.spec h).2.2.1,hokO⟩
 have hC:∀(v:Value) (x:C),LW (p.ob.map (·.1)) x=J->aW c' ow' w' (BY (λb=>(w.heap.size<=b\/HB c ow f H b)\/BY src c ow f.ob b) c' ow' p.ob) v x->aW c'' ow'' w' (BY src c'' ow'' g.ob) v (Rt H d x):=by
  intro v x hx hr;cases x with
  | v t y=>
   obtain⟨G,g1,g2⟩:=hr;exact⟨G,g1,λb hb=>hokN b (g2 b hb)⟩
  | nil=>exact hr
  | row r=>
   have hx:r∈p.ob.map (·.1):=by simpa [LW] using hx
   obtain⟨e,he,rfl⟩:=Ch.1 hx;have hr:v=c'.rv e.1:=hr;show v=c''.rv (rho H d e.1);rw[(hcN e he).2];exact hr
  | ptr o off=>
   have hx:o∈p.ob.map (·.1):=by simpa [LW] using hx
   obtain⟨e,he,rfl⟩:=Ch.1 hx;have hr:v= .pointer (U ⟨c'.loc e.1,off,Y⟩):=hr;show v= .pointer (U ⟨c''.loc (rho H d e.1),off,Y⟩);rw[(hcN e he).1];exact hr
  | any=>trivial
  | _=>cases hx
 have hCs:∀{us:List Value} {zs:List C},bD (aW c' ow' w' (BY (λb=>(w.heap.size<=b\/HB c ow f H b)\/BY src c ow f.ob b) c' ow' p.ob)) us zs->(∀z∈zs,LW (p.ob.map (·.1)) z=J)->bD (aW c'' ow'' w' (BY src c'' ow'' g.ob)) us (zs.map (Rt H d)):=λhu hz=>hu.map_right2 λu z hm hr=>hC u z (hz z hm) hr
 refine⟨c'',ow'',⟨h.defers,λs n x hm=> ?_,λo n x hm=> ?_,λo n x m y hx hy=> ?_,λr=> ?_⟩,λo ho=>hcO o λhN=>(by rw[hNpin o hN]at ho;cases ho),λv x hx hr=> ?_⟩
 .rw[hgfr]at hm;obtain⟨h1,h2⟩:=bFt hm;obtain⟨v,hv,h3⟩:=h.fr s n x h1;have hxs:x.subOk f H=J:=by
   simp only[F.subOk,Ck,Dg]at hso;exact hso.1 _ h1
  refine⟨v,hv,(h3.keepP hxs kp λr hr hnH=> ?_).agree λo ho=>hcO o ?_⟩
  .obtain⟨e,k,t,l,deep,hob⟩:=bT5 hr;have hrow:JA M c ow w (BY src c ow f.ob) r e k t l deep:=h.obj hob;have hnM:∀b,b<w.heap.size->ow b=U r-> ¬ M' b:=λb hlt ho hm=>by
    rcases hm with h3 | h3
    .omega
    .exact hnH (hHB b r h3 ho)
   refine⟨λg hg=> ?_,λb hlt ho=>⟨hblk b hlt (hnM b hlt ho),by rw[howO b (hnM b hlt ho)];exact ho⟩⟩;have ho:=(hrow.2.2.1 g hg).2;have hlt:g<w.heap.size:=by
    rcases Nat.lt_or_ge g w.heap.size with h4 | h4
    .exact h4
    .rw[hown0 g h4]at ho;cases ho
   exact hblk g hlt (hnM g hlt ho)
  rintro⟨e,he,h4,h5⟩
  have :=h2 o (by simp only[vG,C0];exact .inr (Ch.2 ⟨e,C2.2 ⟨he,by simp[h4]⟩,h5.symm⟩));rw[ho]at this;cases this
 .rw[hgo]at hm;rcases C0.1 hm with hm | hm
  .obtain⟨e,he,h1⟩:=Ch.1 hm;injection h1 with e1 h1;injection h1 with _ e2;subst e1 e2;obtain⟨i,n',x⟩:=e;obtain⟨k1,k2⟩:=hcN _ he;have hob:=hp.ob _ _ _ he;cases x with
   | box cs=>
    obtain⟨b1,b2,vs,ty,b3,b4⟩:=hob;exact⟨by rw[k1];exact hM'M _ b1,by rw[k1];exact howN _ b1 _ he b2,vs,ty,by rw[k1];exact b3,hCs b4 ((Oj (hp3 _ he)).2.2 cs rfl)⟩
   | row e' k t l deep=>
    obtain⟨r0,r1,r2,us,G,r3,r4,r5,r6⟩:=hob;refine⟨r0,r1,λq hq=> ?_,us,G,by rw[k2];exact r3,r4,λb hb=>hokN b (r5 b hb),λhd=> ?_⟩
    .rw[k2]at hq;obtain⟨q1,q2⟩:=r2 q hq;exact⟨hM'M _ q1,howN _ q1 _ he q2⟩
    .obtain⟨n1,n2⟩:=r6 hd;refine⟨n1,λb hb=> ?_⟩;obtain⟨q1,q2,q3,q4⟩:=n2 b hb;exact⟨hM'M _ q1,howN _ q1 _ he q2,by rw[k2];exact q3,q4⟩
   | win _ _ _=>have :=(Oj (hp3 _ he)).2.1;cases this
  .obtain⟨hnN,hnH,m,y,hy,hsc,hnm,hsub⟩:=hf2 o n x hm;have h1:=(h.ob o m y hy).le h.rvs hsc.le;have hs1:=hsub (by
    simp only[F.subOk,Ck,Dg]at hso;simpa using hso.2 _ hy)
   have h2:yT M c'' ow w (BY src c ow f.ob) o x:=by
    obtain⟨k1,k2⟩:=hcO o hnN;cases x with
    | box cs=>
     obtain⟨b1,b2,vs,ty,b3,b4⟩:=h1;refine⟨by rw[k1];exact b1,by rw[k1];exact b2,vs,ty,by rw[k1];exact b3,b4.mono λu z hz hr=>hr.agree λq hq=>hcO q λhN=> ?_⟩;have :=hnm q hN;simp only[O.names,Da]at this;exact this z hz hq
    | row e k t l deep=>
     obtain⟨r0,r1,r2,xs,G,r3,r4,r5,r6⟩:=h1;exact⟨r0,r1,by rw[k2];exact r2,xs,G,by rw[k2];exact r3,r4,r5,by rw[k2];exact r6⟩
    | win k t l=>
     obtain⟨r0,r1,G,r2,r3,r4⟩:=h1;exact⟨r0,r1,G,by rw[k2];exact r2,r3,r4⟩
   have hnM:∀b,b<w.heap.size->ow b=U o-> ¬ M' b:=λb hlt ho hm=>by
    rcases hm with h3 | h3
    .omega
    .exact hnH (hHB b o h3 ho)
   exact h2.keep hs1 kp (λb hlt h3 _=>hblk b hlt (hnM b hlt h3)) (λb hlt h3=>by rw[howO b (hnM b hlt h3)];exact h3)
 .rw[hgo]at hx hy;rcases C0.1 hx with hx | hx
  .obtain⟨e,he,h1⟩:=Ch.1 hx;injection h1 with e1 h1;injection h1 with _ e2;rcases C0.1 hy with hy | hy
   .obtain⟨e',he',h2⟩:=Ch.1 hy;injection h2 with e3 h2;injection h2 with _ e4;have hid:=hinj e he e' he' (e1.trans e3.symm);have h5:=hp.uniq e.1 e.2.1 e.2.2 e'.2.1 e'.2.2 he (by rw[hid];exact he');rw[<- e2,<- e4,h5]
   .exact absurd e1.symm (hdis o _ _ hy e he)
  .rcases C0.1 hy with hy | hy
   .obtain⟨e',he',h2⟩:=Ch.1 hy;injection h2 with e3 h2;exact absurd e3.symm (hdis o _ _ hx e' he')
   .exact aWi (ids:=vG H d p) h.uniq _ _ _ _ _ (C2.1 hx).1 (C2.1 hy).1
 .show ∃ad n k,(if isN r then c'.rv (r - cZ d) else c.rv r)= .slice ad n k;split
  .exact hp.rvs _
  .exact h.rvs r
 .cases x with
  | one y=>exact hC v y hx hr
  | agg ys=>
   obtain⟨vs,rfl,ha⟩:=hr;simp only[Rw,Dg]at hx;exact⟨vs,rfl,hCs ha hx⟩
theorem bJs{M' src':Nat->Prop}{c':Cx}{ow':Nat->Option Nat}{p:F}{us:List Value}{ids:List Nat}(hp:aX M' src' c' ow' p (DJ us) w)(hlen:us.length=p.fr.length)(h1:p.fr.map (·.1)=Es p.fr.length)(h2:∀e∈p.fr,Um ids e.2.2=J):bD (dT c' ow' w (BY src' c' ow' p.ob)) us (Ey p.fr)/\ ∀x∈Ey p.fr,Rw ids x=J:=by
 have key:∀(es:List (Nat×Nat×S)) (k:Nat),(∀e∈es,e∈p.fr)->es.map (·.1)=List.range' k es.length->(∀e∈es,Um ids e.2.2=J)->k+es.length=us.length->bD (dT c' ow' w (BY src' c' ow' p.ob)) (us.drop k) (Ey es)/\ ∀x∈Ey es,Rw ids x=J:=by
  intro es
  induction es with
  | nil=>
   intro k _ _ _ hk;have :us.drop k=[]:=Mm (by simp at hk;omega);rw[this];exact⟨.nil,by simp[Ey]⟩
  | cons e es ih=>
   intro k hm hr ho hk;obtain⟨s,n,x⟩:=e;simp only[CA,C6,List.range'_succ,GH.injEq]at hr;obtain⟨rfl,hr⟩:=hr;have hox:=ho (s,n,x) (CC ..);cases x with
   | val y=>
    obtain⟨i1,i2⟩:=ih (s+1) (λe he=>hm e (C1 _ he)) hr (λe he=>ho e (C1 _ he)) (by simp at hk;omega);obtain⟨v,hv,hrel⟩:=hp.fr s n _ (hm _ (CC ..));have hv':us[s]? =U v:=by simpa [DJ] using hv
    have hlt:s<us.length:=(Cu.1 hv').1;rw[cRo hlt];have he:us[s]=v:=(Cu.1 hv').2;rw[he];refine⟨.cons hrel i1,λz hz=> ?_⟩;rcases Cl.1 hz with rfl | hz
    .exact hox
    .exact i2 z hz
   | tup _=>cases hox
   | un=>cases hox
 have :=key p.fr 0 (λe he=>he) (by rw[h1,List.range_eq_range']) h2 (by omega);simpa using this
end
section
variable {X:Dn} {E:List Con} {f:F} {a:Act} {w:World} {o:Oper} {R:Type} {K:F->Option R} {r:R}
theorem bK7{op:Op}{cl:Call}(h:op= .call cl)(hn:E1 op=BW):vD op=Y:=by
 subst h;simp only[E1,vD]at hn ⊢;split at hn
 .cases hn
 .rename_i hne;split
  .rename_i x y h1 h2;exact absurd h1 (by simpa using hne)
  .rfl
theorem bKx(h:At X f a w){c:Con}(hc:c.Ok X.P){cl:Call}(hop:o.op= .call cl){os:List Operand}(hnb:E1 o.op=BW)(hexec:Q1 X.P c.f-> ∀w,(execOp a.eval o).run X.P w= .ok (.enter c.f (os.map a.eval).toArray) w)(hd:kQ X.n o.dst=J)(hwr:c.pre.ob.isEmpty=BW->ED E o.op=J)(hv:W9 c f o.dst os K=U r):DF X E o a w f K r:=by
 unfold W9 at hv;split at hv
 .rename_i tvs ps hargs;split at hv
  .rename_i tws H hobs;split at hv
   .rename_i hcond;obtain⟨hc1,hc2,hc3,hc4,hso⟩:=hcond;have hc1:=kP hc1;have hc2:=kP hc2;have hc3:=kP hc3;obtain⟨x0,hx0,hv⟩:=dV hv;obtain⟨p0,hp0,hv⟩:=dV hv;obtain⟨y0,hy0,hv⟩:=bind_some hv;obtain⟨p,hp,hv⟩:=dV hv;rcases bE hv with ⟨hpost,hv⟩ | ⟨_,hv⟩
    .refine⟨_,hv,(((Ce.scrubs _ f).trans (Ce.less _ H)).trans (Ce.give _ H _ p.ob)).trans (Ce.put _ _ _),λKp Q hK=> ?_⟩;obtain⟨⟨cx,ow0,hs0,hpin⟩,hb,hn⟩:=id h;have hs:=hs0.trim;generalize hows:(λb=>if b<w.heap.size then ow0 b else Y)=ow at hs;have hown:∀b,w.heap.size<=b->ow b=Y:=λb hb'=>by rw[<- hows];exact zS (by omega)
     obtain⟨g1,g2⟩:=Vc hobs;obtain⟨ob,hob,hobid,hobH⟩:=g2 [];obtain⟨fr,hfr,hargR⟩:=aTk hargs tws;have hp0':p0=⟨1,fr,ob⟩:=by
      unfold F.inj at hp0;rw[Qf hx0,hfr]at hp0;simp only at hp0;rw[CU]at hob;rw[hob]at hp0;injection hp0 with hp0;exact hp0.symm
     subst hp0';obtain⟨hent,hmeet⟩:=hc x0 y0 _ p hy0 (by assumption) hp;have hfresh:∀b,w.heap.size<=b->X.M b:=λb hb'=>X.hM b (B5 hb.size hb')
     have hsim0:=bXx hs hown hc1 hc2 (hargR.mono g1) (ob:=ob) (by rw[hobid];exact hc3) hobH;have hcall:=hmeet w _ _ _ _ (os.map a.eval) (λb hb'=> .inl hb') (λb hb'=> .inl hb') hsim0 (by simp[hargR.length]);unfold Oper.wp;rw[hexec hent w];simp only[Oper.upon];refine hcall.mono λe w1 he=> ?_
     obtain⟨v,us,c1,ow1,rfl,hres,hbel,hsim,hlen,hpin1⟩:=he;obtain⟨c'',ow'',hsim'',hpin'',hrel⟩:=bO9 hs hso hown hfresh X.hsrc hc1 hc2 hsim hbel hpin1 hpost;obtain⟨q1,q2,q3,q4⟩:=aWt hpost;obtain⟨r1,r2⟩:=bJs hsim hlen q1 q4;have hblk:∀b,b<w.heap.size-> ¬ X.M b->w1.heap[b]? =w.heap[b]? :=λb hlt hb'=>hbel.block b hlt λhm=>by
      rcases hm with hm | hm
      .omega
      .exact hb' (hm.spec hs).2.1
     have hpins:Gy X c'':=λo' ho'=>⟨(hpin'' o' ho').1.trans (hpin o' ho').1,(hpin'' o' ho').2.trans (hpin o' ho').2⟩
     have hat:At X (((f.scrubs (vG H (o.dst.getD 9000) p)).less H).give H (o.dst.getD 9000) p.ob) a w1:=⟨⟨c'',ow'',hsim'',hpins⟩,hb.trans ⟨hbel.os,hbel.tape,hbel.output,hbel.size,hblk⟩,hn⟩
     have hall:=r1.map_right2 (S:=dT c'' ow'' w1 (BY X.src c'' ow'' (((f.scrubs (vG H (o.dst.getD 9000) p)).less H).give H (o.dst.getD 9000) p.ob).ob)) (g:=YS H (o.dst.getD 9000)) λu x hx hr=>hrel u x (r2 x hx) hr
     refine hK _ _ (hat.put hsim'' hpins hd (Wy hres hall)) ⟨λhw=> ?_,⟨v,rfl,(λha=>by rw[hop]at ha;cases ha),λha=>by rw[hnb]at ha;cases ha⟩,(λx hx=>by rw[bK7 hop hnb]at hx;cases hx),hbel.size⟩;cases hpe:c.pre.ob.isEmpty with
     | false=>rw[hwr hpe]at hw;cases hw
     | true=>
      have hHe:=hc4 hpe;intro b hlt;refine hbel.block b hlt λhm=> ?_
      rcases hm with hm | ⟨e,he,_⟩
      .omega
      .rw[List.isEmpty_iff.1 hHe]at he;cases he
    .cases hv
   .cases hv
  .cases hv
 .cases hv
theorem At.subsFor(h:At X f a w)(xs:List Operand):At X (f.subsFor xs) a w:=by
 obtain⟨⟨c,ow,hs,hpin⟩,hb,hn⟩:=h;refine⟨⟨c,ow,?_,hpin⟩,hb,hn⟩;refine hs.weak (λs n x hm=>⟨n,(C2.1 hm).1⟩) (λo n x hm=> ?_) (λo n x m y hx hy=> ?_)
 .obtain⟨m,y,hy,rfl⟩:=M0 (f:=f) hm;exact⟨m,y,hy,O.noSub_le y⟩
 .obtain⟨_,x',hx',rfl⟩:=M0 (f:=f) hx;obtain⟨_,y',hy',rfl⟩:=M0 (f:=f) hy;rw[hs.uniq _ _ _ _ _ hx' hy']
theorem Ce.subsFor(f:F)(xs:List Operand):Ce f (f.subsFor xs):=
 ⟨Et _,λs n x hm _=>(C2.1 hm).1,(Ce.noSubs f).ob⟩
theorem bAb(h:At X f a w){c:Con}(hc:c.Ok X.P){cl:Call}(hop:o.op= .call cl){os:List Operand}(hnb:E1 o.op=BW)(hexec:Q1 X.P c.f-> ∀w,(execOp a.eval o).run X.P w= .ok (.enter c.f (os.map a.eval).toArray) w)(hd:kQ X.n o.dst=J)(hwr:c.pre.ob.isEmpty=BW->ED E o.op=J)(hv:SE c f o.dst os K=U r):DF X E o a w f K r:=by
 unfold SE at hv;obtain⟨g,hg,hv⟩:=dV hv;obtain⟨h1,h2⟩:=V5 (X:=X) hg;have hat:=(h2 a w (h.frzAll _)).subsFor os;exact (bKx hat hc hop hnb hexec hd hwr hv).ext (((Ce.frzAll _ _).trans h1).trans (Ce.subsFor g os))
theorem cJs(E:List Con)(d:Option Nat)(c:Con):(c.raw E d).f=c.f/\(c.raw E d).pre=c.pre/\ ∀P,c.Ok P->(c.raw E d).Ok P:=by
 cases d with
 | none=>exact⟨rfl,rfl,λ_ h=>h⟩
 | some d=>
  show (cond (Fc E (1100000000+d)).isSome {c with win:=BW} c).f=c.f/\(cond (Fc E (1100000000+d)).isSome {c with win:=BW} c).pre=c.pre/\ ∀P,c.Ok P->(cond (Fc E (1100000000+d)).isSome {c with win:=BW} c).Ok P;cases (Fc E (1100000000+d)).isSome with
  | true=>exact⟨rfl,rfl,λ_ h=>h⟩
  | false=>exact⟨rfl,rfl,λ_ h=>h⟩
theorem Vm(P:Program)(d:Nat):(cFs d).Ok P:=λx y f g h=>by cases h
theorem bTn(h:At X f a w)(hE:∀c∈E,c.Ok X.P){cl:Call}(hop:o.op= .call cl)(hd:kQ X.n o.dst=J)(hv:X9 E f o.dst cl K=U r):DF X E o a w f K r:=by
 unfold X9 at hv;split at hv
 .rename_i g hcal;split at hv
  .rename_i c hcon';obtain⟨c0,hcon,hraw⟩:=CX.1 hcon';obtain⟨hmem,rfl⟩:=bA9 hcon;obtain⟨rw1,rw2,rw3⟩:=cJs E o.dst c0;rw[hraw]at rw1 rw2 rw3;have hcal:cl.callee= .value (.func c.f):=by rw[rw1];exact hcal
   have hwr:c.pre.ob.isEmpty=BW->ED E o.op=J:=λhb=>by
    rw[hop];simp only[ED,hcal];rw[rw1,hcon];rw[rw2]at hb;simp only[hb];rfl
   have hE':c.Ok X.P:=rw3 X.P (hE c0 hmem);rcases bE hv with ⟨_,hv⟩ | ⟨_,hv⟩
   .exact (bAb h hE' hop (os:=cl.args.toList) (by rw[hop];simp[E1,hcal]) (λhent w=>by
     rw[VK hop hcal hent w];congr 2;rw[<- Kj,Array.toArray_toList]) hd hwr hv)
   split at hv
   .rename_i hob;split at hv
    .exact (aY2 (h.noSubs.frzAll _) (PH (qE f) _) hE' hob hop hcal hd hv).ext ((Ce.noSubs f).trans (Ce.frzAll _ _))
    .exact (aY2 h.noSubs (qE f) hE' hob hop hcal hd hv).ext (Ce.noSubs f)
   .rename_i hob;exact bPw h hE' hop hcal hd (by
     refine hwr ?_;cases hb:c.pre.ob with
     | nil=>exact absurd hb hob
     | cons _ _=>rfl) hv
  .cases hv
 .rename_i x hnf hcal;split at hv
  .rename_i g b hx;split at hv
   .rename_i c s hcon hslot;obtain⟨hmem,rfl⟩:=bA9 hcon;rcases bE hv with ⟨_,hv⟩ | ⟨_,hv⟩
    .obtain⟨⟨cx,ow,hs,_⟩,_,_⟩:=id h;have hv1:a.eval x= .func (.func c.f) #[] #[.pointer (U ⟨cx.loc b,0,Y⟩)]:=hs.getC hx;have hv2:a.eval (.tmp s)= .pointer (U ⟨cx.loc b,0,Y⟩):=by
      unfold bMt at hslot;obtain⟨e,he,hes⟩:=CX.1 hslot;obtain⟨s',n',S'⟩:=e;have hes:s'=s:=hes;subst hes;have hp:=Ki he;obtain⟨v,hv',hrel⟩:=hs.fr _ _ _ (H4 he);have hva:a.eval (.tmp s')=v:=by simp[Act.eval,ZE,hv']
      rw[hva];simp only[S.isPtr]at hp;split at hp
      .rename_i o' off;simp only[Ck,beq_iff_eq]at hp;obtain⟨rfl,rfl⟩:=hp;exact hrel
      .cases hp
     refine (bAb h (hE c hmem) hop (os:=cl.args.toList++[.tmp s]) ?_ (λhent w=> ?_) hd (λ_=> ?_) hv)
     .rw[hop];simp[E1,hcal]
     .have h1:=hent (cl.args.map a.eval++ #[.pointer (U ⟨cx.loc b,0,Y⟩)]) w;have harr:((cl.args.toList++[Operand.tmp s]).map a.eval).toArray=cl.args.map a.eval++ #[Value.pointer (U ⟨cx.loc b,0,Y⟩)]:=by
       apply Array.ext';simp[hv2]
      rw[harr];simp only[execOp,hop,resolve,hcal,hv1,Sem.run_bind];simp[Deferred.ofValue,invoke];simpa using h1
     .rw[hop];simp only[ED,hcal];cases x<;>first | rfl | exact absurd rfl (hnf _)
    .cases hv
   .cases hv
  .cases hv
 .cases hv
theorem bYy(h:At X f a w)(hE:∀c∈E,c.Ok X.P)(hd:kQ X.n o.dst=J)(hv:Nh X.P E f o K=U r):DF X E o a w f K r:=by
 unfold Nh at hv;rcases bE hv with ⟨_,hv⟩ | ⟨_,hv⟩
 .obtain⟨hval,g,v,hk,he,hg,hat⟩:=bI7 h hd hv;refine⟨g,hk,he,λKp Q hK=> ?_⟩;unfold Oper.wp;rw[hg w (λ_ _ _=>rfl)];exact hK _ _ hat ⟨λ_ _ _=>rfl,⟨v,rfl,(λha=>by rw[NE hval]at ha;cases ha),λha=>by rw[NI hval]at ha;cases ha⟩,(λx hx=>by rw[PV hval]at hx;cases hx),Cz _⟩
 rcases bE hv with ⟨_,hv⟩ | ⟨_,hv⟩
 .obtain⟨hval,g,v,hk,he,hg,hat⟩:=aWf h hd hv;refine⟨g,hk,he,λKp Q hK=> ?_⟩;unfold Oper.wp;rw[hg w (λ_ _ _=>rfl)];exact hK _ _ hat ⟨λ_ _ _=>rfl,⟨v,rfl,(λha=>by rw[NE hval]at ha;cases ha),λha=>by rw[NI hval]at ha;cases ha⟩,(λx hx=>by rw[PV hval]at hx;cases hx),Cz _⟩
 rcases bE hv with ⟨_,hv⟩ | ⟨_,hv⟩
 .obtain⟨hval,g,v,hk,he,hg,hat⟩:=aY1 h hd hv;refine⟨g,hk,he,λKp Q hK=> ?_⟩;unfold Oper.wp;rw[hg w (λ_ _ _=>rfl)];exact hK _ _ hat ⟨λ_ _ _=>rfl,⟨v,rfl,(λha=>by rw[NE hval]at ha;cases ha),λha=>by rw[NI hval]at ha;cases ha⟩,(λx hx=>by rw[PV hval]at hx;cases hx),Cz _⟩
 rcases bE hv with ⟨hval,hv⟩ | ⟨_,hv⟩
 .have h:=h.preF o.op;obtain⟨⟨cx,ow,hs,hpin⟩,hb,hn⟩:=id h;obtain⟨s,⟨v,hrel,hg⟩,hk⟩:=aWm hs hv;refine⟨_,hk,(Ce.preF f o.op).trans (Ce.put _ _ _),λKp Q hK=> ?_⟩;unfold Oper.wp;rw[hg w (λ_ _ _=>rfl)];exact hK _ _ (h.put hs hpin hd hrel) ⟨λ_ _ _=>rfl,⟨v,rfl,(λha=>by rw[NE hval]at ha;cases ha),λha=>by rw[NI hval]at ha;cases ha⟩,(λx hx=>by rw[PV hval]at hx;cases hx),Cz _⟩
 .split at hv
  .rename_i cl hop;split at hv
   .rcases bE hv with ⟨_,hv⟩ | ⟨_,hv⟩
    .exact bUh h hd hop hv
    .exact (Va h.noSubs (qE f) hd hv).ext (Ce.noSubs f)
   .exact bTn h hE hop hd hv
  .rename_i t p x hop;rcases bE hv with ⟨_,hv⟩ | ⟨_,hv⟩
   .split at hv
    .rename_i hdst;exact bKh h hop hdst hv
    .cases hv
   .rw[<- hop]at hv;exact (Va h.noSubs (qE f) hd hv).ext (Ce.noSubs f)
  .exact (Va h.noSubs (qE f) hd hv).ext (Ce.noSubs f)
end
end Go.V
set_option linter.unusedVariables false
set_option linter.unusedSectionVars false
namespace Go.V
open Go.Ab Go.RowKit
def C.imp(x' x:C):Prop:= ∀(c:Cx) (ow:Nat->Option Nat) (w:World) (ok:Nat->Prop) (v:Value),(∀r,∃ad n k,c.rv r= .slice ad n k)->aW c ow w ok v x->aW c ow w ok v x'
def S.imp(x' x:S):Prop:= ∀(c:Cx) (ow:Nat->Option Nat) (w:World) (ok:Nat->Prop) (v:Value),(∀r,∃ad n k,c.rv r= .slice ad n k)->jL c ow w ok v x->jL c ow w ok v x'
theorem bSl{w:World}{vs:List Value}{ts:List T}{G:List Nat}(h:RepL w vs ts G)(hs:∀t∈ts,∃v,t= .lit v):G=[]:=by
 refine RepL.rec (motive_1:=λ_ t G _=>(∃v,t= .lit v)->G=[]) (motive_2:=λ_ ts G _=>(∀t∈ts,∃v,t= .lit v)->G=[]) ?_ ?_ ?_ ?_ ?_ h hs
 .exact λ_ _=>rfl
 .rintro _ _ _ ⟨v,hv⟩;cases hv
 .rintro _ _ _ _ _ _ _ _ _ _ _ _ _ _ _ _ _ _ ⟨v,hv⟩;cases hv
 .exact λ_=>rfl
 .intro v t F vs ts G _ _ i1 i2 hs;rw[i1 (hs t (CC ..)),i2 λt ht=>hs t (C1 _ ht),CH]
theorem Vz:∀{t:Ty},flat t=J-> ∀(x:den t),∀u∈cells t x,∃v,u= .lit v
 | .int _,_,_,u,hu=>by simp only[cells,Cy]at hu;subst hu;exact⟨_,rfl⟩
 | .bool,_,_,u,hu=>by simp only[cells,Cy]at hu;subst hu;exact⟨_,rfl⟩
 | .str,_,_,u,hu=>by simp only[cells,Cy]at hu;subst hu;exact⟨_,rfl⟩
 | .sl _,h,_,_,_=>by cases h
 | .pair a b,h,x,u,hu=>by
  simp only[flat,Ck]at h;simp only[cells,C0]at hu;exact hu.elim (Vz h.1 x.1 u) (Vz h.2 x.2 u)
theorem bSb{w:World}{t:Ty}{l:List (den t)}{vs:List Value}{G:List Nat}(hf:flat t=J)(h:RepL w vs (l.map (cells t)).flatten G):G=[]:=
 bSl h λu hu=>by
  obtain⟨y,hy,hu⟩:=UO.1 hu;obtain⟨x,_,rfl⟩:=Ch.1 hy;exact Vz hf x u hu
inductive O.imp:O->O->Prop
 | refl (x:O):O.imp x x
 | box {cs' cs:List C} (h:bD C.imp cs' cs):O.imp (.box cs') (.box cs)
 | row {e k:Nat} {t:Ty} {l:List (den t)} {deep' deep:Bool} (h:deep'=J->(deep||flat t)=J):O.imp (.row e k t l deep') (.row e k t l deep)
section
variable {M src:Nat->Prop} {c:Cx} {ow:Nat->Option Nat} {f g:F} {a:Act} {w:World}
theorem O.imp.blk{x y:O}(h:x.imp y){o b:Nat}(hb:x.blk c ow o b):y.blk c ow o b:=by
 cases h with
 | refl=>exact hb
 | box _=>exact hb
 | row _=>exact hb
theorem bD.imp{ok:Nat->Prop}{vs:List Value}{cs' cs:List C}(hv:bD (aW c ow w ok) vs cs)(hrv:∀r,∃ad n k,c.rv r= .slice ad n k)(h:bD C.imp cs' cs):bD (aW c ow w ok) vs cs':=by
 induction h generalizing vs with
 | nil=>cases hv;exact .nil
 | cons h hs ih=>cases hv with | cons h1 h2=>exact .cons (h _ _ _ _ _ hrv h1) (ih h2)
theorem aX.imp(h:aX M src c ow f a w)(hf:∀s n x,(s,n,x)∈g.fr-> ∃m y,(s,m,y)∈f.fr/\x.imp y)(ho:∀o n x,(o,n,x)∈g.ob-> ∃m y,(o,m,y)∈f.ob/\x.imp y)
  (hu:∀o n x m y,(o,n,x)∈g.ob->(o,m,y)∈g.ob->x=y):aX M src c ow g a w:=by
 have hlive:∀b,live c ow g.ob b->live c ow f.ob b:=by
  rintro b ⟨o,n,y,hm,hy⟩
  obtain⟨m,x,hx,hle⟩:=ho o n y hm;exact⟨o,m,x,hx,hle.blk hy⟩
 have kg:∀b,b<w.heap.size->BY src c ow f.ob b->BY src c ow g.ob b:=λb _ hb=>⟨hb.1,λhl=>hb.2 (hlive b hl)⟩
 refine⟨h.defers,λs n x hm=> ?_,λo n y hm=> ?_,hu,h.rvs⟩
 .obtain⟨m,y,hm',hi⟩:=hf s n x hm;obtain⟨v,hv,h1⟩:=h.fr s m y hm';exact⟨v,hv,hi _ _ _ _ _ h.rvs (h1.good kg)⟩
 .obtain⟨m,x,hx,hle⟩:=ho o n y hm;have hok:=h.ob o m x hx;have hbx:∀cs cs',Hg M c ow w (BY src c ow f.ob) o cs->bD C.imp cs' cs->Hg M c ow w (BY src c ow g.ob) o cs':=by
   rintro cs cs' ⟨b1,b2,vs,ty,b3,b4⟩ hall
   exact⟨b1,b2,vs,ty,b3,bD.imp (b4.mono λu t _ hr=>aW.good hr kg) h.rvs hall⟩
  have hrw:∀e k t l deep deep',JA M c ow w (BY src c ow f.ob) o e k t l deep->(deep'=J->(deep||flat t)=J)->JA M c ow w (BY src c ow g.ob) o e k t l deep':=by
   rintro e k t l deep deep' ⟨r0,r1,r2,xs,G,r3,r4,r5,r6⟩ hd
   exact⟨r0,r1,r2,xs,G,r3,r4,λb hb=>kg b (r4.lt b hb) (r5 b hb),λhd'=>by
    cases hdp:deep with
    | true=>exact r6 hdp
    | false=>
     have h2:=hd hd';rw[hdp,Mj]at h2;have :=bSb h2 r4;subst this;exact⟨List.nodup_nil,λb hb=>by cases hb⟩⟩
  cases hle with
  | refl=>
   cases y with
   | box cs=>
    refine hbx cs cs hok ?_;clear hok hm hx
    induction cs with
    | nil=>exact .nil
    | cons t ts ih=>exact .cons (λ_ _ _ _ _ _ h=>h) ih
   | row e k t l deep=>exact hrw e k t l deep deep hok λh=>by rw[h];rfl
   | win k t l=>exact hok
  | box hall=>exact hbx _ _ hok hall
  | row hd=>exact hrw _ _ _ _ _ _ hok hd
end
section
variable {f g:F}
theorem cJo{ct:CT}{x:C}{tvs:List TV}(h:ct.prj x=U tvs)(rest:List TV):∃x',ct.inj (tvs++rest)=U (x',rest)/\C.imp x' x:=by
 unfold CT.prj at h;split at h
 .rename_i t t' y;obtain⟨z,hz,rfl⟩:=CX.1 h;obtain⟨rfl,rfl⟩:=gP hz;exact⟨.v t' y,by show (iK t' t' y).map _=_;rw[lB];rfl,λ_ _ _ _ _ _ h=>h⟩
 .rename_i t;injection h with h;subst h;refine⟨.v (.sl t) [],by show (iK (.sl t) (.sl t) []).map _=_;rw[lB];rfl,λc ow w ok v hrv hv=> ?_⟩;have hv:v= .slice Y 0 0:=hv;subst hv;exact⟨[],.nil (C3 _),by simp⟩
 .injection h with h;subst h;exact⟨.nil,rfl,λ_ _ _ _ _ _ h=>h⟩
 .split at h
  .rename_i r r' he;subst he;injection h with h;subst h;exact⟨.row r,rfl,λ_ _ _ _ _ _ h=>h⟩
  .cases h
 .split at h
  .rename_i o off o' off' he;obtain⟨rfl,rfl⟩:=he;injection h with h;subst h;exact⟨.ptr o off,rfl,λ_ _ _ _ _ _ h=>h⟩
  .cases h
 .injection h with h;subst h;exact⟨.any,rfl,λ_ _ _ _ _ hrv h=>Sn hrv h⟩
 .cases h
theorem XZ:∀{cts:List CT} {cs:List C} {tvs:List TV},Ry cts cs=U tvs-> ∀rest,∃cs',Ht cts (tvs++rest)=U (cs',rest)/\bD C.imp cs' cs
 | [],[],tvs,h,rest=>by injection h with h;subst h;exact⟨[],rfl,.nil⟩
 | [],_::_,tvs,h,rest=>by cases h
 | _::_,[],tvs,h,rest=>by cases h
 | ct::cts,x::xs,tvs,h,rest=>by
  simp only[Ry]at h;split at h
  .rename_i a b h1 h2;injection h with h;subst h;obtain⟨ds,g1,g2⟩:=XZ h2 rest;obtain⟨d,g3,g4⟩:=cJo h1 (b++rest);refine⟨d::ds,?_,.cons g4 g2⟩;rw[CY];simp[Ht,g3,g1]
  .cases h
theorem S5{α:Type}{l:List (Nat×α)}{s:Nat}{e:Nat×α}(h:l.find? (λe=>e.1==s)=U e):e∈l/\e.1=s:=⟨H4 h,by simpa using Ki h⟩
theorem RZ{α:Type}:∀{l:List (Nat×α)},(l.map (·.1)).Nodup-> ∀{x y:Nat×α},x∈l->y∈l->x.1=y.1->x=y
 | [],_,x,y,hx,_,_=>by cases hx
 | z::l,hn,x,y,hx,hy,he=>by
  rw[CA,EW]at hn;rcases Cl.1 hx with hx1 | hx1
  .rcases Cl.1 hy with hy1 | hy1
   .rw[hx1,hy1]
   .exact absurd (Ch.2 ⟨y,hy1,by rw[<- he,hx1]⟩) hn.1
  .rcases Cl.1 hy with hy1 | hy1
   .exact absurd (Ch.2 ⟨x,hx1,by rw[he,hy1]⟩) hn.1
   .exact RZ hn.2 hx1 hy1 he
theorem bTi(h:f.wf=J):(f.fr.map (·.1)).Nodup/\(f.ob.map (·.1)).Nodup:=by
 simp only[F.wf,Ck]at h;exact⟨kP h.1,kP h.2.1⟩
theorem bSa(hx:Ce f g)(hw:f.wf=J):∀{hs:List (Nat×ST)} {tvs:List TV},TL f g hs=U tvs-> ∀rest,∃fr,vY f hs (tvs++rest)=U (fr,rest)/\ ∀s n x,(s,n,x)∈fr->(∃m y,(s,m,y)∈g.fr/\x.imp y)/\(n<f.ctr->(s,n,x)∈f.fr)
 | [],tvs,h,rest=>by injection h with h;subst h;exact⟨[],rfl,λs n x hm=>by cases hm⟩
 | (s,st)::hs,tvs,h,rest=>by
  simp only[TL]at h;split at h
  .rename_i s' n x ys hg hr;obtain⟨hm,rfl⟩:=S5 hg;obtain⟨fr,i1,i2⟩:=bSa hx hw hr rest;split at h
   .split at h
    .rename_i s2 m y hf;obtain⟨hm2,e2⟩:=S5 hf;have e2:s2=s':=e2;subst e2;split at h
     .rename_i hc;injection h with h;subst h;obtain⟨rfl,hlt⟩:=hc;have :=RZ (bTi hw).1 hm2 (hx.fr _ _ _ hm hlt) rfl;refine⟨(s2,m,y)::fr,by simp only[vY];rw[hf];simp only[i1],λs n x hmem=> ?_⟩;rcases Cl.1 hmem with he | hmem
      .rw[he];injection he with e1 he;injection he with e2 e3;subst e1 e3;refine⟨⟨m,x,by rw[this];exact hm,λ_ _ _ _ _ _ h=>h⟩,λ_=>hm2⟩
      .exact i2 s n x hmem
     .cases h
    .cases h
   .rename_i ct y;obtain⟨tv,htv,rfl⟩:=CX.1 h;obtain⟨x',j1,j2⟩:=cJo htv (ys++rest);refine⟨(s',f.ctr,.val (.one x'))::fr,by rw[CY];simp only[vY];rw[j1];simp only[i1],λs n x hmem=> ?_⟩;rcases Cl.1 hmem with he | hmem
    .injection he with e1 he;injection he with e2 e3;subst e1 e2 e3;exact⟨⟨n,_,hm,λc ow w ok v hrv hv=>j2 c ow w ok v hrv hv⟩,λhlt=>by omega⟩
    .exact i2 s n x hmem
   .rename_i cts zs;obtain⟨tv,htv,rfl⟩:=CX.1 h;obtain⟨xs',j1,j2⟩:=XZ htv (ys++rest);refine⟨(s',f.ctr,.val (.agg xs'))::fr,by rw[CY];simp only[vY];rw[j1];simp only[i1],λs n x hmem=> ?_⟩;rcases Cl.1 hmem with he | hmem
    .injection he with e1 he;injection he with e2 e3;subst e1 e2 e3;exact⟨⟨n,_,hm,λc ow w ok v hrv hv=>by obtain⟨vs,hv,ha⟩:=hv;exact⟨vs,hv,ha.imp hrv j2⟩⟩,λhlt=>by omega⟩
    .exact i2 s n x hmem
   .cases h
  .cases h
theorem bVn(hx:Ce f g)(hw:f.wf=J):∀{hs:List (Nat×OT)} {tvs:List TV},TN f g hs=U tvs-> ∀rest,∃ob,Eg f hs (tvs++rest)=U (ob,rest)/\ob.map (·.1)=hs.map (·.1)/\ ∀o n x,(o,n,x)∈ob->(∃m y,(o,m,y)∈g.ob/\x.imp y)/\(n<f.ctr->(o,n,x)∈f.ob)
 | [],tvs,h,rest=>by injection h with h;subst h;exact⟨[],rfl,rfl,λs n x hm=>by cases hm⟩
 | (s,st)::hs,tvs,h,rest=>by
  simp only[TN]at h;split at h
  .rename_i s' n x ys hg hr;obtain⟨hm,rfl⟩:=S5 hg;obtain⟨ob,i1,i0,i2⟩:=bVn hx hw hr rest;split at h
   .split at h
    .rename_i s2 m y hf;obtain⟨hm2,e2⟩:=S5 hf;have e2:s2=s':=e2;subst e2;split at h
     .rename_i hc;injection h with h;subst h;obtain⟨rfl,hlt⟩:=hc;have :=RZ (bTi hw).2 hm2 (hx.ob _ _ _ hm hlt) rfl;refine⟨(s2,m,y)::ob,by simp only[Eg];rw[hf];simp only[i1],by simp[i0],λs n x hmem=> ?_⟩;rcases Cl.1 hmem with he | hmem
      .rw[he];injection he with e1 he;injection he with e2 e3;subst e1 e3;refine⟨⟨m,x,by rw[this];exact hm,.refl _⟩,λ_=>hm2⟩
      .exact i2 s n x hmem
     .cases h
    .cases h
   .rename_i cts zs;obtain⟨tv,htv,rfl⟩:=CX.1 h;obtain⟨xs',j1,j2⟩:=XZ htv (ys++rest);refine⟨(s',f.ctr,.box xs')::ob,by rw[CY];simp only[Eg];rw[j1];simp only[i1],by simp[i0],λs n x hmem=> ?_⟩;rcases Cl.1 hmem with he | hmem
    .injection he with e1 he;injection he with e2 e3;subst e1 e2 e3;exact⟨⟨n,_,hm,.box j2⟩,λhlt=>by omega⟩
    .exact i2 s n x hmem
   .rename_i e k t deep e' k' t' l deep';split at h
    .rename_i hc;obtain⟨rfl,rfl,rfl,hd⟩:=hc;injection h with h;subst h;refine⟨(s',f.ctr,.row e k t l deep)::ob,by show (match iK (.sl t) (.sl t) l,Eg f hs (ys++rest) with | some l,U (r,zs)=>U ((s',f.ctr,O.row e k t l deep)::r,zs) | _,_=>Y)=_;rw[lB,i1],by simp[i0],λs n x hmem=> ?_⟩;rcases Cl.1 hmem with he | hmem
     .injection he with e1 he;injection he with e2 e3;subst e1 e2 e3;exact⟨⟨n,_,hm,.row hd⟩,λhlt=>by omega⟩
     .exact i2 s n x hmem
    .cases h
   .rename_i k t k' t' l;split at h
    .rename_i hc;obtain⟨rfl,rfl⟩:=hc;injection h with h;subst h;refine⟨(s',f.ctr,.win k t l)::ob,by show (match iK (.sl t) (.sl t) l,Eg f hs (ys++rest) with | some l,U (r,zs)=>U ((s',f.ctr,O.win k t l)::r,zs) | _,_=>Y)=_;rw[lB,i1],by simp[i0],λs n x hmem=> ?_⟩;rcases Cl.1 hmem with he | hmem
     .injection he with e1 he;injection he with e2 e3;subst e1 e2 e3;exact⟨⟨n,_,hm,.refl _⟩,λhlt=>by omega⟩
     .exact i2 s n x hmem
    .cases h
   .cases h
  .cases h
end
section
variable {X:Dn} {f g:F}
theorem PS{h:Sh}{x:D4 h.tys}(hx:Ce f g)(hw:f.wf=J)(hh:h.wf=J)(hf:f.fit g h=U x):∃k,f.inj h x=U k/\Ce f k/\ ∀a w,At X g a w->At X k a w:=by
 unfold F.fit at hf;split at hf
 .rename_i g' hg';obtain⟨h1,h2⟩:=V5 (X:=X) hg';have hx':=hx.trans h1;unfold F.prj at hf;split at hf
  .rename_i xs ys hxs hys;obtain⟨fr,j1,j2⟩:=bSa hx' hw hxs ys;obtain⟨ob,k1,k0,k2⟩:=bVn hx' hw hys [];rw[CU]at k1;refine⟨⟨f.ctr+1,fr,ob⟩,?_,⟨Et _,λs n y hm hn=>(j2 s n y hm).2 hn,λs n y hm hn=>(k2 s n y hm).2 hn⟩,λa w hat=> ?_⟩
   .unfold F.inj;rw[Qf hf,j1];simp only[k1]
   .obtain⟨⟨cx,ow,hs,hpin⟩,hb,hn⟩:=h2 a w hat;refine⟨⟨cx,ow,hs.imp (λs n y hm=>(j2 s n y hm).1) (λs n y hm=>(k2 s n y hm).1) (λo n y m z hy hz=> ?_),hpin⟩,hb,hn⟩;have hnd:(ob.map (·.1)).Nodup:=by rw[k0];exact kP hh
    have :=RZ hnd hy hz rfl;injection this with _ this;injection this
  .cases hf
 .cases hf
end
end Go.V
set_option linter.unusedVariables false
set_option linter.unusedSectionVars false
namespace Go.V
open Go.Ab Go.RowKit
theorem FG.size{w w':World}(h:FG w w'):w.heap.size<=w'.heap.size:=by
 rcases P7 w.heap.size with h0 | h0
 .omega
 .have h1:=h (w.heap.size - 1) (by omega);have h2:w.heap[w.heap.size - 1]? =U w.heap[w.heap.size - 1]:=Array.getElem?_eq_getElem (by omega);rw[h2]at h1;have :=(GG.1 h1).1;omega
theorem FG.trans{a b c:World}(h:FG a b)(k:FG b c):FG a c:=λi hi=>(k i (N8 hi h.size)).trans (h i hi)
section
variable {P:Program} {ops:Array Oper} {Q:Exit->Act->World->Prop} {W:Nat->Bool}
def FL(ops:Array Oper)(k t:Nat):Prop:=Q5 ops t k=J/\ ∀q,Qt ops t q=J->q=k
theorem Ou{a:Act}{d:Option Nat}{u:Value}{t:Nat}(h:d≠U t):(a.put d u).eval (.tmp t)=a.eval (.tmp t):=by
 cases d with
 | none=>rfl
 | some d=>
  have hne:d≠t:=λe=>h (by rw[e])
  simp[Act.eval,Act.put,Array.getElem?_setIfInBounds_ne hne]
theorem bJz{a:Act}{u:Value}{t b:Nat}(h:Ei ((a.put (U t) u).eval (.tmp t))=U b):Ei u=U b:=by
 simp only[Act.eval,Act.put]at h
 by_cases hlt:t<a.tmps.size
 .simpa [hlt] using h
 .simp[hlt,undef,Ei]at h
structure JW (E:List Con) (ops:Array Oper) (j:Nat) (o:Oper) (a:Act) (w:World) (a':Act) (w':World):Prop where
 stays:ED E o.op=BW->FG w w'
 made:∀t,FL ops j t->Ls o.op=J-> ∀b,Ei (a'.eval (.tmp t))=U b->w.heap.size<=b
 appd:∀t x,FL ops j t->E1 o.op=J->vD o.op=U x->(x= .const (.slice Y 0 0)\/ ∃k t',x= .tmp t'/\FL ops k t')-> ∀b,Ei (a'.eval (.tmp t))=U b->w.heap.size<=b\/Ei (a.eval x)=U b
 kept:∀k t,FL ops k t->j≠k->a'.eval (.tmp t)=a.eval (.tmp t)
 app:∀x,vD o.op=U x->(x= .const (.slice Y 0 0)\/ ∃k t,x= .tmp t/\FL ops k t)-> ∀b,b<w.heap.size->(∀b',Ei (a.eval x)=U b'->b≠b')->w'.heap[b]? =w.heap[b]?
 size:w.heap.size<=w'.heap.size
theorem bEg{j:Nat}{o:Oper}{t:Nat}(hj:ops[j]? =U o)(hm:FL ops j t):o.dst=U t:=by
 have h:=hm.1;simp only[Q5,hj,Ck,beq_iff_eq]at h;exact h.2
theorem IL.t{E:List Con}{j:Nat}{o:Oper}{a a':Act}{w w':World}(hj:ops[j]? =U o)(h:IL E o a w a' w'):JW E ops j o a w a' w':=by
 obtain⟨u,hu,hal,hap⟩:=h.put;refine⟨h.stays,λt hm ha b he=> ?_,λt x hm hp hx _ b he=> ?_,λk t hm hne=> ?_,λx hx _=>h.app x hx,h.size⟩
 .rw[hu,bEg hj hm]at he;exact hal ha b (bJz he)
 .rw[hu,bEg hj hm]at he;exact hap hp x hx b (bJz he)
 .rw[hu,Ou];exact λhd=>hne (hm.2 j (by simp[Qt,hj,hd]))
def Ik(P:Program)(E:List Con)(ops:Array Oper)(Q:Exit->Act->World->Prop):Nat->Array Bool->Act->World->Prop
 | 0,listed,a,w=>Region.ready .any ops listed=[]/\Q .normal a w
 | fuel+1,listed,a,w=>
  (Region.ready .any ops listed=[]->Q .normal a w)/\
  ∀i∈Region.ready .any ops listed,wpOp P ops Q i (λa' w'=>(∀o,ops[i]? =U o->JW E ops i o a w a' w')/\Ik P E ops Q fuel (listed.setIfInBounds i J) a' w') a w
theorem aZm{E:List Con}:∀(fuel:Nat) (listed:Array Bool) (a:Act) (w:World),Ik P E ops Q fuel listed a w->wpAny P .any ops Q fuel listed a w
 | 0,_,_,_,h=>h
 | fuel+1,_,_,_,h=>⟨h.1,λi hi=>wpOp_mono (λa' w' h'=>aZm fuel _ a' w' h'.2) (h.2 i hi)⟩
def cMe(w0:World)(t:Nat)(a:Act):Prop:= ∀b,Ei (a.eval (.tmp t))=U b->w0.heap.size<=b
inductive Hx (ops:Array Oper) (L0:Array Bool):Nat->Nat->Prop
 | alloc {k t:Nat} {o:Oper} (hk:L0.getD k J=BW) (hm:FL ops k t) (ho:ops[k]? =U o) (ha:Ls o.op=J):Hx ops L0 k t
 | nil {k t:Nat} {o:Oper} (hk:L0.getD k J=BW) (hm:FL ops k t) (ho:ops[k]? =U o) (hp:E1 o.op=J) (hx:vD o.op=U (.const (.slice Y 0 0))):Hx ops L0 k t
 | app {k t k' t':Nat} {o:Oper} (hk:L0.getD k J=BW) (hm:FL ops k t) (ho:ops[k]? =U o) (hp:E1 o.op=J) (hx:vD o.op=U (.tmp t')) (hn:Hx ops L0 k' t') (hw:∃e∈o.after,Region.binds .any e=J/\e.on=k'):Hx ops L0 k t
theorem Hx.makes{L0:Array Bool}{k t:Nat}(h:Hx ops L0 k t):FL ops k t:=by
 cases h with
 | alloc _ hm _ _=>exact hm
 | nil _ hm _ _ _=>exact hm
 | app _ hm _ _ _ _ _=>exact hm
theorem Hx.unl{L0:Array Bool}{k t:Nat}(h:Hx ops L0 k t):L0.getD k J=BW:=by
 cases h with
 | alloc hk _ _ _=>exact hk
 | nil hk _ _ _ _=>exact hk
 | app hk _ _ _ _ _ _=>exact hk
def UW(ops:Array Oper)(listed:Array Bool)(j:Nat):Prop:= ∃oj x,ops[j]? =U oj/\vD oj.op=U x/\(x= .const (.slice Y 0 0)\/ ∃t k,x= .tmp t/\Hx ops listed k t/\ ∃e∈oj.after,Region.binds .any e=J/\e.on=k)
theorem bH2{E:List Con}{w0:World}{i:Nat}{oi:Oper}{v:Value}{D:List Nat}{L0:Array Bool}(rd:Bool)(hi:ops[i]? =U oi)(hsel:∀(j:Nat) (o:Oper) cs b,ops[j]? =U o->o.op≠ .select cs b)
  (hQ:∀c a w,Q (.panic c) (a.put oi.dst v) w->Q (.panic c) a w) (hval:Gk oi.op=J):
  ∀(fuel:Nat) (listed:Array Bool) (a:Act) (w:World),
   (∀j oj,ops[j]? =U oj->j≠i->listed.getD j J=BW->(∀e∈oj.after,Region.binds .any e=J->e.on≠i)->oi.apart ops oj=J)->
   (∀k∈D,listed.getD k J=BW/\ ∃ok,ops[k]? =U ok/\ ∃e∈ok.after,Region.binds .any e=J/\(e.on=i\/e.on∈D))->
   (rd=J-> ∀j oj,ops[j]? =U oj->ED E oj.op=J->listed.getD j J=BW->j∈D\/UW ops L0 j)->
   (∀k t,Hx ops L0 k t->listed.getD k J=J->cMe w0 t (a.put oi.dst v))->
   i∈Region.ready .any ops listed->YieldsIf P ops (λw=>rd=J->FG w0 w) oi v a->(rd=J->FG w0 w)->w0.heap.size<=w.heap.size->
   Ik P E ops Q fuel (listed.setIfInBounds i J) (a.put oi.dst v) w->Ik P E ops Q (fuel+1) listed a w:=by
 have hdi:∀k t,FL ops k t->oi.dst≠U t:=λk t hm hd=>by
  have hk:=hm.2 i (by simp[Qt,hi,hd]);have hmade:=hm.1;rw[<- hk]at hmade;simp only[Q5,hi,Ck,Fs]at hmade;rcases hmade.1 with h1 | h1
  .rw[NE hval]at h1;cases h1
  .rw[NI hval]at h1;cases h1
 have hrec:∀(a:Act) (w:World),∀o,ops[i]? =U o->JW E ops i o a w (a.put oi.dst v) w:=λa w o ho=>by
  rw[hi]at ho;injection ho with ho;subst ho;exact IL.t hi ⟨λ_ _ _=>rfl,⟨v,rfl,(λha=>by rw[NE hval]at ha;cases ha),λha=>by rw[NI hval]at ha;cases ha⟩,(λx hx=>by rw[PV hval]at hx;cases hx),Cz _⟩
 intro fuel
 induction fuel with
 | zero=>
  intro listed a w _ _ _ _ hr hy hS _ H;refine⟨λh=>(by rw[h]at hr;cases hr),λj hj=> ?_⟩
  by_cases hji:j=i
  .subst hji;exact hy.wpOp hi hS ⟨hrec a w,H⟩
  .have :=ready_mono hj hji;rw[H.1]at this;cases this
 | succ fuel ih=>
  intro listed a w hfree hD hwait hfresh hr hy hS hsz H;refine⟨λh=>(by rw[h]at hr;cases hr),λj hj=> ?_⟩
  by_cases hji:j=i
  .subst hji;exact hy.wpOp hi hS ⟨hrec a w,H⟩
  .have h1:=H.2 j (ready_mono hj hji);obtain⟨hjun,oj,hoj,hall⟩:=mem_ready.1 hj;have hlisted:∀e∈oj.after,Region.binds .any e=J->listed.getD e.on J=J:=λe he hb=>by
    have h1:=hall e he hb;rcases Nat.lt_or_ge e.on listed.size with h' | h'
    .simp[h']at h1 ⊢;exact h1
    .simp[Array.getElem?_eq_none h']at h1
   have hnot:∀e∈oj.after,Region.binds .any e=J->e.on≠i:=λe he hb heq=>by
    have h1:=hlisted e he hb;have h0:=(mem_ready.1 hr).1;rw[heq,h0]at h1;cases h1
   have hjD:j∉D:=λhm=>by
    obtain⟨_,oj',hoj',e,he,hb,hon⟩:=hD j hm;rw[hoj]at hoj';injection hoj' with hoj';subst hoj';rcases hon with hon | hon
    .exact hnot e he hb hon
    .have h0:=(hD _ hon).1;rw[hlisted e he hb]at h0;cases h0
   have h2:=wpOp_putIf hoj (hfree j oj hoj hji hjun hnot) (λcs b=>hsel i oi cs b hi) (λcs b=>hsel j oj cs b hoj) hQ hy h1;have hun:∀k,(listed.setIfInBounds j J).getD k J=BW->listed.getD k J=BW:=λk hun=>by
    by_cases hjk:j=k
    .subst hjk;exact hjun
    .rw[getD_set_ne J hjk]at hun;exact hun
   refine wpOp_mono (λa' w' h3=> ?_) h2;have hRec:JW E ops j oj (a.put oi.dst v) w (a'.put oi.dst v) w':=h3.2.1 oj hoj;have hS':rd=J->FG w0 w':=λhrd=>by
    cases hW:ED E oj.op with
    | false=>exact (hS hrd).trans (hRec.stays hW)
    | true=>
     rcases hwait hrd j oj hoj hW hjun with hm | ⟨oj',x,hoj',hx,hz⟩
     .exact absurd hm hjD
     .rw[hoj]at hoj';injection hoj' with hoj';subst hoj';intro b hlt;rw[<- hS hrd b hlt];refine hRec.app x hx (hz.imp id λ⟨t,k,hxt,hmk,_⟩=>⟨k,t,hxt,hmk.makes⟩) b (N8 hlt hsz) λb' he hb=> ?_
      rcases hz with rfl | ⟨t,k,rfl,hmk,e,hein,hbind,rfl⟩
      .cases he
      .have :=hfresh e.on t hmk (hlisted e hein hbind) b' he;omega
   refine⟨?_,ih (listed.setIfInBounds j J) a' w' (λk ok hk hki hu hno=>hfree k ok hk hki (hun k hu) hno) (λk hk=>⟨by rw[getD_set_ne J (show j≠k from λe=>hjD (e▸hk))];exact (hD k hk).1,(hD k hk).2⟩) (λhrd k ok hk hW hu=>hwait hrd k ok hk hW (hun k hu)) (λk t hmk hl=> ?_) (ready_mono hr (Ne.symm hji)) h3.1 hS' (B5 hsz hRec.size) ?_⟩
   .intro o ho;rw[hoj]at ho;injection ho with ho;subst ho;have hback:∀x,(x= .const (.slice Y 0 0)\/ ∃k t',x= .tmp t'/\FL ops k t')->(a.put oi.dst v).eval x=a.eval x:=λx hx=>by
     rcases hx with rfl | ⟨k,t',rfl,hm⟩
     .rfl
     .exact Ou (hdi _ _ hm)
    refine⟨hRec.stays,λt hm ha b he=>hRec.made t hm ha b (by rw[Ou (hdi _ _ hm)];exact he),λt x hm hp hx hxx b he=> ?_,λk t hm hne=> ?_,λx hx hxx b hlt hne=>hRec.app x hx hxx b hlt λb' he=>hne b' (by rw[hback x hxx]at he;exact he),hRec.size⟩
    .have :=hRec.appd t x hm hp hx hxx b (by rw[Ou (hdi _ _ hm)];exact he);rw[hback x hxx]at this;exact this
    .have :=hRec.kept k t hm hne;rw[Ou (hdi _ _ hm),Ou (hdi _ _ hm)]at this;exact this
   .by_cases hjk:j=k
    .subst hjk;intro b he;cases hmk with
     | alloc hk hm ho ha=>
      rw[hoj]at ho;injection ho with ho;subst ho
      exact B5 hsz (hRec.made t hm ha b he)
     | nil hk hm ho hp hx=>
      rw[hoj]at ho;injection ho with ho;subst ho
      rcases hRec.appd t _ hm hp hx (.inl rfl) b he with h5 | h5
      .exact B5 hsz h5
      .cases h5
     | app hk hm ho hp hx hn hw=>
      rw[hoj]at ho;injection ho with ho;subst ho
      rcases hRec.appd t _ hm hp hx (.inr ⟨_,_,rfl,hn.makes⟩) b he with h5 | h5
      .exact B5 hsz h5
      .obtain⟨e,he1,he2,rfl⟩:=hw;exact hfresh _ _ hn (hlisted e he1 he2) b h5
    .rw[getD_set_ne J hjk]at hl;intro b he;rw[hRec.kept k t hmk.makes hjk]at he;exact hfresh k t hmk hl b he
   .rw[Array.setIfInBounds_comm _ _ hji];exact h3.2.2
end
def Gu(Q:Exit->Act->World->Prop):Exit->Act->World->Prop
 | .panic _,_,_=>False
 | e,a,w=>Q e a w
theorem bRj{ops:Array Oper}{i k:Nat}{D:List Nat}(h:TG ops i D k=J):∃ok,ops[k]? =U ok/\ ∃e∈ok.after,Region.binds .any e=J/\(e.on=i\/e.on∈D):=by
 unfold TG at h;split at h
 .rename_i o ho;obtain⟨n,hn,he⟩:=Array.any_eq_true.1 h;simp only[Ck,Fs,beq_iff_eq,List.contains_iff_mem]at he;exact⟨o,ho,_,Array.getElem_mem hn,he.1,he.2⟩
 .cases h
theorem aZi{ops:Array Oper}{listed:Array Bool}{i:Nat}:∀(ks D:List Nat),(∀k∈D,listed.getD k J=BW/\ ∃ok,ops[k]? =U ok/\ ∃e∈ok.after,Region.binds .any e=J/\(e.on=i\/e.on∈D))->
  ∀k∈QH ops listed i ks D,listed.getD k J=BW/\ ∃ok,ops[k]? =U ok/\ ∃e∈ok.after,Region.binds .any e=J/\(e.on=i\/e.on∈QH ops listed i ks D)
 | [],D,h=>h
 | k::ks,D,h=>by
  refine aZi ks _ λq hq=> ?_
  cases hc:(!(listed.getD k J)&&TG ops i D k) with
  | false=>rw[hc]at hq;simp only[zY]at hq ⊢;exact h q hq
  | true=>
   rw[hc]at hq;simp only[zZ]at hq ⊢;simp only[Ck,Eu]at hc;rcases Cl.1 hq with rfl | hq
   .obtain⟨ok,h1,e,h2,h3,h4⟩:=bRj hc.2;exact⟨hc.1,ok,h1,e,h2,h3,h4.imp id (C1 _)⟩
   .obtain⟨h0,ok,h1,e,h2,h3,h4⟩:=h q hq;exact⟨h0,ok,h1,e,h2,h3,h4.imp id (C1 _)⟩
theorem aS3{ops:Array Oper}{o:Oper}{k:Nat}(h:Wh ops o k=J):∃e∈o.after,Region.binds .any e=J/\e.on=k:=by
 obtain⟨n,hn,he⟩:=Array.any_eq_true.1 h;simp only[Ck,beq_iff_eq]at he;exact⟨_,Array.getElem_mem hn,he.1,he.2⟩
theorem bAl{ops:Array Oper}{listed:Array Bool}:∀(n:Nat) {t k:Nat},T3 ops listed n t k=J->Hx ops listed k t
 | 0,_,_,h=>by cases h
 | n+1,t,k,h=>by
  simp only[T3,Ck,Eu]at h;obtain⟨h1,h2,h3,h4⟩:=h;have hm:FL ops k t:=⟨h2,λq hq=>by
   have hlt:q<ops.size:=by
    unfold Qt at hq;split at hq
    .rename_i hoq;exact (GG.1 hoq).1
    .cases hq
   have :=Dg.1 h3 q (List.mem_range.2 hlt);simpa [hq] using this⟩
  split at h4
  .rename_i o ho;rcases Bool.eq_false_or_eq_true (Ls o.op) with ha | ha
   .exact .alloc h1 hm ho ha
   .have hp:E1 o.op=J:=by
     have :=hm.1;simp only[Q5,ho,ha,Mj,Ck]at this;exact this.1
    rw[ha,Mj]at h4;split at h4
    .rename_i hx;exact .nil h1 hm ho hp hx
    .rename_i t' hx;obtain⟨k',_,h5⟩:=UQ.1 h4;simp only[Ck]at h5;exact .app h1 hm ho hp hx (bAl n h5.2) (aS3 h5.1)
    .cases h4
  .cases h4
theorem bWv{ops:Array Oper}{listed:Array Bool}{j:Nat}(h:ZL ops listed j=J):UW ops listed j:=by
 unfold ZL at h;split at h
 .rename_i o ho;split at h
  .rename_i hx;exact⟨o,_,ho,hx,.inl rfl⟩
  .rename_i t hx;obtain⟨k,hk,h⟩:=UQ.1 h;simp only[Ck]at h;exact⟨o,_,ho,hx,.inr ⟨t,k,rfl,bAl _ h.2,aS3 h.1⟩⟩
  .cases h
 .cases h
theorem bP2{E:List Con}{ops:Array Oper}{listed:Array Bool}{i:Nat}(h:cDj E ops listed i=J)(j:Nat)(oj:Oper)(hj:ops[j]? =U oj)(hW:ED E oj.op=J)(hu:listed.getD j J=BW):j∈QH ops listed i (Es ops.size) []\/UW ops listed j:=by
 have hlt:j<ops.size:=(GG.1 hj).1;have h1:=Dg.1 h j (List.mem_range.2 hlt);have hw:ZK E ops j=J:=by simp[ZK,hj,hW]
 simp only[hw,hu,Bool.not_true,Mj,Fs,List.contains_iff_mem]at h1;exact h1.imp id bWv
def EA.depth:EA->Nat
 | .z=>0
 | .op _ o=>o.depth+1
 | .alt _ o m=>max (o.depth+1) m.depth
theorem Vb(E:List Con)(ops:Array Oper):∀(k:Nat) (l:Array Bool),(QF E ops k l).depth<=k
 | 0,_=>Cz _
 | k+1,l=>by
  simp only[QF];split
  .exact Nat.succ_le_succ (Vb E ops k _)
  .generalize Region.ready .any ops l=rd
   induction rd with
   | nil=>exact C3 _
   | cons i is ih=>exact Nat.max_le.2 ⟨Nat.succ_le_succ (Vb E ops k _),ih⟩
theorem bWd{R:Type}{x y:Option R}{r:R}(h:fE x y=U r):x=U r/\y=U r:=by
 unfold fE at h;obtain⟨r',h1,h2⟩:=bind_some h;split at h2
 .rename_i hy;injection h2 with h2;subst h2;exact⟨h1,hy⟩
 .cases h2
theorem bB{R:Type}(x:Option R):fE x x=x:=by
 unfold fE;cases x with
 | none=>rfl
 | some r=>simp
section
variable {X:Dn} {E:List Con} {f:F} {a:Act} {w:World} {o:Oper} {R:Type} {K:F->Option R} {r:R} {ops:Array Oper}
def Ya(X:Dn)(E:List Con)(ops:Array Oper)(o:Oper)(a:Act)(w:World)(f:F)(K:F->Option R)(r:R):Prop:=
 ∃g,K g=U r/\Ce f g/\ ∀(Kp:Act->World->Prop) (Q:Exit->Act->World->Prop),(∀a' w',At X g a' w'->IL E o a w a' w'->Kp a' w')->
  if Region.wanted o (yielded ops a.tmps) then o.wp X.P a w Kp Q else Kp (a.put o.dst undef) w
theorem At.slot(h:At X f a w){s:Nat}{x:S}(hl:f.look s=U x):At X (f.put (U s) x) a w:=by
 obtain⟨⟨cx,ow,hs,hpin⟩,hb,hn⟩:=h;exact⟨⟨cx,ow,hs.slot hl λv hv=>hv,hpin⟩,hb,hn⟩
theorem At.un(h:At X f a w){d:Option Nat}(hd:kQ X.n d=J):At X (f.put d .un) (a.put d undef) w:=by
 obtain⟨⟨cx,ow,hs,hpin⟩,hb,hn⟩:=id h;exact h.put hs hpin hd rfl
theorem bXr(h:At X f a w){j d:Nat}{want:Bool}(hg:o.guard=U (j,want))(hj:(ops[j]?).bind (·.dst)=U d)(hl:f.look d=U .un):Region.wanted o (yielded ops a.tmps)=BW:=by
 obtain⟨⟨cx,ow,hs,hpin⟩,hb,hn⟩:=h;obtain⟨n,hm⟩:=M9 hl;obtain⟨v,hv,h1⟩:=hs.fr _ _ _ hm;have h1:v=undef:=h1;subst h1;simp only[Region.wanted,hg,yielded,hj,Option.bind_some,hv];rfl
theorem bNx(h:At X f a w){j d:Nat}{want b:Bool}(hg:o.guard=U (j,want))(hj:(ops[j]?).bind (·.dst)=U d)(hl:f.look d=U (.val (.one (.v .bool b)))):Region.wanted o (yielded ops a.tmps)=(b==want):=by
 obtain⟨⟨cx,ow,hs,hpin⟩,hb,hn⟩:=h;obtain⟨n,hm⟩:=M9 hl;obtain⟨v,hv,h1⟩:=hs.fr _ _ _ hm;have h1:=IR (c:=cx) (ow:=ow) h1;subst h1;simp only[Region.wanted,hg,yielded,hj,Option.bind_some,hv];cases want<;>cases b<;>rfl
theorem bIu(h:At X f a w)(hv:I0 X.P X.n E ops f o K=U r):kQ X.n o.dst=J/\
  ((∃f',Region.wanted o (yielded ops a.tmps)=J/\Ce f f'/\At X f' a w/\Nh X.P E f' o K=U r)\/(∃f',Region.wanted o (yielded ops a.tmps)=BW/\Ce f f'/\At X f' a w/\K (f'.put o.dst .un)=U r)):=by
 unfold I0 at hv;rcases bE hv with ⟨hd,hv⟩ | ⟨_,hv⟩
 .refine⟨hd,?_⟩;split at hv
  .rename_i hg;exact .inl ⟨f,by simp[Region.wanted,hg],.refl _,h,hv⟩
  .rename_i j want hg;split at hv
   .rename_i d hj;split at hv
    .rename_i hl;exact .inr ⟨f,bXr h hg hj hl,.refl _,h,hv⟩
    .rename_i b hl;have hw:=bNx h hg hj hl;have h':=h.slot hl;rcases bE hv with ⟨hb,hv1⟩ | ⟨hb,hv1⟩
     .rw[hb]at hw h';rcases bE hv1 with ⟨hq,hv2⟩ | ⟨hq,hv2⟩
      .rw[hq]at hw;exact .inl ⟨_,hw,Ce.put _ _ _,h',hv2⟩
      .rw[hq]at hw;exact .inr ⟨_,hw,Ce.put _ _ _,h',hv2⟩
     .rw[hb]at hw h';rcases bE hv1 with ⟨hq,hv2⟩ | ⟨hq,hv2⟩
      .rw[hq]at hw;exact .inr ⟨_,hw,Ce.put _ _ _,h',hv2⟩
      .rw[hq]at hw;exact .inl ⟨_,hw,Ce.put _ _ _,h',hv2⟩
    .cases hv
   .cases hv
 .cases hv
theorem WP(h:At X f a w)(hE:∀c∈E,c.Ok X.P)(hv:I0 X.P X.n E ops f o K=U r):Ya X E ops o a w f K r:=by
 obtain⟨hd,⟨f',hw,he,h',hv⟩ | ⟨f',hw,he,h',hv⟩⟩:=bIu h hv
 .obtain⟨g,h1,h2,h3⟩:=bYy h' hE hd hv;refine⟨g,h1,he.trans h2,λKp Q hK=> ?_⟩;rw[zT hw];exact h3 Kp Q hK
 .refine⟨_,hv,he.trans (Ce.put _ _ _),λKp Q hK=> ?_⟩;rw[zS (by rw[hw];simp)];exact hK _ _ (h'.un hd) ⟨λ_ _ _=>rfl,⟨undef,rfl,(λ_ b he=>by simp[undef,Ei]at he),λ_ _ _ b he=>by simp[undef,Ei]at he⟩,λ_ _ _ _ _=>rfl,Cz _⟩
theorem bVh(h:At X f a w)(hval:Gk o.op=J)(hv:I0 X.P X.n E ops f o K=U r):∃g v,K g=U r/\Ce f g/\YieldsIf X.P ops (λw'=>Tb o.op=J->FG w w') o v a/\At X g (a.put o.dst v) w:=by
 obtain⟨hd,⟨f',hw,he,h',hv⟩ | ⟨f',hw,he,h',hv⟩⟩:=bIu h hv
 .unfold Nh at hv;rcases bE hv with ⟨_,hv⟩ | ⟨_,hv⟩
  .obtain⟨_,g,v,hk,he',hg,hat⟩:=bI7 h' hd hv;exact⟨g,v,hk,he.trans he',.inl ⟨hw,λw' hS=>hg w' hS⟩,hat⟩
  rcases bE hv with ⟨_,hv⟩ | ⟨_,hv⟩
  .obtain⟨_,g,v,hk,he',hg,hat⟩:=aWf h' hd hv;exact⟨g,v,hk,he.trans he',.inl ⟨hw,λw' hS=>hg w' hS⟩,hat⟩
  rcases bE hv with ⟨_,hv⟩ | ⟨_,hv⟩
  .obtain⟨_,g,v,hk,he',hg,hat⟩:=aY1 h' hd hv;exact⟨g,v,hk,he.trans he',.inl ⟨hw,λw' hS=>hg w' hS⟩,hat⟩
  rw[hval]at hv;have hv:JK X.P (preF f' o.op) (λs=>K ((preF f' o.op).put o.dst s)) o.op=U r:=hv;have h':=h'.preF o.op;obtain⟨⟨cx,ow,hs,hpin⟩,hb,hn⟩:=id h';obtain⟨s,⟨v,hrel,hg⟩,hk⟩:=aWm hs hv;exact⟨_,v,hk,he.trans ((Ce.preF f' o.op).trans (Ce.put _ _ _)),.inl ⟨hw,λw' hS=>hg w' hS⟩,h'.put hs hpin hd hrel⟩
 .exact⟨_,undef,hv,he.trans (Ce.put _ _ _),.inr ⟨hw,rfl⟩,h'.un hd⟩
theorem bGu(P:Program)(d:Nat):(cMf d).Ok P:=λx y f g h=>by cases h
theorem bLa{w:World}:∀l:List UInt8,RepL w (l.map λb=>Value.int .u8 (b.toNat:Int)) (l.map λb=>T.lit (.int .u8 (b.toNat:Int))) []
 | []=> .nil
 | b::l=>by
  have :=b.toNat_lt;exact .cons (F:=[]) (.lit (by simp[plain,IntKind.min,IntKind.max,IntKind.signed,IntKind.bits];omega)) (bLa l)
theorem cEk(h:At X f a w)(hv:Uu X.P X.n f o K=U r):Ya X E ops o a w f K r:=by
 unfold Uu at hv;split at hv
 .rename_i src dst x d hop hdst hg;split at hv
  .rename_i e s hsrc hdt hx;split at hv
   .rename_i he;rcases bE hv with ⟨hd,hv⟩ | ⟨_,hv⟩
    .refine⟨_,hv,(Ce.noSubs f).trans (Ce.put _ _ _),λKp Q hK=> ?_⟩;rw[zT (by simp[Region.wanted,hg])];have h':=h.noSubs;have hsf:=qE f;generalize f.noSubs=g at *;obtain⟨⟨c,ow,hs,hpin⟩,hb,hn⟩:=id h';have hs:=hs.trim;generalize how:(λb=>if b<w.heap.size then ow b else Y)=ow' at hs;obtain⟨es,hp⟩:=Lc (hs.getC hx);have hrun:=Go.Lib.run_convert_string_bytes (P:=X.P) w src dst e s hsrc hdt he;have hold:=λj hj=>Go.Lib.bytesWorld_at_old w e s j hj
     have hsz:=Go.Lib.bytesWorld_size w e s;have hcell:=λj hj=>Go.Lib.bytesWorld_cell w e s j hj
     have hcap:=grownCap_le_maxLen w s.size 0 e hp;have hge:=grownCap_ge w s.size 0 e;have hbw:qI X.M w (Go.Lib.bytesWorld w e s):=⟨rfl,rfl,rfl,by omega,λk hk _=>hold k hk⟩
     have hm:X.M w.heap.size:=At.hM h;generalize Go.Lib.bytesWorld w e s=w' at *;have hnl: ¬ live c ow' g.ob w.heap.size:=by
      rintro⟨o',n',y,hm',hy⟩
      cases y with
      | win k t l=>
       have hy:ow' w.heap.size=U o':=hy;rw[<- how]at hy;simp at hy
      | box cs=>exact absurd ((hs.ob _ _ _ hm').lt (λ_ _ _ e=>by cases e) hy) (Nat.lt_irrefl _)
      | row e1 k1 t1 l1 d1=>exact absurd ((hs.ob _ _ _ hm').lt (λ_ _ _ e=>by cases e) hy) (Nat.lt_irrefl _)
     have hs2:aX X.M X.src c ow' g a w':=hs.step hsf (n':=g.ctr) (ob':=g.ob) (by omega) (λb hlt _=>hold b hlt) (λb _ hl=>hl) (λo n x hm'=> .inl ⟨⟨n,hm'⟩,λb hlt _ _=>hold b hlt,λb _ hb=>hb⟩) hs.uniq;have hrel:aW c ow' w' (BY X.src c ow' g.ob) (.slice (U ⟨w.heap.size,0,Y⟩) s.size (grownCap w s.size 0 e)) (.v (.sl (.int .u8)) (uB s)):=by
      refine⟨if s.size=0 then [] else [w.heap.size],?_,λb hb'=> ?_⟩
      .by_cases h0:s.size=0
       .rw[zT h0];have e0:uB s=[]:=by
         have :s.data.toList.length=0:=by simpa using h0
         simp[uB,List.length_eq_zero_iff.1 this]
        rw[e0,h0];exact .nil (by rw[h0]at hcap;exact hcap)
       .rw[zS h0];have el:s.data.toList.length=s.size:=by simp
        refine .cons (k:=1) (xs:=s.data.toList.map λb=>Value.int .u8 (b.toNat:Int)) (F:=[]) (by simp[uB]) (by omega) (by decide) (λe he=> ?_) hge hcap (by simp) (λj u hu=> ?_) ?_
        .obtain⟨z,_,rfl⟩:=Ch.1 he;rfl
        .rw[List.getElem?_map]at hu;obtain⟨z,hz,rfl⟩:=CX.1 hu;have hj:j<s.size:=by rw[<- el];exact (Cu.1 hz).1
         rw[Dc,hcell j hj,List.getD_eq_getElem?_getD,hz];rfl
        .have :(List.map (cells (.int .u8)) (uB s)).flatten=s.data.toList.map λb=>T.lit (.int .u8 (b.toNat:Int)):=by
          unfold uB;rw[List.map_map];generalize s.data.toList=l
          induction l with
          | nil=>rfl
          | cons b l ih=>rw[CA,Fu,ih];rfl
         rw[this];exact bLa _
      .split at hb'
       .cases hb'
       .rw[Cy.1 hb'];exact⟨X.hsrc _ hm,hnl⟩
     have hlt:d<a.tmps.size:=by rw[hn];exact yS hd
     unfold Oper.wp;have hrun':(execOp a.eval o).run X.P w= .ok (.value (.slice (U ⟨w.heap.size,0,Y⟩) s.size (grownCap w s.size 0 e))) w':=by
      simp only[execOp,hop,es];simp[hrun]
     rw[hrun'];simp only[Oper.upon,hdst];exact hK _ _ ⟨⟨c,ow',hs2.put hlt hrel,hpin⟩,hb.trans hbw,by rw[HW];exact hn⟩ (Qr hdst (λb hb'=>hold b hb') (by omega) (by rw[hop];rfl) (λha=>by rw[hop]at ha;cases ha))
    .cases hv
   .cases hv
  .cases hv
 .cases hv
theorem bV3(hE:∀c∈E,c.Ok X.P){Q:Exit->Act->World->Prop}:∀(l:List Oper) (f:F) (a:Act) (w:World) {K:F->Option R},At X f a w->Nb X.P X.n E ops l f K=U r->
  (∀g a' w',K g=U r->Ce f g->At X g a' w'->Q .normal a' w')->wpList X.P ops Q l a w:=by
 intro l
 induction l with
 | nil=>intro f a w K h hv hQ;exact wpList_nil (hQ f a w hv (.refl _) h)
 | cons o os ih=>
  intro f a w K h hv hQ;obtain⟨g,h1,h2,h3⟩:Ya X E ops o a w f (λf'=>Nb X.P X.n E ops os f' K) r:=by
   have hv:cond (cJw E o) (Uu X.P X.n f o λf'=>Nb X.P X.n E ops os f' K) (I0 X.P X.n E ops f o λf'=>Nb X.P X.n E ops os f' K)=U r:=hv;rcases bE hv with ⟨_,hv⟩ | ⟨_,hv⟩
   .exact cEk h hv
   .exact WP h hE hv
  exact wpList_step λKp hK=>h3 Kp Q λa' w' h' _=>hK a' w' (ih g a' w' h' h1 λk a'' w'' k1 k2 k3=>hQ k a'' w'' k1 (h2.trans k2) k3)
theorem bQh(hE:∀c∈E,c.Ok X.P){Q:Exit->Act->World->Prop}(hns:Region.noSelect ops=J):∀(od:EA) (b:Bool) (listed:Array Bool) (f:F) (a:Act) (w:World) (fuel:Nat) {K:F->Option R},od.depth<=fuel->At X f a w->J0 X.P X.n E ops b od listed f K=U r->
  (∀g a' w',K g=U r->Ce f g->At X g a' w'->Q .normal a' w')->
  (b=BW->Ik X.P E ops (Gu Q) fuel listed a w)/\
  (b=J-> ∀i∈od.heads,∃fuel',fuel=fuel'+1/\wpOp X.P ops (Gu Q) i (λa' w'=>(∀o,ops[i]? =U o->JW E ops i o a w a' w')/\Ik X.P E ops (Gu Q) fuel' (listed.setIfInBounds i J) a' w') a w):=by
 intro od
 induction od with
 | z=>
  intro b listed f a w fuel K _ h hv hQ;cases b with
  | true=>cases hv
  | false=>
   refine⟨λ_=> ?_,λhb=>by cases hb⟩;have hv:cond ((Region.ready .any ops listed).isEmpty) (K f) Y=U r:=hv;rcases bE hv with ⟨hr,hv⟩ | ⟨_,hv⟩
   .have hr:Region.ready .any ops listed=[]:=by simpa using hr
    cases fuel with
    | zero=>exact⟨hr,hQ f a w hv (.refl _) h⟩
    | succ fuel=>exact⟨λ_=>hQ f a w hv (.refl _) h,by rw[hr];simp⟩
   .cases hv
 | op i o ih=>
  intro b listed f a w fuel K hlen h hv hQ;cases b with
  | true=>cases hv
  | false=>
   refine⟨λ_=> ?_,λhb=>by cases hb⟩;obtain⟨fuel,rfl⟩:∃f,fuel=f+1:=⟨fuel - 1,by simp[EA.depth]at hlen;omega⟩
   have hlen':o.depth<=fuel:=by simpa [EA.depth] using hlen
   simp only[J0,zY]at hv;split at hv
   .rename_i oi hi;rcases bE hv with ⟨hcase,hv⟩ | ⟨_,hv⟩
    .simp only[Ww,Fs,Ck,beq_iff_eq]at hcase;rcases hcase with honly | ⟨hrd,hfr,hwt,hval⟩
     .obtain⟨g,h1,h2,h3⟩:=WP h hE hv;refine⟨(λhn=>by rw[honly]at hn;cases hn),λj hj=> ?_⟩;rw[honly]at hj;have :j=i:=Cy.1 hj;subst this;unfold wpOp;simp only[hi];have hs1:=h3 (λa' w'=>(∀o,ops[j]? =U o->JW E ops j o a w a' w')/\Ik X.P E ops (Gu Q) fuel (listed.setIfInBounds j J) a' w') (Gu Q) λa' w' h' hst=>⟨λo' ho'=>by rw[hi]at ho';injection ho' with ho';subst ho';exact IL.t hi hst,(ih BW _ g a' w' fuel hlen' h' h1 λk a'' w'' k1 k2 k3=>hQ k a'' w'' k1 (h2.trans k2) k3).1 rfl⟩
      simp only[hi]at hs1;split
      .rename_i hwant;rw[zT hwant]at hs1;exact .inl hs1
      .rename_i hwant;rw[zS hwant]at hs1;exact hs1
     .obtain⟨g,v,h1,h2,hy,hat⟩:=bVh h hval hv;exact bH2 (E:=E) (w0:=w) (L0:=listed) (Tb oi.op) hi (Region.noSelect_spec hns) (λc a w h=>h) hval fuel listed a w (Region.free_spec hi hfr) (aZi _ _ (by simp)) (λhrm=>bP2 (hwt.elim (λh=>by rw[hrm]at h;cases h) id)) (λk t h1 h2=>by rw[h1.unl]at h2;cases h2) (by simpa using hrd) hy (λ_ _ _=>rfl) (Cz _)
       ((ih BW _ g _ w fuel hlen' hat h1 λk a'' w'' k1 k2 k3=>hQ k a'' w'' k1 (h2.trans k2) k3).1 rfl)
    .cases hv
   .cases hv
 | alt i o m ih ihm=>
  intro b listed f a w fuel K hlen h hv hQ;obtain⟨fuel,rfl⟩:∃f,fuel=f+1:=⟨fuel - 1,by simp only[EA.depth]at hlen;omega⟩
  have hlen':o.depth<=fuel:=by simp only[EA.depth]at hlen;omega
  have hlenm:m.depth<=fuel+1:=by simp only[EA.depth]at hlen;omega
  unfold J0 at hv;rcases bE hv with ⟨hc,hv⟩ | ⟨_,hv⟩
  .split at hv
   .rename_i oi hi;have one:(I0 X.P X.n E ops f oi λf'=>J0 X.P X.n E ops BW o (listed.setIfInBounds i J) f' K)=U r->wpOp X.P ops (Gu Q) i (λa' w'=>(∀o,ops[i]? =U o->JW E ops i o a w a' w')/\Ik X.P E ops (Gu Q) fuel (listed.setIfInBounds i J) a' w') a w:=by
     intro hv;obtain⟨g,h1,h2,h3⟩:=WP h hE hv;unfold wpOp;simp only[hi];have hs1:=h3 (λa' w'=>(∀o,ops[i]? =U o->JW E ops i o a w a' w')/\Ik X.P E ops (Gu Q) fuel (listed.setIfInBounds i J) a' w') (Gu Q) λa' w' h' hst=>⟨λo' ho'=>by rw[hi]at ho';injection ho' with ho';subst ho';exact IL.t hi hst,(ih BW _ g a' w' fuel hlen' h' h1 λk a'' w'' k1 k2 k3=>hQ k a'' w'' k1 (h2.trans k2) k3).1 rfl⟩
     simp only[hi]at hs1;split
     .rename_i hwant;rw[zT hwant]at hs1;exact .inl hs1
     .rename_i hwant;rw[zS hwant]at hs1;exact hs1
    have all:∀j∈i::m.heads,wpOp X.P ops (Gu Q) j (λa' w'=>(∀o,ops[j]? =U o->JW E ops j o a w a' w')/\Ik X.P E ops (Gu Q) fuel (listed.setIfInBounds j J) a' w') a w:=by
     split at hv
     .intro j hj;have :j=i:=by simpa [EA.heads] using hj
      subst this;exact one hv
     .obtain⟨e1,e2⟩:=bWd hv;have hm:=(ihm J listed f a w (fuel+1) hlenm h e2 hQ).2 rfl;intro j hj;rcases Cl.1 hj with rfl | hj
      .exact one e1
      .obtain⟨fuel',he,hw⟩:=hm j hj;injection he with he;subst he;exact hw
    refine⟨λhb=> ?_,λ_ j hj=>⟨fuel,rfl,all j hj⟩⟩;subst hb;have hc:Region.ready .any ops listed=i::m.heads:=by simpa using hc
    refine⟨λhn=>(by rw[hc]at hn;cases hn),λj hj=>all j (by rw[<- hc];exact hj)⟩
   .cases hv
  .cases hv
theorem At.drew(h:At X f a w):At X f a {w with drawn:=w.drawn+1}:=by
 obtain⟨⟨c,ow,hsim,hpin⟩,hb,hn⟩:=h;have hrep:∀{v:Value} {t:T} {G:List Nat},Rep w v t G->Rep {w with drawn:=w.drawn+1} v t G:=λh=>h.frame λ_ _=>rfl
 have hrepl:∀{v:List Value} {t:List T} {G:List Nat},RepL w v t G->RepL {w with drawn:=w.drawn+1} v t G:=λh=>h.frame λ_ _=>rfl
 have hC:∀{ok:Nat->Prop} {v:Value} {x:C},aW c ow w ok v x->aW c ow {w with drawn:=w.drawn+1} ok v x:=by
  intro ok v x h;cases x with
  | v t y=>obtain⟨G,h1,h2⟩:=h;exact⟨G,hrep h1,h2⟩
  | ep t y off=>obtain⟨b,base,h1,h2,h3,xs,G,h4,h5,h6⟩:=h;exact⟨b,base,h1,h2,h3,xs,G,hrepl h4,h5,h6⟩
  | sub r k i off t y=>obtain⟨g,b0,n,cap,h1,h2,G,h3,h4⟩:=h;exact⟨g,b0,n,cap,h1,h2,G,hrep h3,h4⟩
  | ip _ _ _ _ _ _ _=>exact h
  | nil=>exact h
  | row _=>exact h
  | ptr _ _=>exact h
  | rp _ _ _ _=>exact h
  | clo _ _=>exact h
  | rc _ _ _ _=>exact h
  | any=>exact h
 have hA:∀{ok:Nat->Prop} {v:Value} {x:A},dT c ow w ok v x->dT c ow {w with drawn:=w.drawn+1} ok v x:=by
  intro ok v x h;cases x with
  | one y=>exact hC h
  | agg ys=>obtain⟨vs,h1,h2⟩:=h;exact⟨vs,h1,h2.mono λ_ _ _ h=>hC h⟩
 refine⟨⟨c,ow,⟨hsim.defers,λs n x hm=> ?_,λo n x hm=> ?_,hsim.uniq,hsim.rvs⟩,hpin⟩,⟨hb.os,hb.tape,hb.output,hb.size,hb.block⟩,hn⟩
 .obtain⟨v,hv,h1⟩:=hsim.fr s n x hm;refine⟨v,hv,?_⟩;cases x with
  | val y=>exact hA h1
  | tup ys=>obtain⟨vs,h2,h3⟩:=h1;exact⟨vs,h2,h3.mono λ_ _ _ h=>hA h⟩
  | un=>exact h1
 .have ho:=hsim.ob o n x hm;cases x with
  | box cs=>obtain⟨b1,b2,vs,ty,b3,b4⟩:=ho;exact⟨b1,b2,vs,ty,b3,b4.mono λ_ _ _ h=>hC h⟩
  | row e k t l deep=>obtain⟨r0,r1,r2,xs,G,r3,r4,r5,r6⟩:=ho;exact⟨r0,r1,r2,xs,G,r3,hrepl r4,r5,r6⟩
  | win k t l=>obtain⟨r0,r1,G,r2,r3,r4⟩:=ho;exact⟨r0,r1,G,hrep r2,r3,r4⟩
end
end Go.V
set_option linter.unusedVariables false
set_option linter.unusedSectionVars false
namespace Go.V
open Go.Ab Go.RowKit
theorem bOs{σ R:Type}{step:σ->Option (σ⊕R)}{s:σ}{r:R}(h:aB step s=U r):∃n,zF step n s=U r:=by
 unfold aB at h;split at h
 .exact⟨_,h⟩
 .cases h
theorem bPi{σ R:Type}{step:σ->Option (σ⊕R)}{n:Nat}{s:σ}{r:R}(h:zF step n s=U r):∃m y,n=m+1/\step s=U y/\(match y with | .inl s'=>zF step m s'=U r | .inr r'=>r'=r):=by
 cases n with
 | zero=>cases h
 | succ m=>
  obtain⟨y,hy,h1⟩:=bind_some (show Option.bind (step s) (Cd (zF step m) U)=U r from h);refine⟨m,y,rfl,hy,?_⟩;cases y with
  | inl s'=>exact h1
  | inr r'=>injection h1
def Rn{R:Type}(X:Dn)(f:F)(K:Exit->F->Option R)(r:R)(e:Exit)(a:Act)(w:World):Prop:= ∃g,K e g=U r/\Ce f g/\At X g a w
def Pt(X:Dn)(E:List Con)(cd:Code):Prop:= ∀{R:Type} (pl:Plan) (f:F) (K:Exit->F->Option R) (r:R),ev X.P X.n E cd pl f K=U r-> ∀a w,At X f a w->cd.wp X.P (Rn X f K r) a w
section
variable {X:Dn} {E:List Con}
theorem cIu{x y:Code}(hx:Pt X E x)(hy:Pt X E y):Pt X E (.seq x y):=by
 intro R pl f K r hv a w hat;have plain:∀p q,ev X.P X.n E x p f (λe g=>match e with
   | .normal=>ev X.P X.n E y q g K
   | e=>K e g)=U r->(Code.seq x y).wp X.P (Rn X f K r) a w:=by
  intro p q hv;refine wp_seq (Code.wp_mono ?_ (hx p f _ r hv a w hat))
  rintro e a' w' ⟨g,h1,h2,h3⟩
  cases e with
  | normal=>
   refine Code.wp_mono ?_ (hy q g K r h1 a' w' h3)
   rintro e a'' w'' ⟨k,k1,k2,k3⟩
   exact⟨k,k1,h2.trans k2,k3⟩
  | _=>exact⟨g,h1,h2,h3⟩
 cases pl with
 | cut h p q=>
  rcases bE (show cond (f.wf&&h.wf) _ _=U r from hv) with ⟨hw,hv⟩ | ⟨_,hv⟩
  .simp only[Ck]at hw;obtain⟨s,hs,hv⟩:=bind_some hv;refine wp_seq (Code.wp_mono ?_ (hx p f _ s hs a w hat))
   rintro e a' w' ⟨g,h1,h2,h3⟩
   cases e with
   | normal=>
    obtain⟨k,k1,k2,k3⟩:=PS (X:=X) h2 hw.1 hw.2 h1;rw[k1]at hv;refine Code.wp_mono ?_ (hy q k K r hv a' w' (k3 a' w' h3))
    rintro e a'' w'' ⟨k',l1,l2,l3⟩
    exact⟨k',l1,k2.trans l2,l3⟩
   | _=>cases h1
  .cases hv
 | cutR h p q=>
  rcases bE (show cond (f.wf&&h.wf) _ _=U r from hv) with ⟨hw,hv⟩ | ⟨_,hv⟩
  .simp only[Ck]at hw;obtain⟨s,hs,hv⟩:=bind_some hv;refine wp_seq (Code.wp_mono ?_ (hx p f _ s hs a w hat))
   rintro e a' w' ⟨g,h1,h2,h3⟩
   have other:(K e g).map A2=U s->Rn X f K r e a' w':=by
    intro h1;obtain⟨y,hy,rfl⟩:=CX.1 h1;injection hv with hv;subst hv;exact⟨g,hy,h2,h3⟩
   cases e with
   | normal=>
    obtain⟨y,hy',rfl⟩:=CX.1 h1;obtain⟨k,k1,k2,k3⟩:=PS (X:=X) h2 hw.1 hw.2 hy';have hv:lC (f.inj h y) (λg=>ev X.P X.n E _ q g K)=U r:=hv;rw[k1]at hv;refine Code.wp_mono ?_ (hy q k K r hv a' w' (k3 a' w' h3))
    rintro e a'' w'' ⟨k',l1,l2,l3⟩
    exact⟨k',l1,k2.trans l2,l3⟩
   | _=>exact other h1
  .cases hv
 | z=>exact plain _ _ hv
 | seq _ _=>exact plain _ _ hv
 | cond _ _=>exact plain _ _ hv
 | block _=>exact plain _ _ hv
 | loop _ _=>exact plain _ _ hv
theorem cGe{x:Code}(hx:Pt X E x):Pt X E (.loop x):=by
 intro R pl f K r hv a w hat;cases pl with
 | loop h p=>
  rcases bE (show cond (f.wf&&h.wf) _ _=U r from hv) with ⟨hw,hv⟩ | ⟨_,hv⟩
  .simp only[Ck]at hw;obtain⟨s0,hs0,hv⟩:=dV hv;obtain⟨n,hn⟩:=bOs hv;obtain⟨k0,q1,q2,q3⟩:=PS (X:=X) (.refl f) hw.1 hw.2 hs0;refine wp_loop_ghost (λk a w=> ∃s,zF (λs=>lC (f.inj h s) λg=>ev X.P X.n E x (R:=D4 h.tys⊕R) p g λe g'=>match e with
    | .normal=>(f.fit g' h).map Sum.inl
    | e=>(K e g').map A2) k s=U r/\ ∃g,f.inj h s=U g/\Ce f g/\At X g a w) n ⟨s0,hn,k0,q1,q2,q3 a w hat⟩ ?_
   rintro k a w ⟨s,hs,g,hg,hext,hat⟩
   obtain⟨m,y,rfl,hstep,hy⟩:=bPi hs;rw[hg]at hstep;refine Code.wp_mono ?_ (hx p g _ y hstep a w hat)
   rintro e a' w' ⟨g',h1,h2,h3⟩
   have other:(K e g').map A2=U y->Rn X f K r e a' w':=by
    intro h1;obtain⟨z,hz,rfl⟩:=CX.1 h1;have hy:z=r:=hy;subst hy;exact⟨g',hz,hext.trans h2,h3⟩
   cases e with
   | normal=>
    obtain⟨s',hs',rfl⟩:=CX.1 h1;obtain⟨k,k1,k2,k3⟩:=PS (X:=X) (hext.trans h2) hw.1 hw.2 hs';exact⟨m,Nat.lt_succ_self m,s',hy,k,k1,k2,k3 a' w' h3⟩
   | _=>exact other h1
  .cases hv
 | _=>cases hv
theorem cLp(hE:∀c∈E,c.Ok X.P)(hm:X.P.follows .mixedOrders=J):∀cd:Code,Pt X E cd:=by
 intro cd
 induction cd with
 | skip=>intro R pl f K r hv a w hat;exact wp_skip ⟨f,hv,.refl _,hat⟩
 | ret=>intro R pl f K r hv a w hat;exact wp_ret ⟨f,hv,.refl _,hat⟩
 | exit id=>intro R pl f K r hv a w hat;exact wp_exit ⟨f,hv,.refl _,hat⟩
 | region id ops b=>
  intro R pl f K r hv a w hat;cases b with
  | false=>exact wp_region_list (bV3 hE ops.toList f a w hat hv λg a' w' h1 h2 h3=>⟨g,h1,h2,h3⟩)
  | true=>
   rcases bE (show cond (Region.noSelect ops) _ _=U r from hv) with ⟨hns,hv⟩ | ⟨_,hv⟩
   .have h1:(Code.region id ops J).wp X.P (Gu (Rn X f K r)) a w:=
     wp_region_any hm (aZm _ _ _ _ ((bQh hE hns _ _ _ f a _ ops.size (Vb _ _ _ _) hat.drew hv λg a' w' h1 h2 h3=>⟨g,h1,h2,h3⟩).1 rfl))
    refine Code.wp_mono (λe a' w' hq=> ?_) h1;cases e with
    | panic c=>exact hq.elim
    | _=>exact hq
   .cases hv
 | seq x y hx hy=>exact cIu hx hy
 | cond c x y hx hy=>
  intro R pl f K r hv a w hat;unfold ev at hv;split at hv
  .rename_i b hc;obtain⟨⟨cx,ow,hs,hpin⟩,_,_⟩:=id hat;have hb:=IR (c:=cx) (ow:=ow) (hs.getC hc);refine wp_cond_split hb (λhb1=> ?_) (λhb1=> ?_)
   .subst hb1;exact hx _ f K r hv a w hat
   .subst hb1;exact hy _ f K r hv a w hat
  .cases hv
 | block id x hx=>
  intro R pl f K r hv a w hat;refine wp_block (Code.wp_mono ?_ (hx pl.l f _ r hv a w hat))
  rintro e a' w' ⟨g,h1,h2,h3⟩
  cases e with
  | exit j=>
   simp only[Exit.inBlock]at h1 ⊢;split
   .rename_i he;rw[zT he]at h1;exact⟨g,h1,h2,h3⟩
   .rename_i he;rw[zS he]at h1;exact⟨g,h1,h2,h3⟩
  | _=>exact⟨g,h1,h2,h3⟩
 | loop x hx=>exact cGe hx
 | _=>intro R pl f K r hv a w hat;cases hv
end
section
variable {M src:Nat->Prop} {c:Cx} {ow:Nat->Option Nat} {f:F} {a:Act} {w:World} {P:Program}
theorem bKy(h:aX M src c ow f a w){r:ResultVar}{x:A}(hr:T4 P f r=U x):
  ∃v,dT c ow w (BY src c ow f.ob) v x/\(OU a.tmps r).run P w= .ok v w:=by
 cases r with
 | tmp t=>
  simp only[T4]at hr;split at hr
  .rename_i x' hl;injection hr with hr;subst hr;obtain⟨n,hm⟩:=M9 hl;obtain⟨v,hv,h1⟩:=h.fr t _ _ hm;exact⟨v,h1,by simp[OU,ZE,hv]⟩
  .cases hr
 | cell t ty=>
  simp only[T4]at hr;split at hr
  .rename_i i off hl;split at hr
   .rename_i cs hb;obtain⟨n,hm⟩:=M9 hl;obtain⟨u,hu,h1⟩:=h.fr t _ _ hm;have hu':u= .pointer (U ⟨c.loc i,off,Y⟩):=h1;subst hu';have hbx:Hg M c ow w (BY src c ow f.ob) i cs:=h.obj hb;obtain⟨_,_,vs,tt,hh,ha⟩:=hbx;obtain⟨v,hr',hl'⟩:=NR hr ha;have h2:=hl' w (c.loc i) 0 (aQf hh);rw[Dc]at h2;refine⟨v,hr',?_⟩;simp[OU,ZE,hu,asAddr,h2]
   .cases hr
  .cases hr
theorem bKl(h:aX M src c ow f a w):∀{rs:List ResultVar} {i:Nat} {xs:List (Nat×Nat×S)},Nc P f i rs=U xs-> ∃vs:List Value,vs.length=rs.length/\(∀s n x,(s,n,x)∈xs-> ∃j v,s=i+j/\vs[j]? =U v/\jL c ow w (BY src c ow f.ob) v x)/\
  (rs.mapM (OU a.tmps)).run P w= .ok vs w:=by
 intro rs
 induction rs with
 | nil=>intro i xs hr;injection hr with hr;subst hr;exact⟨[],rfl,(λ_ _ _ hm=>by cases hm),rfl⟩
 | cons r rs ih=>
  intro i xs hr;unfold Nc at hr;split at hr
  .rename_i x xs' h1 h2;injection hr with hr;subst hr;obtain⟨v,g1,g2⟩:=bKy (P:=P) h h1;obtain⟨vs,g0,g3,g4⟩:=ih h2;refine⟨v::vs,by simp[g0],λs n y hm=> ?_,?_⟩
   .rcases Cl.1 hm with he | hm
    .injection he with e1 he;injection he with e2 e3;subst e1 e3;exact⟨0,v,rfl,rfl,g1⟩
    .obtain⟨j,u,q1,q2,q3⟩:=g3 s n y hm;exact⟨j+1,u,by omega,by simpa using q2,q3⟩
   .simp only[List.mapM_cons,Sem.run_bind,g2,Result.andThen_ok,g4];rfl
  .cases hr
theorem bFy(h:aX M src c ow f a w){fn:Func}{xs:List (Nat×Nat×S)}(hr:Nc P f 0 fn.results.toList=U xs):∃v vs,(results fn a.tmps).run P w= .ok v w/\QC v vs/\vs.length=fn.results.size/\ ∀s n x,(s,n,x)∈xs-> ∃v,vs[s]? =U v/\jL c ow w (BY src c ow f.ob) v x:=by
 obtain⟨vs,h0,h1,h2⟩:=bKl (P:=P) h hr;have he:fn.results=fn.results.toList.toArray:=by simp
 have h3:(results fn a.tmps).run P w= .ok (if h:vs.toArray.size=1 then vs.toArray[0] else .tuple vs.toArray) w:=by
  rw[bRz,he,List.mapM_toArray];simp only[Sem.run_bind,map_eq_pure_bind,bind_assoc,pure_bind,h2,Result.andThen_ok];rfl
 refine⟨_,vs,h3,?_,by simpa using h0,λs n x hm=> ?_⟩
 .match vs with
  | []=>rfl
  | [v]=>rfl
  | v::u::r=>simp[QC]
 .obtain⟨j,v,q1,q2,q3⟩:=h1 s n x hm;rw[Dc]at q1;subst q1;exact⟨v,q2,q3⟩
theorem RS:∀{f:F} {hs:List (Nat×ST)} {xs ys:List TV} {fr:List (Nat×Nat×S)},vY f hs xs=U (fr,ys)->fr.length=hs.length
 | f,[],xs,ys,fr,h=>by injection h with h;injection h with h _;subst h;rfl
 | f,(s,.keep)::hs,xs,ys,fr,h=>by
  simp only[vY]at h;split at h
  .split at h
   .rename_i hr;injection h with h;injection h with h _;subst h;simp[RS hr]
   .cases h
  .cases h
 | f,(s,.one c)::hs,xs,ys,fr,h=>by
  simp only[vY]at h;split at h
  .split at h
   .rename_i hr;injection h with h;injection h with h _;subst h;simp[RS hr]
   .cases h
  .cases h
 | f,(s,.agg cs)::hs,xs,ys,fr,h=>by
  simp only[vY]at h;split at h
  .split at h
   .rename_i hr;injection h with h;injection h with h _;subst h;simp[RS hr]
   .cases h
  .cases h
theorem bM4{h:Sh}{x:D4 h.tys}{p:F}(hp:f.inj h x=U p):p.fr.length=h.fr.length:=by
 unfold F.inj at hp;split at hp
 .rename_i fr xs hfr;split at hp
  .injection hp with hp;subst hp;exact RS hfr
  .cases hp
 .cases hp
end
theorem cL1{P:Program}{E:List Con}{c:Con}{fn:Func}{pl:Plan}(hf:P.funcs[c.f]? =U fn)(hn:(fn.name=="runtime.NumGoroutine")=BW)(hm:P.follows .mixedOrders=J)(hE:∀e∈E,e.Ok P)
  (hsem:∀x y,c.sem x=U y->YY P E fn pl c.pre c.post x=U y):c.Ok P:=by
 intro x y f g hx hfx hgy;have hv:=hsem x y hx;unfold YY at hv;split at hv
 .rename_i cd hb;rcases bE hv with ⟨hcd,hv⟩ | ⟨_,hv⟩
  .simp only[Ck]at hcd;obtain⟨hw,hl,hnt⟩:=hcd;have hl:c.post.fr.length=fn.results.size:=Nat.eq_of_beq_eq_true hl;have hnt:c.pre.fr.length<=fn.ntmps:=Nat.le_of_ble_eq_true hnt;obtain⟨f',hf',hv⟩:=dV hv;rw[hfx]at hf';injection hf' with hf';subst hf';refine⟨bS9 hf hn (by rw[hb];rfl),λw M src cx ow vs hM hsrc hs hvl=> ?_⟩;refine calls_of_wp hf hb ?_
   let X:Dn:=⟨P,fn.ntmps,w,M,src,cx,hM,hsrc⟩
   have hvl':vs.length<=fn.ntmps:=by rw[hvl,bM4 hfx];exact hnt
   have hat:At X f {tmps:=vs.toArray++Array.replicate (fn.ntmps - vs.toArray.size) undef,defers:=[]} w:=by
    refine⟨⟨cx,ow,⟨rfl,λs n x hm=> ?_,hs.ob,hs.uniq,hs.rvs⟩,λo _=>⟨rfl,rfl⟩⟩,qI.refl _ _,by simp;show _=fn.ntmps;omega⟩;obtain⟨v,hv',h1⟩:=hs.fr s n x hm;have hv':vs[s]? =U v:=by simpa [DJ] using hv'
    have hlt:s<vs.length:=(Cu.1 hv').1;exact⟨v,by rw[Array.getElem?_append_left (by simpa using hlt)];simpa using hv',h1⟩
   refine Code.wp_mono ?_ (cLp (X:=X) hE hm cd pl f _ y hv _ w hat)
   rintro e a w' ⟨g',h1,h2,⟨c1,ow1,hs1,hpin1⟩,hb1,hn1⟩
   have fin:(lC (Nc P g' 0 fn.results.toList) λrs=>F0.fit ⟨g'.ctr+1,rs,g'.ob⟩ c.post)=U y->a.defers=[]/\ ∃v,(results fn a.tmps).run P w'= .ok v w'/\
     ∃v' us c' ow',Ending.returned v= .returned v'/\QC v' us/\qI M w w'/\aX M src c' ow' g (DJ us) w'/\us.length=g.fr.length/\ ∀o,pinned o=J->c'.loc o=cx.loc o/\c'.rv o=cx.rv o:=by
    intro h1;obtain⟨rs,hrs,h1⟩:=dV h1;obtain⟨v,us,r1,r2,r3,r4⟩:=bFy (P:=P) hs1 hrs
    let X':Dn:=⟨P,us.length,w,M,src,cx,hM,hsrc⟩
    have hat':At X' ⟨g'.ctr+1,rs,g'.ob⟩ (DJ us) w':=by
     refine⟨⟨c1,ow1,⟨rfl,λs n x hm=> ?_,hs1.ob,hs1.uniq,hs1.rvs⟩,hpin1⟩,hb1,by simp[DJ];rfl⟩;obtain⟨u,q1,q2⟩:=r4 s n x hm;exact⟨u,by simpa [DJ] using q1,q2⟩
    obtain⟨k,k1,k2,k3⟩:=PS (X:=X') (f:=F0) (g:=⟨g'.ctr+1,rs,g'.ob⟩) ⟨C3 _,λ_ _ _ _ hlt=>absurd hlt (Nat.not_lt_zero _),λ_ _ _ _ hlt=>absurd hlt (Nat.not_lt_zero _)⟩ rfl hw h1;rw[hgy]at k1;injection k1 with k1;subst k1;obtain⟨⟨c2,ow2,hs2,hpin2⟩,hb2,hn2⟩:=k3 _ _ hat';exact⟨hs1.defers,v,r1,v,us,c2,ow2,rfl,r2,hb2,hs2,by rw[bM4 hgy,hl,r3],hpin2⟩
   cases e with
   | ret=>exact fin h1
   | normal=>exact fin h1
   | _=>cases h1
  .cases hv
 .cases hv
def JN(P:Program):List Con->Prop
 | []=>True
 | c::cs=>c.Ok P/\JN P cs
theorem JN.mem{P:Program}:∀{E:List Con},JN P E-> ∀e∈E,e.Ok P
 | [],_,e,he=>by cases he
 | c::cs,h,e,he=>by
  rcases Cl.1 he with rfl | he
  .exact h.1
  .exact JN.mem h.2 e he
end Go.V
set_option linter.unusedVariables false
namespace Go.V
open Go.Ab Go.RowKit Go.ChangeShapes Go.WideShapes Go.ChangeAt
def Wf:(t:Ty)->den t->Prop
 | .int k,x=>k.min<=x/\x<=k.max
 | .bool,_=>True
 | .str,x=>x.size<=maxLen
 | .sl t,l=>l.length<=maxLen/\ ∀e∈l,Wf t e
 | .pair a b,x=>Wf a x.1/\Wf b x.2
theorem bL5{w:World}{t:Ty}{Q:den t->Prop}(hq:∀(e:den t) (ys:List Value) (H:List Nat),RepL w ys (cells t e) H->Q e):∀(l:List (den t)) {xs:List Value} {G:List Nat},RepL w xs (l.map (cells t)).flatten G-> ∀e∈l,Q e
 | [],_,_,_,e,he=>by cases he
 | y::l,xs,G,h,e,he=>by
  rw[CA,Fu]at h;obtain⟨G1,G2,h1,h2,h3⟩:=h.take (cells t y).length;rw[Mn]at h1;rw[List.drop_left]at h2;rcases Cl.1 he with rfl | he
  .exact hq _ _ _ h1
  .exact bL5 hq l h2 e he
theorem RN{w:World}:∀(t:Ty) (x:den t) {xs:List Value} {F:List Nat},RepL w xs (cells t x) F->Wf t x
 | .int k,x,xs,F,h=>by
  cases h with
  | cons h _=>cases h with | lit h=>simpa [plain,Wf] using h
 | .bool,x,xs,F,h=>trivial
 | .str,x,xs,F,h=>by
  cases h with
  | cons h _=>cases h with | lit h=>simpa [plain,Wf] using h
 | .sl t,l,xs,F,h=>by
  cases h with
  | cons h _=>
   refine⟨by obtain⟨_,_,_,h1⟩:=Rep.len h;simpa using h1,?_⟩;generalize hes:List.map (cells t) l=es at h;cases h with
   | nil _=>
    have :l=[]:=by simpa using hes
    subst this;simp
   | cons hn h0 hk0 hk hc hm hx hcell hr=>
    subst hes;exact bL5 (λe ys H h=>RN t e h) l hr
 | .pair a b,x,xs,F,h=>by
  simp only[cells]at h;obtain⟨G1,G2,h1,h2,h3⟩:=h.take (cells a x.1).length;rw[Mn]at h1;rw[List.drop_left]at h2;exact⟨RN a x.1 h1,RN b x.2 h2⟩
def Dec(P:Program)(t:TypeId)(ty:Ty):Prop:=
 ∀(H:Type) (enc:TypeId×Value->H) (w:World) (base:Nat) (spare:Nat->Bool) (held:Bool) (fuel:Nat) (cs:List Value) (x:DataW H×List MemPlace),DataW.trod enc P w base spare held fuel t cs=U x-> ∃(a:den ty) (F:List Nat),RepL w cs (cells ty a) F
section
variable {P:Program} {t e:TypeId}
theorem cF1{k:IntKind}(ht:P.underlying t=U (.int k)):Dec P t (.int k):=by
 intro H enc w base spare held fuel cs x h;obtain⟨n,rfl,_,hw⟩:=DataW.trod_int ht h;exact⟨n,_,.cons (.lit hw) .nil⟩
theorem cAf(ht:P.underlying t=U .bool):Dec P t .bool:=by
 intro H enc w base spare held fuel cs x h;obtain⟨b,rfl,_⟩:=DataW.trod_bool ht h;exact⟨b,_,.cons (.lit rfl) .nil⟩
theorem cFa(ht:P.underlying t=U .string):Dec P t .str:=by
 intro H enc w base spare held fuel cs x h;obtain⟨s,rfl,_,hs⟩:=DataW.trod_string ht h;exact⟨s,_,.cons (.lit (by simpa [plain] using hs)) .nil⟩
theorem bWr{ty:Ty}{w:World}{k:Nat}{b off:Nat}:∀(n i:Nat),(∀j,i<=j->j<i+n-> ∃(us:List Value) (a:den ty) (F:List Nat),us.length=k/\(∀m,m<k->w.cell? ⟨b,off+(j * k+m),Y⟩=us[m]?)/\RepL w us (cells ty a) F)->
  ∃(l:List (den ty)) (xs:List Value) (F:List Nat),l.length=n/\xs.length=n * k/\(∀j u,xs[j]? =U u->w.cell? ⟨b,off+(i * k+j),Y⟩=U u)/\RepL w xs (l.map (cells ty)).flatten F:=by
 intro n
 induction n with
 | zero=>intro i _;exact⟨[],[],[],rfl,by simp,by simp,.nil⟩
 | succ n ih=>
  intro i h;obtain⟨us,a,F,h1,h2,h3⟩:=h i (Cz _) (by omega);obtain⟨l,xs,G,g1,g2,g3,g4⟩:=ih (i+1) λj hj hj'=>h j (by omega) (by omega)
  refine⟨a::l,us++xs,F++G,by simp[g1],by simp[h1,g2,CZ,Nat.add_comm],λj u hu=> ?_,by simpa using h3.append g4⟩
  by_cases hj:j<k
  .rw[List.getElem?_append_left (by omega)]at hu;rw[h2 j hj];exact hu
  .rw[List.getElem?_append_right (by omega),h1]at hu;have :=g3 (j - k) u hu;rw[CZ]at this;rw[show i * k+j=i * k+k+(j - k) by omega];exact this
theorem bU1{ty:Ty}(ht:P.underlying t=U (.slice e))(hk:P.cellsOf e=tyLen ty)(hd:Dec P e ty):Dec P t (.sl ty):=by
 have h0:0<tyLen ty:=VA ty;intro H enc w base spare held fuel cs x h;rcases DataW.trod_slice ht h with ⟨rfl,_⟩ | ⟨a,len,cap,elems,rest,n,_,rfl,_,hb,hl,hm,hel,hels,_,_⟩
 .exact⟨[],[],by simpa [cells] using RepL.cons (F:=[]) (.nil (C3 _)) .nil⟩
 .rw[hk]at hels;rcases P7 len with rfl | hpos
  .exact⟨[],[],by simpa [cells] using RepL.cons (F:=[]) (.nil hm) .nil⟩
  .have each:∀j,j<len-> ∃(us:List Value) (x:den ty) (F:List Nat),us.length=tyLen ty/\(∀m,m<tyLen ty->w.cell? ((a.add (j * tyLen ty)).add m)=us[m]?)/\RepL w us (cells ty x) F:=by
    intro j hj;have h1:=hels j hj;have h2:elems[j]? =U elems[j]:=Cs (by omega);rw[h2,Option.bind_eq_some_iff]at h1;obtain⟨us,hus,htr⟩:=h1;obtain⟨_,hul,huc⟩:=World.cells?_some hus;obtain⟨x,F,hr⟩:=hd H enc w base spare held n us _ htr;exact⟨us,x,F,hul,huc,hr⟩
   have hsp:a.spot=Y:=by
    obtain⟨us,_,_,h1,h2,_⟩:=each 0 hpos;have h3:=h2 0 h0;have h4:us[0]? =U us[0]:=Cs (by omega);rw[h4]at h3;unfold World.cell? at h3;split at h3
    .split at h3
     .cases h3
     .rename_i hs;cases ha:a.spot with
      | none=>rfl
      | some z=>simp[Addr.add,ha]at hs
    .cases h3
   obtain⟨ab,ao,as⟩:=a;simp only at hsp;subst hsp;obtain⟨l,xs,F,g1,g2,g3,g4⟩:=bWr (ty:=ty) (w:=w) (b:=ab) (off:=ao) len 0 λj _ hj=>by
    obtain⟨us,x,F,h1,h2,h3⟩:=each j (by omega);refine⟨us,x,F,h1,λm hm=> ?_,h3⟩;rw[<- h2 m hm];simp only[Lv,Nat.add_assoc]
   refine⟨l,ab::F++[],.cons (.cons (k:=tyLen ty) (by simpa using g1) hpos h0 (λe he=> ?_) hl hm g2 (λj u hu=> ?_) g4) .nil⟩
   .obtain⟨y,_,rfl⟩:=Ch.1 he;exact dI ty y
   .have :=g3 j u hu;simpa using this
def Rl(P:Program)(fs:List Field)(off:Nat)(ty:Ty):Prop:=
 ∀(H:Type) (enc:TypeId×Value->H) (w:World) (base:Nat) (spare:Nat->Bool) (held:Bool) (n:Nat) (cs:List Value),cs.length=off+tyLen ty->(∀f∈fs,(DataW.trod enc P w base spare held n f.type ((cs.drop f.offset).take (P.cellsOf f.type))).isSome=J)-> ∃(a:den ty) (F:List Nat),RepL w (cs.drop off) (cells ty a) F
theorem bZc{f:Field}{ty:Ty}{off:Nat}(hd:Dec P f.type ty)(ho:f.offset=off)(hk:P.cellsOf f.type=tyLen ty):Rl P [f] off ty:=by
 intro H enc w base spare held n cs hl hf;obtain⟨x,hx⟩:=ZG.1 (hf f (Cy.2 rfl));obtain⟨a,F,hr⟩:=hd H enc w base spare held n _ x hx;rw[ho,hk,List.take_of_length_le (by simp;omega)]at hr;exact⟨a,F,hr⟩
theorem bTy{f:Field}{fs:List Field}{ta tb:Ty}{off:Nat}(hd:Dec P f.type ta)(ho:f.offset=off)(hk:P.cellsOf f.type=tyLen ta)(hs:Rl P fs (off+tyLen ta) tb):Rl P (f::fs) off (.pair ta tb):=by
 intro H enc w base spare held n cs hl hf;obtain⟨x,hx⟩:=ZG.1 (hf f (CC ..));obtain⟨a,F,hr⟩:=hd H enc w base spare held n _ x hx;rw[ho,hk]at hr;obtain⟨b,G,hg⟩:=hs H enc w base spare held n cs (by simp only[tyLen]at hl;omega) λf' hf'=>hf f' (C1 _ hf')
 refine⟨(a,b),F++G,?_⟩;have :=hr.append hg;rw[<- List.drop_drop,FW]at this;exact this
theorem bR4{fs:Array Field}{ty:Ty}(ht:P.underlying t=U (.struct fs))(hk:P.cellsOf t=tyLen ty)(hs:Rl P fs.toList 0 ty):Dec P t ty:=by
 intro H enc w base spare held fuel cs x h;obtain⟨xs,n,_,_,hl,hn,hf⟩:=DataW.trod_struct ht h;obtain⟨a,F,hr⟩:=hs H enc w base spare held n cs (by rw[hl,hk];omega) λf hf'=>by
  obtain⟨i,hi⟩:=List.getElem?_of_mem hf';have hi':fs[i]? =U f:=by simpa using hi
  rw[hf i f hi'];have hlt:i<xs.length:=by
   rw[hn];exact (GG.1 hi').1
  rw[Cs hlt];rfl
 exact⟨a,F,by simpa using hr⟩
def OM(P:Program)(g:TypeId->Option Ty):Nat->List Field->Option Ty
 | _,[]=>Y
 | off,f::fs=>match g f.type with
  | some a=>if f.offset=off/\P.cellsOf f.type=tyLen a then (match fs with
   | []=>U a
   | _::_=>(OM P g (off+tyLen a) fs).map (Ty.pair a)) else Y
  | none=>Y
def Pc(P:Program):Nat->TypeId->Option Ty
 | 0=>λ_=>Y
 | n+1=>λt=>
  match P.underlying t with
  | some (.int k)=>U (.int k)
  | some .bool=>U .bool
  | some .string=>U .str
  | some (.slice e)=>match Pc P n e with
   | some ty=>if P.cellsOf e=tyLen ty then U (.sl ty) else Y
   | none=>Y
  | some (.struct fs)=>match OM P (Pc P n) 0 fs.toList with
   | some ty=>if P.cellsOf t=tyLen ty then U ty else Y
   | none=>Y
  | _=>Y
theorem decTy_sound:∀(n:Nat) {t:TypeId} {ty:Ty},Pc P n t=U ty->Dec P t ty
 | 0,t,ty,h=>by simp[Pc]at h
 | n+1,t,ty,h=>by
  have fields:∀(fs:List Field) (off:Nat) (ty:Ty),OM P (Pc P n) off fs=U ty->Rl P fs off ty:=by
   intro fs
   induction fs with
   | nil=>intro off ty h;simp[OM]at h
   | cons f fs ih=>
    intro off ty h;cases fs with
    | nil=>
     simp only[OM]at h;split at h
     .rename_i a ha;split at h
      .rename_i hc;injection h with h;subst h;exact bZc (decTy_sound n ha) hc.1 hc.2
      .cases h
     .cases h
    | cons g fs=>
     simp only[OM]at h;split at h
     .rename_i a ha;split at h
      .rename_i hc;obtain⟨b,hb,rfl⟩:=CX.1 h;exact bTy (decTy_sound n ha) hc.1 hc.2 (ih _ _ hb)
      .cases h
     .cases h
  unfold Pc at h;split at h
  .rename_i ht;injection h with h;subst h;exact cF1 ht
  .rename_i ht;injection h with h;subst h;exact cAf ht
  .rename_i ht;injection h with h;subst h;exact cFa ht
  .rename_i ht;split at h
   .rename_i ty' hty;split at h
    .rename_i hk;injection h with h;subst h;exact bU1 ht hk (decTy_sound n hty)
    .cases h
   .cases h
  .rename_i ht;split at h
   .rename_i ty' hty;split at h
    .rename_i hk;injection h with h;subst h;exact bR4 ht hk (fields _ _ _ hty)
    .cases h
   .cases h
  .cases h
def U7:Cx:=⟨λ_=>0,λ_=> .slice Y 0 0⟩
def TA(w:World)(v:Value)(x:A):Prop:=dT U7 (λ_=>Y) w (λ_=>True) v x
theorem arg_one{ty:Ty}{H:Type}{enc:TypeId×Value->H}{w:World}{v:Value}{d:DataW H}{ps:List MemPlace}(hd:Dec P t ty)(hag:v.cells= #[v])(h:DataW.Trod enc P w 0 (λ_=>J) J t v d ps)(hty:∀a:den ty,cells ty a=[fX ty a]):∃a:den ty,Wf ty a/\TA w v (.one (.v ty a)):=by
 obtain⟨fuel,hf⟩:=h;obtain⟨a,F,hr⟩:=hd H enc w 0 _ J fuel _ _ hf;have hw:=RN ty a hr;rw[hag,hty]at hr;cases hr with
 | cons h1 h2=>exact⟨a,hw,_,h1,λ_ _=>trivial⟩
end
theorem ok_slice{P:Program}{t e:TypeId}{w:World}{r:Reach}{b:Nat}{v:Value}(ht:P.underlying t=U (.slice e))(h:Value.okWide P w r b t v):v.cells= #[v]:=by
 cases v<;>first | rfl | simp[Value.okWide,ht,Cell.okWide,Cell.ok]at h
section
variable {H:Type} {enc:TypeId×Value->H} {P:Program}
theorem aS4{W W':World}(hl:laidOutB P=J)(hb:Below W.heap.size W W'):∀{ts:List TypeId} {vs:List Value} {ds:List (DataW H)} {ps:List MemPlace},(ts.all λt=>P.readableRec t&&Z (t<P.types.size))=J->DataW.TrodAll enc P W 0 (λ_=>J) J ts vs ds ps->
  (∀x∈ps,x.block<W.heap.size)-> ∀sp:Nat->Bool,(∀p∈ps,sp p.block=J)->DataW.TrodAll enc P W' 0 sp J ts vs ds ps
 | [],[],[],_,_,h,_,_,_=>h
 | t::ts,v::vs,d::ds,ps,hr,⟨p,q,h1,h2,hp⟩,hlt,sp,hs=>by
  subst hp;simp only[List.all_cons,Ck,zR]at hr;refine⟨p,q,?_,aS4 hl hb hr.2 h2 (λx hx=>hlt x (D5 _ hx)) sp (λx hx=>hs x (D5 _ hx)),rfl⟩;exact WideElems.Trod_stays hl hr.1.1 hr.1.2 h1 (λx hx=>hb.same (hlt x (Ds _ hx))) (λx hx=>hs x (Ds _ hx))
theorem post_below{f:Func}{s:ChangeSpec}{W W':World}{args:Array Value}{ds:List (DataW H)}{before:List MemPlace}(hl:laidOutB P=J)(hr:(f.params.toList.all λt=>P.readableRec t&&Z (t<P.types.size))=J)(hv:s.vars=[])
  (hW:DataW.Whole enc P f.params.toList s.vars BW W args.toList ds [] before) (hb:Below W.heap.size W W') (hfn:s.fn H (ds++[])={results:=[.lit (.bool J)],args:=ds}) {tb:TypeId} (ht:f.resultTypes= #[tb]) (hu:P.underlying tb=U .bool):
  s.post enc P f BW J BW BW W args (.bool J) W':=by
 have hold:∀p∈before,(λb=>Z (b<W.heap.size)) p.block=J:=λp hp=>by simpa using hW.lt p hp
 have hlt:∀p∈before,p.block<W.heap.size:=λp hp=>by simpa using hold p hp
 obtain⟨p,q,hA,hV,hpq,hz,hn⟩:=id hW;rw[hv]at hV;obtain⟨_,rfl⟩:=trodVars_none hV;rw[CU]at hpq;subst hpq;have hres:∀(b:Nat) (sp:Nat->Bool) (hd:Bool),DataW.TrodAll enc P W' b sp hd f.resultTypes.toList ((Value.bool J).resultList f.resultTypes.size) (s.fn H (ds++[])).results []:=by
  intro b sp hd;rw[hfn,ht];exact trodAll_cons_mk (shut_bool hu _) trodAll_mk0
 have hargs:∀sp:Nat->Bool,(∀x∈before,sp x.block=J)->DataW.TrodAll enc P W' 0 sp J f.params.toList args.toList (s.fn H (ds++[])).args before:=by
  intro sp hs;rw[hfn];exact aS4 hl hb hr hA hlt sp hs
 have hvars:∀sp:Nat->Bool,DataW.TrodVars enc P W' sp s.vars (s.fn H (ds++[])).vars []:=by
  intro sp;rw[hv,hfn];rfl
 refine⟨ds,[],before,[],before,[],hW,hres _ _ _,hargs _ hold,hvars _,hb.frame _,λ_=> ?_⟩;refine⟨ok_one (by rw[ht]) rfl (okWide_bool_mk hu _),_,_,([]++before)++[],⟨[]++before,[],trodAll_append (hargs _ (λ_ _=>rfl)) (hres _ _ _),hvars _,rfl,?_,?_⟩,?_⟩
 .intro b off hp;have hp':MemPlace.cell b off∈before:=by simpa using hp
  rw[hb.frozen (p:=⟨b,off,Y⟩) (hlt _ hp')];exact hz b off hp'
 .intro ha;cases ha
 .intro p hp _;simpa using hp
def QZ:Nat->List A->List (Nat×Nat×S)
 | _,[]=>[]
 | i,x::xs=>(i,0,.val x)::QZ (i+1) xs
theorem bD9:∀(i:Nat) (xs:List A),(QZ i xs).length=xs.length
 | _,[]=>rfl
 | i,x::xs=>by simp[QZ,bD9 (i+1) xs]
theorem bTt{vs:List Value}{xs:List A}{W:World}(h:bD (TA W) vs xs):∀{i s n:Nat} {x:S},(s,n,x)∈QZ i xs-> ∃j v y,s=i+j/\vs[j]? =U v/\x= .val y/\TA W v y:=by
 induction h with
 | nil=>intro i s n x hm;cases hm
 | cons h1 h2 ih=>
  intro i s n x hm;rcases Cl.1 hm with he | hm
  .injection he with e1 he;injection he with _ e2;subst e1 e2;exact⟨0,_,_,rfl,rfl,rfl,h1⟩
  .obtain⟨j,v,y,g1,g2,g3⟩:=ih hm;exact⟨j+1,v,y,by omega,by simpa using g2,g3⟩
theorem calls_law{c:Con}(hok:c.Ok P){x:D4 c.pre.tys}{y:D4 c.post.tys}{W:World}{args:Array Value}{xs:List A}(hsem:c.sem x=U y)(hpre:F0.inj c.pre x=U ⟨1,QZ 0 xs,[]⟩)(hpost:F0.inj c.post y=U ⟨1,[(0,0,.val (.one (.v .bool J)))],[]⟩)(ha:bD (TA W) args.toList xs):
  Calls P c.f args W λe W'=>e= .returned (.bool J)/\Below W.heap.size W W':=by
 obtain⟨_,hm⟩:=hok x y _ _ hsem hpre hpost;have hlive:∀b,¬ live U7 (λ_=>Y) [] b:=λb ⟨_,_,_,hm,_⟩=>by cases hm
 have hokB:BY (λ_=>True) U7 (λ_=>Y) []=λ_=>True:=by
  funext b;exact propext ⟨λ_=>trivial,λ_=>⟨trivial,hlive b⟩⟩
 have h:=hm W (λb=>W.heap.size<=b) (λ_=>True) U7 (λ_=>Y) args.toList (λb hb=>hb) (λ_ _=>trivial)
  ⟨rfl,λs n z hmem=>by
   obtain⟨j,v,y,g1,g2,g3,g4⟩:=bTt ha hmem;subst g3;have :s=j:=by omega
   subst this;refine⟨v,by simpa [DJ] using g2,?_⟩;show dT _ _ _ _ _ _;rw[hokB];exact g4,λo n z hm=>(by cases hm),λo n z m z' hm=>(by cases hm),λr=>⟨_,_,_,rfl⟩⟩ (by rw[bD9];exact ha.length)
 have hargs:args.toList.toArray=args:=by simp
 rw[hargs]at h;refine h.mono λe W' ⟨v,us,c',ow',he,hres,hb,hsim,hlen,_⟩=>⟨?_,hb.os,hb.tape,hb.output,hb.size,λk hk=>hb.block k hk (by omega)⟩
 obtain⟨u,hu,hr⟩:=hsim.fr 0 0 _ (Cy.2 rfl);have hr:=IR (c:=c') (ow:=ow') hr;have hlen:us.length=1:=hlen
 match us,hlen with
 | [u'],_=>
  have hu:u'=u:=by simpa [DJ] using hu
  have hv:v=u':=hres;rw[he,hv,hu,hr]
end
end Go.V
set_option linter.unusedVariables false
namespace Go.V
open Go.Ab Go.RowKit
section
variable {σ R:Type} {step:σ->Option (σ⊕R)}
theorem bQi{n:Nat}{s:σ}{r:R}(h:zF step n s=U r):zF step (n+1) s=U r:=by
 induction n generalizing s with
 | zero=>cases h
 | succ n ih=>
  have h:Option.bind (step s) (Cd (zF step n) U)=U r:=h;show Option.bind (step s) (Cd (zF step (n+1)) U)=U r;cases hs:step s with
  | none=>rw[hs]at h;cases h
  | some y=>
   rw[hs]at h;cases y with
   | inl s'=>exact ih h
   | inr r'=>exact h
theorem bG2{n m:Nat}(hm:n<=m){s:σ}{r:R}(h:zF step n s=U r):zF step m s=U r:=by
 induction hm with
 | refl=>exact h
 | step _ ih=>exact bQi ih
theorem bIc{n:Nat}{s:σ}{r:R}(h:zF step n s=U r):aB step s=U r:=by
 have hex:∃n,(zF step n s).isSome=J:=⟨n,by rw[h];rfl⟩
 unfold aB;rw[dif_pos hex];obtain⟨r',hr'⟩:=ZG.1 hex.choose_spec;rcases Nat.le_total n hex.choose with hle | hle
 .exact bG2 hle h
 .rw[bG2 hle hr']at h;rw[hr'];exact h
theorem bEd{s:σ}{r:R}:aB step s=U r↔ ∃n,zF step n s=U r:=by
 constructor
 .intro h;unfold aB at h;split at h
  .exact⟨_,h⟩
  .cases h
 .rintro⟨n,h⟩;exact bIc h
theorem aH{s:σ}{r:R}(h:step s=U (.inr r)):aB step s=U r:=
 bIc (n:=1) (by show Option.bind (step s) _=_;rw[h];rfl)
theorem aO{s s':σ}(h:step s=U (.inl s')):aB step s=aB step s':=by
 have key:∀r,aB step s=U r↔aB step s'=U r:=by
  intro r;rw[bEd,bEd];constructor
  .rintro⟨n,hn⟩
   cases n with
   | zero=>cases hn
   | succ n=>
    refine⟨n,?_⟩;have hn:Option.bind (step s) (Cd (zF step n) U)=U r:=hn;rw[h]at hn;exact hn
  .rintro⟨n,hn⟩
   refine⟨n+1,?_⟩;show Option.bind (step s) (Cd (zF step n) U)=U r;rw[h];exact hn
 cases h1:aB step s with
 | none=>
  cases h2:aB step s' with
  | none=>rfl
  | some r=>rw[(key r).2 h2]at h1;cases h1
 | some r=>exact ((key r).1 h1).symm
theorem bUk(st:Nat->σ)(m:Nat)(h:∀k,k<m->step (st k)=U (.inl (st (k+1)))):aB step (st 0)=aB step (st m):=by
 induction m with
 | zero=>rfl
 | succ m ih=>rw[ih λk hk=>h k (by omega)];exact aO (h m (by omega))
theorem bZl{st:Nat->σ}{m:Nat}{r:R}(h:∀k,k<m->step (st k)=U (.inl (st (k+1))))(he:step (st m)=U (.inr r)):aB step (st 0)=U r:=by
 rw[bUk st m h];exact aH he
end
theorem wri{n:Int}(h0: -9223372036854775808<=n)(h1:n<=9223372036854775807):IntKind.i64.wrap n=n:=by
 have :plain (.int .i64 n)=J:=by simp[plain,IntKind.min,IntKind.max,IntKind.signed,IntKind.bits];omega
 simp only[IntKind.wrap,IntKind.signed,IntKind.bits];simp;omega
theorem aQ{α:Type}{l:List α}{k:Nat}:idx l (k:Int)=l[k]? :=by simp[idx]
@[simp] theorem aA {α β:Type} (x:α) (f:α->Option β):Option.bind (U x) f=f x:=rfl
@[simp] theorem cMo {α β:Type} (f:α->Option β):Option.bind Y f=Y:=rfl
end Go.V
set_option linter.unusedVariables false
namespace Go.V
open Go.Ab Go.RowKit
def Cc(B:Nat):(t:Ty)->den t->Prop
 | .int _,_=>True
 | .bool,_=>True
 | .str,_=>True
 | .sl t,l=>l.length<=B/\ ∀e∈l,Cc B t e
 | .pair a b,x=>Cc B a x.1/\Cc B b x.2
theorem Cc.mono{B C:Nat}(h:B<=C):∀{t:Ty} {x:den t},Cc B t x->Cc C t x
 | .int _,_,_=>trivial
 | .bool,_,_=>trivial
 | .str,_,_=>trivial
 | .sl t,l,hx=>⟨B5 hx.1 h,λe he=>(hx.2 e he).mono h⟩
 | .pair a b,x,hx=>⟨hx.1.mono h,hx.2.mono h⟩
theorem Cc.flat{B:Nat}:∀{t:Ty} {x:den t},flat t=J->Cc B t x
 | .int _,_,_=>trivial
 | .bool,_,_=>trivial
 | .str,_,_=>trivial
 | .sl t,l,hx=>by cases hx
 | .pair a b,x,hx=>by
  simp only[Go.V.flat,Ck]at hx;exact⟨Cc.flat hx.1,Cc.flat hx.2⟩
def tot:(t:Ty)->den t->Nat
 | .int _,_=>0
 | .bool,_=>0
 | .str,_=>0
 | .sl t,l=>l.length+(l.map (tot t)).sum
 | .pair a b,x=>tot a x.1+tot b x.2
theorem VT:∀{t:Ty} {x:den t},flat t=J->tot t x=0
 | .int _,_,_=>rfl
 | .bool,_,_=>rfl
 | .str,_,_=>rfl
 | .sl t,l,hx=>by cases hx
 | .pair a b,x,hx=>by
  simp only[flat,Ck]at hx;simp only[tot];rw[VT hx.1,VT hx.2]
theorem SW{α:Type}{f:α->Nat}:∀{l:List α} {x:α},x∈l->f x<=(l.map f).sum
 | y::l,x,h=>by
  simp only[CA,D6];rcases Cl.1 h with rfl | h
  .omega
  .have :=SW (f:=f) h;omega
theorem bH{B:Nat}:∀{t:Ty} {x:den t},tot t x<=B->Cc B t x
 | .int _,_,_=>trivial
 | .bool,_,_=>trivial
 | .str,_,_=>trivial
 | .sl t,l,h=>by
  simp only[tot]at h;exact⟨by omega,λe he=>bH (by have :=SW (f:=tot t) he;omega)⟩
 | .pair a b,x,h=>by
  simp only[tot]at h;exact⟨bH (by omega),bH (by omega)⟩
theorem sI{a b:Ty}{x:den (.pair a b)}:tot (.pair a b) x=tot a x.1+tot b x.2:=rfl
theorem vZ{k:IntKind}{x:den (.int k)}:tot (.int k) x=0:=rfl
theorem DQ{a b:Ty}{x:den (.pair a b)}{N:Nat}(h:tot (.pair a b) x<=N):tot a x.1<=N:=B5 (Nat.le_add_right _ _) h
theorem aP{a b:Ty}{x:den (.pair a b)}{N:Nat}(h:tot (.pair a b) x<=N):tot b x.2<=N:=B5 (Nat.le_add_left _ _) h
theorem qW{t:Ty}{l:List (den t)}(h:flat t=J):tot (.sl t) l=l.length:=by
 have :∀l:List (den t),(l.map (tot t)).sum=0:=by
  intro l
  induction l with
  | nil=>rfl
  | cons x l ih=>rw[CA,D6,ih,VT h]
 show l.length+(l.map (tot t)).sum=_;rw[this];rfl
section
variable {α β:Type}
noncomputable def Di(bytes:Nat)(z:β)(toE:α->Option β)(a:List α):Option (List β):=
 cond (Nn bytes (a.length:Int) (a.length:Int)) (@Option.bind (List β) (List β) (@aB (Int×(List β)) (List β) (λ(s:Int×(List β))=>cond (Z (s.1<(a.length:Int))) (Option.bind (idx a s.1) λx=>Option.bind (toE x) λy=>cond (Z ((0:Int)<=s.1)) (cond (Z (s.1<(s.2.length:Int))) (cond (Z (s.1.toNat<s.2.length)) (U (Sum.inl (IntKind.i64.wrap (s.1+(1:Int)),s.2.set s.1.toNat y))) Y) Y) Y) (U (A2 s.2))) ((0:Int),List.replicate (a.length:Int).toNat z)) λ(s:List β)=>U s) Y
theorem S3{f:α->Nat}:∀{l:List α},(∀x∈l,f x=0)->(l.map f).sum=0
 | [],_=>rfl
 | x::l,h=>by rw[CA,D6,h x (CC ..),S3 λy hy=>h y (C1 _ hy)]
end
end Go.V
set_option linter.unusedVariables false
namespace Go.V
open Go.Ab Go.RowKit
section
variable {α R ρ:Type}
def dH(g:Nat->α->Option R):Nat->List α->Option R
 | _,[]=>Y
 | k,x::xs=>match g k x with
  | some r=>U r
  | none=>dH g (k+1) xs
theorem aM{l:List α}(g:Nat->α->Option R){step:Int->Option (Int⊕(Unit⊕R))}(hl:l.length<=4611686018427387904)
  (h:∀(k:Nat) (x:α),idx l (k:Int)=U x->Z ((k:Int)<(l.length:Int))=J->IntKind.i64.wrap ((k:Int)+1)=((k+1:Nat):Int)->x∈l->k<l.length->step (k:Int)=U (match g k x with
   | some r=> .inr (.inr r)
   | none=> .inl ((k+1:Nat):Int)))
  (he:step (l.length:Int)=U (.inr (.inl ()))):aB step (0:Int)=U (match dH g 0 l with
   | some r=> .inr r
   | none=> .inl ()):=by
 have key:∀(rest pre:List α),pre++rest=l->aB step (pre.length:Int)=U (match dH g pre.length rest with
   | some r=> .inr r
   | none=> .inl ()):=by
  intro rest
  induction rest with
  | nil=>intro pre hp;rw[CU]at hp;subst hp;exact aH he
  | cons x rest ih=>
   intro pre hp;have hlt:pre.length<l.length:=by rw[<- hp];simp
   have hx:l[pre.length]? =U x:=by rw[<- hp];simp
   have hs:=h pre.length x (by rw[aQ];exact hx) (by simpa using hlt) (by rw[wri (by omega) (by omega)];omega) (Cm hx) hlt;simp only[dH];cases hg:g pre.length x with
   | some r=>rw[hg]at hs;exact aH hs
   | none=>
    rw[hg]at hs;rw[aO hs];have :=ih (pre++[x]) (by simpa using hp);simpa using this
 exact key l [] rfl
theorem KP{l:List α}(f:ρ->α->ρ)(I:Nat->ρ->Prop){out:ρ->R}{a0:ρ}{step:Int×ρ->Option ((Int×ρ)⊕R)}(hl:l.length<=4611686018427387904)(h0:I 0 a0)
  (h:∀(k:Nat) (x:α) (a:ρ),idx l (k:Int)=U x->Z ((k:Int)<(l.length:Int))=J->IntKind.i64.wrap ((k:Int)+1)=((k+1:Nat):Int)->x∈l->k<l.length->I k a->step ((k:Int),a)=U (.inl (((k+1:Nat):Int),f a x))/\I (k+1) (f a x))
  (he:∀a,step ((l.length:Int),a)=U (.inr (out a))):aB step ((0:Int),a0)=U (out (l.foldl f a0))/\I l.length (l.foldl f a0):=by
 have key:∀(rest pre:List α) (a:ρ),pre++rest=l->I pre.length a->aB step ((pre.length:Int),a)=U (out (rest.foldl f a))/\I l.length (rest.foldl f a):=by
  intro rest
  induction rest with
  | nil=>intro pre a hp hI;rw[CU]at hp;subst hp;exact⟨aH (he a),hI⟩
  | cons x rest ih=>
   intro pre a hp hI;have hlt:pre.length<l.length:=by rw[<- hp];simp
   have hx:l[pre.length]? =U x:=by rw[<- hp];simp
   obtain⟨hs,hI'⟩:=h pre.length x a (by rw[aQ];exact hx) (by simpa using hlt) (by rw[wri (by omega) (by omega)];omega) (Cm hx) hlt hI;rw[aO hs];have :=ih (pre++[x]) (f a x) (by simpa using hp) (by simpa using hI');simpa using this
 exact key l [] a0 rfl h0
theorem aYx{l:List α}(f:ρ->α->ρ)(I:Nat->ρ->Prop){out:ρ->R}{a0:ρ}{step:ρ×Int->Option ((ρ×Int)⊕R)}(hl:l.length<=4611686018427387904)(h0:I 0 a0)
  (h:∀(k:Nat) (x:α) (a:ρ),idx l (k:Int)=U x->Z ((k:Int)<(l.length:Int))=J->IntKind.i64.wrap ((k:Int)+1)=((k+1:Nat):Int)->x∈l->k<l.length->I k a->step (a,(k:Int))=U (.inl (f a x,((k+1:Nat):Int)))/\I (k+1) (f a x))
  (he:∀a,step (a,(l.length:Int))=U (.inr (out a))):aB step (a0,(0:Int))=U (out (l.foldl f a0))/\I l.length (l.foldl f a0):=by
 have key:∀(rest pre:List α) (a:ρ),pre++rest=l->I pre.length a->aB step (a,(pre.length:Int))=U (out (rest.foldl f a))/\I l.length (rest.foldl f a):=by
  intro rest
  induction rest with
  | nil=>intro pre a hp hI;rw[CU]at hp;subst hp;exact⟨aH (he a),hI⟩
  | cons x rest ih=>
   intro pre a hp hI;have hlt:pre.length<l.length:=by rw[<- hp];simp
   have hx:l[pre.length]? =U x:=by rw[<- hp];simp
   obtain⟨hs,hI'⟩:=h pre.length x a (by rw[aQ];exact hx) (by simpa using hlt) (by rw[wri (by omega) (by omega)];omega) (Cm hx) hlt hI;rw[aO hs];have :=ih (pre++[x]) (f a x) (by simpa using hp) (by simpa using hI');simpa using this
 exact key l [] a0 rfl h0
theorem Wm{p:α->Bool}:∀{l:List α} {k:Nat} {i:Int},dH (λk x=>if p x then U (k:Int) else Y) k l=U i-> ∃j x,l[j]? =U x/\i=((k+j:Nat):Int)/\p x=J
 | [],_,_,h=>by cases h
 | x::xs,k,i,h=>by
  simp only[dH]at h;cases hp:p x with
  | true=>rw[hp]at h;simp at h;exact⟨0,x,rfl,by omega,hp⟩
  | false=>
   rw[hp]at h;simp at h;obtain⟨j,y,h1,h2,h3⟩:=Wm h;exact⟨j+1,y,by simpa using h1,by omega,h3⟩
theorem fL{l:List α}{k:Nat}:cut l (0:Int) (k:Int)=l.take k:=by simp[cut]
theorem R8(p:α->Bool):∀(l:List α) (a:List α),l.foldl (λa x=>if p x then a++[x] else a) a=a++l.filter p
 | [],a=>by simp
 | x::xs,a=>by
  simp only[List.foldl_cons,List.filter_cons];rw[R8 p xs];split<;>simp
end
end Go.V
