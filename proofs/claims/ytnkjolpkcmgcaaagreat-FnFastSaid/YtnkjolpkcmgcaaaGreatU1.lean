/-
  Typed frames and what code makes of them, over any program: part 1. Conditions: none.
-/
import Derived.WalkKit
import Derived.Below
import Derived.Maps.AppendAt
import Derived.Deep.Draws
import Derived.OrdersHeld
open Array renaming getElem?_eq_some_iff->bYl,toList_map->bY5,length_toList->bZv,getElem?_modify->bZ9
open List renaming mem_cons->bWm,getElem?_eq_getElem->bWl,mem_append->bWq,mem_cons_self->bWt,mem_cons_of_mem->bWo,mem_append_left->bXn,mem_append_right->bXq,append_assoc->bW6,flatten_cons->bYg,drop_eq_nil_of_le->bZe,nil_append->bXc,length_append->bW9,length_cons->bXp,replicate->bXy,range->bXz,any_eq_false->bXg,mem_filter->bWy,mem_map->bWr,map_cons->bW2,getElem?_eq_some_iff->bWn,getElem?_take->bXv,getElem?_drop->bYd,drop_drop->bY0,exists_mem_of_length_pos->bZ7,mem_of_mem_drop->bYa,mem_of_mem_take->bX8,foldl_cons->bY1,length_eq_zero_iff->bYx,take_left->bZf,take_append_drop->bX0,cons_append->bZg,mem_of_find?_eq_some->bYn,find?_some->bY2,length_take->bXw,length_drop->bYy,length_map->bXe,all_cons->bY4,map_map->bY6,any_cons->bZi,nodup_nil->bZj,nodup_cons->bX9,append_nil->bXh,getElem?_map->bXx,take_of_length_le->bZu,nodup_append->bXr,mem_singleton->bWp,set_eq_take_append_cons_drop->cAa,getElem?_set->bYp
open Nat renaming succ_mul->bXk,lt_of_lt_of_le->bZt,le_refl->bWx,le_trans->bWk,le_succ->bXi,add_assoc->bYe,zero_le->bW3,eq_zero_or_pos->bZ0,mul_le_mul_right->bX1,zero_add->bXm,le_of_eq->bYh,add_zero->bY8
open Bool renaming and_eq_true->bWj,false_eq_true->bWz,or_eq_false_iff->bYo
open Option renaming map_some->bYv,map_eq_some_iff->bXd,map_none->bZh
open Int renaming toNat_of_nonneg->bY3
theorem zZ {α:Type _} (a b:α):cond true a b=a:=rfl
theorem zY {α:Type _} (a b:α):cond false a b=b:=rfl
theorem zX {p:Prop} [Decidable p] (h:p):decide p=true:=_root_.decide_eq_true h
theorem zW {p:Prop} [Decidable p] (h:¬p):decide p=false:=_root_.decide_eq_false h
theorem zV {α:Sort _} {_:Decidable True} (t e:α):ite True t e=t:=_root_.if_true t e
theorem zU {α:Sort _} {_:Decidable False} (t e:α):ite False t e=e:=_root_.if_false t e
theorem zT {c:Prop} {h:Decidable c} (hc:c) {α:Sort _} {t e:α}:ite c t e=t:=_root_.if_pos hc
theorem zS {c:Prop} {h:Decidable c} (hc:¬c) {α:Sort _} {t e:α}:ite c t e=e:=_root_.if_neg hc
theorem zR {p:Prop} [Decidable p]:(decide p=true)=p:=_root_.decide_eq_true_eq
namespace Go.Ab
open Go.RowKit
inductive T where
 | lit (v:Value)
 | sl (es:List (List T))
 | nil
 | row (r:Nat)
 | ptr (o off:Nat)
 | ep (e:List T) (off:Nat)
 | rp (r k i off:Nat)
 | any
 deriving Inhabited
def plain:Value->Bool
 | .int k n=>decide (k.min<=n)&&decide (n<=k.max)
 | .bool _=>true
 | .string s=>decide (s.size<=maxLen)
 | _=>false
mutual
inductive Rep (w:World):Value->T->List Nat->Prop
 | lit {v:Value} (h:plain v=true):Rep w v (.lit v) []
 | nil {a:Option Addr} {c:Nat} (hc:c<=maxLen):Rep w (.slice a 0 c) (.sl []) []
 | cons {b off n c k:Nat} {es:List (List T)} {xs:List Value} {F:List Nat} (hn:es.length=n) (h0:0<n) (hk0:0<k) (hk:∀e∈es,e.length=k) (hc:n<=c) (hm:c<=maxLen)
   (hx:xs.length=n * k) (hcell:∀j u,xs[j]? =some u->w.cell? ⟨b,off+j,none⟩=some u) (hr:RepL w xs es.flatten F):Rep w (.slice (some ⟨b,off,none⟩) n c) (.sl es) (b::F)
inductive RepL (w:World):List Value->List T->List Nat->Prop
 | nil:RepL w [] [] []
 | cons {v:Value} {t:T} {F:List Nat} {vs:List Value} {ts:List T} {G:List Nat} (h:Rep w v t F) (hs:RepL w vs ts G):RepL w (v::vs) (t::ts) (F++G)
end
theorem RepL.length{w:World}{vs:List Value}{ts:List T}{F:List Nat}(h:RepL w vs ts F):vs.length=ts.length:=
 RepL.rec (motive_1:=λ_ _ _ _=>True) (motive_2:=λvs ts _ _=>vs.length=ts.length) (λ_=>trivial) (λ_=>trivial) (λ_ _ _ _ _ _ _ _ _ _=>trivial) rfl
  (λ_ _ _ ih=>by simp[ih]) h
theorem cell?_lt{w:World}{a:Addr}{u:Value}(h:w.cell? a=some u):a.block<w.heap.size:=by
 unfold World.cell? at h;split at h
 .rename_i c _ _ hb;exact (bYl.1 hb).1
 .cases h
theorem Rep.lt{w:World}{v:Value}{t:T}{F:List Nat}(h:Rep w v t F):∀b∈F,b<w.heap.size:=
 Rep.rec (motive_1:=λ_ _ F _=> ∀b∈F,b<w.heap.size) (motive_2:=λ_ _ F _=> ∀b∈F,b<w.heap.size) (λ_=>by simp) (λ_=>by simp)
  (λ{b off n c k es xs F} hn h0 hk0 hk hc hm hx hcell hr ih=>by
   intro x hx';rcases bWm.1 hx' with rfl | hx'
   .have hp:0<xs.length:=by rw[hx];exact Nat.mul_pos h0 hk0
    exact cell?_lt (hcell 0 xs[0] (bWl hp))
   .exact ih x hx')
  (by simp) (λ_ _ ih1 ih2 b hb=>(bWq.1 hb).elim (ih1 b) (ih2 b)) h
theorem RepL.lt{w:World}{vs:List Value}{ts:List T}{F:List Nat}(h:RepL w vs ts F):∀b∈F,b<w.heap.size:=
 RepL.rec (motive_1:=λ_ _ F _=> ∀b∈F,b<w.heap.size) (motive_2:=λ_ _ F _=> ∀b∈F,b<w.heap.size) (λ_=>by simp) (λ_=>by simp)
  (λ{b off n c k es xs F} hn h0 hk0 hk hc hm hx hcell hr ih=>by
   intro x hx';rcases bWm.1 hx' with rfl | hx'
   .have hp:0<xs.length:=by rw[hx];exact Nat.mul_pos h0 hk0
    exact cell?_lt (hcell 0 xs[0] (bWl hp))
   .exact ih x hx')
  (by simp) (λ_ _ ih1 ih2 b hb=>(bWq.1 hb).elim (ih1 b) (ih2 b)) h
theorem Rep.frame{w w':World}{v:Value}{t:T}{F:List Nat}(h:Rep w v t F)(hF:∀b∈F,w'.heap[b]? =w.heap[b]?):Rep w' v t F:=
 Rep.rec (motive_1:=λv t F _=>(∀b∈F,w'.heap[b]? =w.heap[b]?)->Rep w' v t F) (motive_2:=λvs ts F _=>(∀b∈F,w'.heap[b]? =w.heap[b]?)->RepL w' vs ts F)
  (λh _=> .lit h) (λh _=> .nil h)
  (λhn h0 hk0 hk hc hm hx hcell _ ih hF=> .cons hn h0 hk0 hk hc hm hx (λj u hu=>(World.cell?_of_block (hF _ (bWt ..))).trans (hcell j u hu)) (ih λb hb=>hF b (bWo _ hb)))
  (λ_=> .nil) (λ_ _ ih1 ih2 hF=> .cons (ih1 λb hb=>hF b (bXn _ hb)) (ih2 λb hb=>hF b (bXq _ hb))) h hF
theorem RepL.frame{w w':World}{vs:List Value}{ts:List T}{F:List Nat}(h:RepL w vs ts F)(hF:∀b∈F,w'.heap[b]? =w.heap[b]?):RepL w' vs ts F:=
 RepL.rec (motive_1:=λv t F _=>(∀b∈F,w'.heap[b]? =w.heap[b]?)->Rep w' v t F) (motive_2:=λvs ts F _=>(∀b∈F,w'.heap[b]? =w.heap[b]?)->RepL w' vs ts F)
  (λh _=> .lit h) (λh _=> .nil h)
  (λhn h0 hk0 hk hc hm hx hcell _ ih hF=> .cons hn h0 hk0 hk hc hm hx (λj u hu=>(World.cell?_of_block (hF _ (bWt ..))).trans (hcell j u hu)) (ih λb hb=>hF b (bWo _ hb)))
  (λ_=> .nil) (λ_ _ ih1 ih2 hF=> .cons (ih1 λb hb=>hF b (bXn _ hb)) (ih2 λb hb=>hF b (bXq _ hb))) h hF
theorem RepL.append{w:World}{vs vs':List Value}{ts ts':List T}{F G:List Nat}(h:RepL w vs ts F)(h':RepL w vs' ts' G):RepL w (vs++vs') (ts++ts') (F++G):=
 RepL.rec (motive_1:=λ_ _ _ _=>True) (motive_2:=λvs ts F _=>RepL w (vs++vs') (ts++ts') (F++G)) (λ_=>trivial) (λ_=>trivial) (λ_ _ _ _ _ _ _ _ _ _=>trivial)
  h' (λhv _ _ ih=>by simpa using RepL.cons hv ih) h
theorem RepL.get{w:World}:∀{vs:List Value} {ts:List T} {F:List Nat},RepL w vs ts F-> ∀{j:Nat} {t:T},ts[j]? =some t-> ∃v G,vs[j]? =some v/\Rep w v t G/\ ∀b∈G,b∈F:=by
 intro vs
 induction vs with
 | nil=>intro ts F h j t ht;cases h;simp at ht
 | cons v vs ih=>
  intro ts F h j t ht;cases h with
  | cons h hs=>
   cases j with
   | zero=>simp at ht;subst ht;exact⟨v,_,rfl,h,λb hb=>bXn _ hb⟩
   | succ j=>
    obtain⟨u,G,h1,h2,h3⟩:=ih hs (j:=j) (t:=t) (by simpa using ht);exact⟨u,G,by simpa using h1,h2,λb hb=>bXq _ (h3 b hb)⟩
theorem RepL.take{w:World}:∀{vs:List Value} {ts:List T} {F:List Nat},RepL w vs ts F-> ∀n,∃G H,RepL w (vs.take n) (ts.take n) G/\RepL w (vs.drop n) (ts.drop n) H/\F=G++H:=by
 intro vs
 induction vs with
 | nil=>intro ts F h n;cases h;exact⟨[],[],by simpa using .nil,by simpa using .nil,rfl⟩
 | cons v vs ih=>
  intro ts F h n;cases h with
  | cons h hs=>
   cases n with
   | zero=>exact⟨[],_,.nil,.cons h hs,rfl⟩
   | succ n=>
    obtain⟨G,H,h1,h2,h3⟩:=ih hs n;exact⟨_,H,.cons h h1,h2,by rw[h3,bW6]⟩
theorem lH{es:List (List T)}{k:Nat}(hk:∀e∈es,e.length=k){i:Nat}{e:List T}(he:es[i]? =some e):(es.flatten.drop (i * k)).take k=e:=by
 induction es generalizing i with
 | nil=>simp at he
 | cons x xs ih=>
  have hx:x.length=k:=hk x (bWt ..);cases i with
  | zero=>simp at he;subst he;simp[hx]
  | succ i=>
   have he':xs[i]? =some e:=by simpa using he
   have :=ih (λe he=>hk e (bWo _ he)) he';have h1:(i+1) * k=i * k+k:=bXk i k;have h2:(i+1) * k - x.length=i * k:=by rw[h1,hx];omega
   rw[bYg,List.drop_append,h2,bZe (by rw[hx,h1];omega),bXc];exact this
theorem mG{es:List (List T)}{k:Nat}(hk:∀e∈es,e.length=k):es.flatten.length=es.length * k:=by
 induction es with
 | nil=>simp
 | cons x xs ih=>
  rw[bYg,bW9,ih (λe he=>hk e (bWo _ he)),hk x (bWt ..),bXp,bXk,Nat.add_comm]
end Go.Ab
set_option linter.unusedVariables false
namespace Go.V
open Go.Ab Go.RowKit
inductive Ty where
 | int (k:IntKind)
 | bool
 | str
 | sl (t:Ty)
 | pair (a b:Ty)
 deriving DecidableEq
@[reducible] def den:Ty->Type
 | .int _=>Int
 | .bool=>Bool
 | .str=>ByteArray
 | .sl t=>List (den t)
 | .pair a b=>den a×den b
def cells:(t:Ty)->den t->List T
 | .int k,x=>[.lit (.int k x)]
 | .bool,x=>[.lit (.bool x)]
 | .str,x=>[.lit (.string x)]
 | .sl t,x=>[.sl (List.map (cells t) x)]
 | .pair a b,x=>cells a x.1++cells b x.2
def dW:(t:Ty)->den t->T
 | .int k,x=> .lit (.int k x)
 | .bool,x=> .lit (.bool x)
 | .str,x=> .lit (.string x)
 | .sl t,x=> .sl (List.map (cells t) x)
 | .pair _ _,_=> .any
def fO(a b:Ty)(x:den a):Option (den b):=if h:a=b then some (h▸x) else none
inductive C where
 | v (t:Ty) (x:den t)
 | nil
 | row (r:Nat)
 | ptr (o off:Nat)
 | ep (t:Ty) (x:den t) (off:Nat)
 | rp (r k i off:Nat)
 | sub (r k i off:Nat) (t:Ty) (x:List (den t))
 | ip (r k i off m j p:Nat)
 | clo (g o:Nat)
 | any
inductive A where
 | one (c:C)
 | agg (cs:List C)
inductive S where
 | val (x:A)
 | tup (xs:List A)
 | un
inductive O where
 | box (cs:List C)
 | row (e k:Nat) (t:Ty) (l:List (den t)) (deep:Bool)
 | win (k:Nat) (t:Ty) (l:List (den t))
structure F where
 ctr:Nat
 fr:List (Nat×Nat×S)
 ob:List (Nat×Nat×O)
def split:(t:Ty)->den t->List C
 | .int k,x=>[.v (.int k) x]
 | .bool,x=>[.v .bool x]
 | .str,x=>[.v .str x]
 | .sl t,x=>[.v (.sl t) x]
 | .pair a b,x=>split a x.1++split b x.2
def A.cells:A->List C
 | .one c=>[c]
 | .agg cs=>cs
def F.look(f:F)(s:Nat):Option S:=(f.fr.find? λe=>e.1==s).map (·.2.2)
def F.obj(f:F)(o:Nat):Option O:=(f.ob.find? λe=>e.1==o).map (·.2.2)
def F.put(f:F)(d:Option Nat)(x:S):F:=
 match d with
 | some d=>⟨f.ctr+1,(d,f.ctr,x)::f.fr.filter (λe=>e.1 != d),f.ob⟩
 | none=>f
def aPh:Value->Option S
 | .int k n=>if plain (.int k n) then some (.val (.one (.v (.int k) n))) else none
 | .bool b=>some (.val (.one (.v .bool b)))
 | .string s=>if plain (.string s) then some (.val (.one (.v .str s))) else none
 | .slice none 0 0=>some (.val (.one .nil))
 | .pointer none=>some (.val (.one .any))
 | _=>none
def F.get(f:F):Operand->Option S
 | .tmp t=>f.look t
 | .const v=>aPh v
 | _=>none
def F.getC(f:F)(x:Operand):Option C:=
 match f.get x with
 | some (.val (.one c))=>some c
 | _=>none
def F.data(f:F)(t:Ty):C->Option (den t)
 | .v t' x=>fO t' t x
 | .nil=>match t with
  | .sl _=>some []
  | _=>none
 | .row r=>match f.obj r with
  | some (.row _ _ t' l _)=>fO (.sl t') t l
  | some (.win _ t' l)=>fO (.sl t') t l
  | _=>none
 | .sub _ _ _ _ t' l=>fO (.sl t') t l
 | _=>none
def F.dataL(f:F):(t:Ty)->List C->Option (den t×List C)
 | .pair a b,cs=>match F.dataL f a cs with
  | some (x,cs1)=>match F.dataL f b cs1 with
   | some (y,cs2)=>some ((x,y),cs2)
   | none=>none
  | none=>none
 | .int k,c::cs=>(f.data (.int k) c).map λx=>(x,cs)
 | .bool,c::cs=>(f.data .bool c).map λx=>(x,cs)
 | .str,c::cs=>(f.data .str c).map λx=>(x,cs)
 | .sl t,c::cs=>(f.data (.sl t) c).map λx=>(x,cs)
 | _,[]=>none
def C.names(d:Nat):C->Bool
 | .row r=>r==d
 | .ptr o _=>o==d
 | .rp r _ _ _=>r==d
 | .sub r _ _ _ _ _=>r==d
 | .ip r _ _ _ _ _ _=>r==d
 | .clo _ o=>o==d
 | _=>false
def A.names(d:Nat):A->Bool
 | .one c=>c.names d
 | .agg cs=>cs.any (C.names d)
def S.names(d:Nat):S->Bool
 | .val x=>x.names d
 | .tup xs=>xs.any (A.names d)
 | .un=>false
def O.names(d:Nat):O->Bool
 | .box cs=>cs.any (C.names d)
 | _=>false
def pS(d:Nat)(c:C):C:=if c.names d then .any else c
def O.scrub(d:Nat):O->O
 | .box cs=> .box (cs.map (pS d))
 | x=>x
def F.scrub(f:F)(d:Nat):F:=
 ⟨f.ctr+1,f.fr.filter (λe=> !e.2.2.names d),(f.ob.filter λe=>e.1 != d).map λe=>if e.2.2.names d then (e.1,f.ctr,e.2.2.scrub d) else e⟩
def F.add(f:F)(d:Nat)(o:O):F:=⟨(f.scrub d).ctr+1,(f.scrub d).fr,(d,(f.scrub d).ctr,o)::(f.scrub d).ob⟩
def F.newOb(f:F)(d:Nat)(o:O)(c:C):F:=(f.add d o).put (some d) (.val (.one c))
def wC(r:Nat)(t:Ty)(l:List (den t)):C->C
 | .row r'=>if r'=r then .v (.sl t) l else .row r'
 | .rp r' k i off=>if r'=r then .any else .rp r' k i off
 | .sub r' k i off t' x=>if r'=r then .any else .sub r' k i off t' x
 | .ip r' k i off m j p=>if r'=r then .any else .ip r' k i off m j p
 | c=>c
def A.frz(r:Nat)(t:Ty)(l:List (den t)):A->A
 | .one c=> .one (wC r t l c)
 | .agg cs=> .agg (cs.map (wC r t l))
def S.frz(r:Nat)(t:Ty)(l:List (den t)):S->S
 | .val x=> .val (x.frz r t l)
 | .tup xs=> .tup (xs.map (A.frz r t l))
 | .un=> .un
def O.frz(r:Nat)(t:Ty)(l:List (den t)):O->O
 | .box cs=> .box (cs.map (wC r t l))
 | x=>x
def F.frzRow(f:F)(r:Nat):F:=
 match f.obj r with
 | some (.row _ _ t l _)=>
  ⟨f.ctr+1,f.fr.map (λe=>if e.2.2.names r then (e.1,f.ctr,e.2.2.frz r t l) else e),(f.ob.filter λe=>e.1 != r).map λe=>if e.2.2.names r then (e.1,f.ctr,e.2.2.frz r t l) else e⟩
 | _=>f
def F.frzAll(f:F)(ids:List Nat):F:=ids.foldl F.frzRow f
def F.setOb(f:F)(o:Nat)(x:O):F:=⟨f.ctr+1,f.fr,f.ob.map λe=>if e.1=o then (o,f.ctr,x) else e⟩
def mvC(f:F):C->Option (List Nat×Bool)
 | .v (.sl _) _=>some ([],false)
 | .v _ _=>some ([],true)
 | .nil=>some ([],true)
 | .row r=>match f.obj r with
  | some (.row _ _ _ _ deep)=>some ([r],deep)
  | _=>none
 | _=>none
def aE5(f:F):List C->Option (List Nat×Bool)
 | []=>some ([],true)
 | c::cs=>match mvC f c,aE5 f cs with
  | some (i1,d1),some (i2,d2)=>some (i1++i2,d1&&d2)
  | _,_=>none
def bN2(g:TypeId->Option Ty):List Field->Option Ty
 | []=>none
 | f::fs=>match g f.type with
  | some a=>match fs with
   | []=>some a
   | _::_=>match bN2 g fs with
    | some b=>some (.pair a b)
    | none=>none
  | none=>none
def aWa(P:Program):Nat->TypeId->Option Ty
 | 0=>λ_=>none
 | n+1=>λt=>
  match P.underlying t with
  | some (.int k)=>some (.int k)
  | some .bool=>some .bool
  | some .string=>some .str
  | some (.slice e)=>(aWa P n e).map .sl
  | some (.struct fs)=>bN2 (aWa P n) fs.toList
  | _=>none
def flat:Ty->Bool
 | .sl _=>false
 | .pair a b=>flat a&&flat b
 | _=>true
def zC:Value->C
 | .int k n=>if plain (.int k n) then .v (.int k) n else .any
 | .bool b=> .v .bool b
 | .string s=>if plain (.string s) then .v .str s else .any
 | .slice none 0 0=> .nil
 | _=> .any
def C.solid:C->Bool
 | .clo _ _=>false
 | _=>true
def C.isSub:C->Bool
 | .sub _ _ _ _ _ _=>true
 | .ip _ _ _ _ _ _ _=>true
 | _=>false
def A.isSub:A->Bool
 | .one c=>c.isSub
 | .agg cs=>cs.any C.isSub
def S.isSub:S->Bool
 | .val x=>x.isSub
 | .tup xs=>xs.any A.isSub
 | .un=>false
def O.isSub:O->Bool
 | .box cs=>cs.any C.isSub
 | _=>false
def aKb(c:C):C:=if c.isSub then .any else c
def O.noSub:O->O
 | .box cs=> .box (cs.map aKb)
 | x=>x
def F.noSubs(f:F):F:=⟨f.ctr+1,f.fr.filter (λe=> !e.2.2.isSub),f.ob.map λe=>if e.2.2.isSub then (e.1,f.ctr,e.2.2.noSub) else e⟩
inductive CT where
 | var (t:Ty)
 | nil
 | row (r:Nat)
 | ptr (o off:Nat)
 | any
inductive ST where
 | keep
 | one (c:CT)
 | agg (cs:List CT)
inductive OT where
 | keep
 | box (cs:List CT)
 | row (e k:Nat) (t:Ty) (deep:Bool)
 | win (k:Nat) (t:Ty)
structure Sh where
 fr:List (Nat×ST)
 ob:List (Nat×OT)
def CT.tys:CT->List Ty
 | .var t=>[t]
 | _=>[]
def ST.tys:ST->List Ty
 | .keep=>[]
 | .one c=>c.tys
 | .agg cs=>cs.flatMap CT.tys
def OT.tys:OT->List Ty
 | .keep=>[]
 | .box cs=>cs.flatMap CT.tys
 | .row _ _ t _=>[.sl t]
 | .win _ t=>[.sl t]
def Sh.tys(h:Sh):List Ty:=h.fr.flatMap (·.2.tys)++h.ob.flatMap (·.2.tys)
@[reducible] def sC:List Ty->Type
 | []=>Unit
 | [t]=>den t
 | t::t'::ts=>den t×sC (t'::ts)
def TV:Type:=(t:Ty)×den t
def aNw:(ts:List Ty)->sC ts->List TV
 | [],_=>[]
 | [t],x=>[⟨t,x⟩]
 | t::t'::ts,x=>⟨t,x.1⟩::aNw (t'::ts) x.2
def aHd:(ts:List Ty)->List TV->Option (sC ts)
 | [],[]=>some ()
 | [t],[x]=>fO x.1 t x.2
 | t::t'::ts,x::xs=>match fO x.1 t x.2,aHd (t'::ts) xs with
  | some y,some ys=>some (y,ys)
  | _,_=>none
 | _,_=>none
def CT.inj:CT->List TV->Option (C×List TV)
 | .var t,x::xs=>(fO x.1 t x.2).map λy=>(.v t y,xs)
 | .var _,[]=>none
 | .nil,xs=>some (.nil,xs)
 | .row r,xs=>some (.row r,xs)
 | .ptr o off,xs=>some (.ptr o off,xs)
 | .any,xs=>some (.any,xs)
def aC5:List CT->List TV->Option (List C×List TV)
 | [],xs=>some ([],xs)
 | c::cs,xs=>match c.inj xs with
  | some (y,ys)=>match aC5 cs ys with
   | some (zs,us)=>some (y::zs,us)
   | none=>none
  | none=>none
def nZ(f:F):List (Nat×ST)->List TV->Option (List (Nat×Nat×S)×List TV)
 | [],xs=>some ([],xs)
 | (s,.keep)::hs,xs=>match f.fr.find? λe=>e.1==s with
  | some e=>match nZ f hs xs with
   | some (r,ys)=>some (e::r,ys)
   | none=>none
  | none=>none
 | (s,.one c)::hs,xs=>match c.inj xs with
  | some (y,ys)=>match nZ f hs ys with
   | some (r,zs)=>some ((s,f.ctr,.val (.one y))::r,zs)
   | none=>none
  | none=>none
 | (s,.agg cs)::hs,xs=>match aC5 cs xs with
  | some (y,ys)=>match nZ f hs ys with
   | some (r,zs)=>some ((s,f.ctr,.val (.agg y))::r,zs)
   | none=>none
  | none=>none
def sR(f:F):List (Nat×OT)->List TV->Option (List (Nat×Nat×O)×List TV)
 | [],xs=>some ([],xs)
 | (o,.keep)::hs,xs=>match f.ob.find? λe=>e.1==o with
  | some e=>match sR f hs xs with
   | some (r,ys)=>some (e::r,ys)
   | none=>none
  | none=>none
 | (o,.box cs)::hs,xs=>match aC5 cs xs with
  | some (y,ys)=>match sR f hs ys with
   | some (r,zs)=>some ((o,f.ctr,.box y)::r,zs)
   | none=>none
  | none=>none
 | (o,.row e k t deep)::hs,x::xs=>match fO x.1 (.sl t) x.2,sR f hs xs with
  | some l,some (r,zs)=>some ((o,f.ctr,.row e k t l deep)::r,zs)
  | _,_=>none
 | (o,.win k t)::hs,x::xs=>match fO x.1 (.sl t) x.2,sR f hs xs with
  | some l,some (r,zs)=>some ((o,f.ctr,.win k t l)::r,zs)
  | _,_=>none
 | _,_=>none
def F.inj(f:F)(h:Sh)(x:sC h.tys):Option F:=
 match nZ f h.fr (aNw h.tys x) with
 | some (fr,xs)=>match sR f h.ob xs with
  | some (ob,[])=>some ⟨f.ctr+1,fr,ob⟩
  | _=>none
 | none=>none
def CT.prj:CT->C->Option (List TV)
 | .var t,.v t' x=>(fO t' t x).map λy=>[⟨t,y⟩]
 | .var (.sl t),.nil=>some [⟨.sl t,[]⟩]
 | .nil,.nil=>some []
 | .row r,.row r'=>if r=r' then some [] else none
 | .ptr o off,.ptr o' off'=>if o=o'/\off=off' then some [] else none
 | .any,_=>some []
 | _,_=>none
def aXv:List CT->List C->Option (List TV)
 | [],[]=>some []
 | c::cs,x::xs=>match c.prj x,aXv cs xs with
  | some a,some b=>some (a++b)
  | _,_=>none
 | _,_=>none
def aUa(f g:F):List (Nat×ST)->Option (List TV)
 | []=>some []
 | (s,h)::hs=>
  match g.fr.find? (λe=>e.1==s),aUa f g hs with
  | some (_,n,x),some ys=>
   match h,x with
   | .keep,_=>match f.fr.find? λe=>e.1==s with
    | some (_,m,_)=>if m=n/\n<f.ctr then some ys else none
    | none=>none
   | .one c,.val (.one y)=>(c.prj y).map (· ++ys)
   | .agg cs,.val (.agg zs)=>(aXv cs zs).map (· ++ys)
   | _,_=>none
  | _,_=>none
def aT4(f g:F):List (Nat×OT)->Option (List TV)
 | []=>some []
 | (o,h)::hs=>
  match g.ob.find? (λe=>e.1==o),aT4 f g hs with
  | some (_,n,x),some ys=>
   match h,x with
   | .keep,_=>match f.ob.find? λe=>e.1==o with
    | some (_,m,_)=>if m=n/\n<f.ctr then some ys else none
    | none=>none
   | .box cs,.box zs=>(aXv cs zs).map (· ++ys)
   | .row e k t deep,.row e' k' t' l deep'=>if e=e'/\k=k'/\t=t'/\(deep=true->(deep'||flat t')=true) then some (⟨.sl t',l⟩::ys) else none
   | .win k t,.win k' t' l=>if k=k'/\t=t' then some (⟨.sl t',l⟩::ys) else none
   | _,_=>none
  | _,_=>none
def F.prj(f g:F)(h:Sh):Option (sC h.tys):=
 match aUa f g h.fr,aT4 f g h.ob with
 | some xs,some ys=>aHd h.tys (xs++ys)
 | _,_=>none
inductive Wk where
 | pick (ss os:List Nat)
 | frz (r:Nat)
 | ren (d e:Nat)
 | nilS (s j a e k:Nat) (t:Ty)
 | nilB (o j a e k:Nat) (t:Ty)
def aDq(d e:Nat):C->C
 | .row r=> .row (if r=d then e else r)
 | .ptr o off=> .ptr (if o=d then e else o) off
 | .rp r k i off=> .rp (if r=d then e else r) k i off
 | .sub r k i off t x=> .sub (if r=d then e else r) k i off t x
 | .ip r k i off m j p=> .ip (if r=d then e else r) k i off m j p
 | .clo g o=> .clo g (if o=d then e else o)
 | c=>c
def A.ren(d e:Nat):A->A
 | .one c=> .one (aDq d e c)
 | .agg cs=> .agg (cs.map (aDq d e))
def S.ren(d e:Nat):S->S
 | .val x=> .val (x.ren d e)
 | .tup xs=> .tup (xs.map (A.ren d e))
 | .un=> .un
def O.ren(d e:Nat):O->O
 | .box cs=> .box (cs.map (aDq d e))
 | x=>x
def F.unused(f:F)(e:Nat):Bool:=(f.fr.all λx=> !x.2.2.names e)&&f.ob.all λx=>x.1 != e&& !x.2.2.names e
def pinned(o:Nat):Bool:=Nat.ble 1000000 o
def A.setC(x:A)(j:Nat)(c:C):A:=
 match x with
 | .one d=>if j=0 then .one c else .one d
 | .agg cs=> .agg (cs.set j c)
def aB1:Ty->Nat
 | .pair a b=>aB1 a+aB1 b
 | _=>1
def F.wk(f:F):Wk->Option F
 | .pick ss os=>some ⟨f.ctr,f.fr.filter (λe=>ss.contains e.1),f.ob.filter λe=>os.contains e.1⟩
 | .frz r=>some (f.frzRow r)
 | .ren d e=>if f.unused e=true/\pinned d=false/\pinned e=false then
   some ⟨f.ctr+1,f.fr.map (λx=>if x.2.2.names d then (x.1,f.ctr,x.2.2.ren d e) else x),f.ob.map λx=>if x.1=d then (e,f.ctr,x.2.2.ren d e) else if x.2.2.names d then (x.1,f.ctr,x.2.2.ren d e) else x⟩ else none
 | .nilS s j a e k t=>
  match f.look s with
  | some (.val x)=>match x.cells[j]? with
   | some .nil=>if f.unused a=true/\pinned a=false/\0<k/\aB1 t=k then some ((⟨f.ctr+1,f.fr,(a,f.ctr,.row e k t [] true)::f.ob⟩:F).put (some s) (.val (x.setC j (.row a)))) else none
   | _=>none
  | _=>none
 | .nilB o j a e k t=>
  match f.obj o with
  | some (.box cs)=>match cs[j]? with
   | some .nil=>if f.unused a=true/\pinned a=false/\0<k/\aB1 t=k then some ((⟨f.ctr+1,f.fr,(a,f.ctr,.row e k t [] true)::f.ob⟩:F).setOb o (.box (cs.set j (.row a)))) else none
   | _=>none
  | _=>none
def F.wks(f:F):List Wk->Option F
 | []=>some f
 | x::xs=>match f.wk x with
  | some g=>g.wks xs
  | none=>none
def CT.pairs:CT->C->List (Nat×Nat)
 | .row a,.row r=>[(r,a)]
 | .ptr a _,.ptr o _=>[(o,a)]
 | _,_=>[]
def aNm:List CT->List C->List (Nat×Nat)
 | c::cs,x::xs=>c.pairs x++aNm cs xs
 | _,_=>[]
def ST.pairs(g:F)(s:Nat):ST->List (Nat×Nat)
 | .keep=>match g.look s with
  | some (.val x)=>x.cells.flatMap λc=>match c with
   | .row r=>[(r,r)]
   | .ptr o _=>[(o,o)]
   | .clo _ o=>[(o,o)]
   | .rp r _ _ _=>[(r,r)]
   | _=>[]
  | _=>[]
 | .one c=>match g.look s with
  | some (.val x)=>aNm [c] x.cells
  | _=>[]
 | .agg cs=>match g.look s with
  | some (.val x)=>aNm cs x.cells
  | _=>[]
def aNf(ps:List (Nat×Nat))(a:Nat):Nat:=((ps.find? λp=>p.2==a).map (·.1)).getD a
def aK3(g:F):List (Nat×OT)->List (Nat×Nat)->List (Nat×Nat)
 | [],ps=>ps
 | (a,.box cs)::hs,ps=>match g.obj (aNf ps a) with
  | some (.box xs)=>aK3 g hs (ps++aNm cs xs)
  | _=>aK3 g hs ps
 | _::hs,ps=>aK3 g hs ps
def CT.nils(h:Sh)(j:Nat):CT->C->List (Nat×Nat×Nat×Nat×Ty)
 | .row a,.nil=>match h.ob.find? λe=>e.1==a with
  | some (_,.row e k t _)=>[(j,a,e,k,t)]
  | _=>[]
 | _,_=>[]
def bD4(h:Sh):Nat->List CT->List C->List (Nat×Nat×Nat×Nat×Ty)
 | j,c::cs,x::xs=>c.nils h j x++bD4 h (j+1) cs xs
 | _,_,_=>[]
def ST.cts:ST->List CT
 | .keep=>[]
 | .one c=>[c]
 | .agg cs=>cs
def bVx(g:F)(h:Sh):List Wk:=
 let ps:=aK3 g h.ob (h.fr.flatMap λe=>e.2.pairs g e.1)
 let src:=(h.ob.filter λe=>match e.2 with
  | .row _ _ _ _=>pinned e.1||(ps.any λp=>p.2==e.1)||h.ob.any λb=>match b.2,g.obj b.1 with
   | .keep,some x=>x.names e.1
   | _,_=>false
  | _=>true).map λe=>aNf ps e.1
 let fz:=(g.ob.filter λe=>match e.2.2 with
  | .row _ _ _ _ _=> !src.contains e.1&&(h.fr.any (λs=>match g.look s.1 with
   | some x=>x.names e.1
   | none=>false)||g.ob.any λb=>src.contains b.1&&b.2.2.names e.1)
  | _=>false).map λe=>Wk.frz e.1
 let rn:=(h.ob.filter λe=>aNf ps e.1 != e.1).map λe=>(aNf ps e.1,e.1)
 let ns:=h.fr.flatMap λe=>(match g.look e.1 with
  | some (.val x)=>bD4 h 0 e.2.cts x.cells
  | _=>[]).map λ(q:Nat×Nat×Nat×Nat×Ty)=>Wk.nilS e.1 q.1 q.2.1 q.2.2.1 q.2.2.2.1 q.2.2.2.2
 let nb:=h.ob.flatMap λe=>match e.2 with
  | .box cs=>(match g.obj (aNf ps e.1) with
   | some (.box xs)=>bD4 h 0 cs xs
   | _=>[]).map λ(q:Nat×Nat×Nat×Nat×Ty)=>Wk.nilB e.1 q.1 q.2.1 q.2.2.1 q.2.2.2.1 q.2.2.2.2
  | _=>[]
 (Wk.pick (h.fr.map (·.1)) (g.ob.map (·.1)))::fz++[Wk.pick (h.fr.map (·.1)) src]++rn.map (λp=>Wk.ren p.1 (200000+p.2))++rn.map (λp=>Wk.ren (200000+p.2) p.2)++ns++nb
def F.fit(f g:F)(h:Sh):Option (sC h.tys):=
 match g.wks (bVx g h) with
 | some g'=>f.prj g' h
 | none=>none
end Go.V
set_option linter.unusedVariables false
namespace Go.V
open Go.Ab Go.RowKit
def pC(l:List Nat):Bool:=
 match l with
 | []=>true
 | x::xs=> !xs.contains x&&pC xs
def sp{α:Type}(L:List α)(off:Nat)(cs:List α):List α:=L.take off++cs++L.drop (off+cs.length)
section
variable {R:Type}
def idx{α:Type}(l:List α)(i:Int):Option α:=cond (decide (0<=i)) l[i.toNat]? none
def gO{α:Type}(x:Option α)(K:α->Option R):Option R:=
 match x with
 | some a=>K a
 | none=>none
def aFe(k:IntKind)(a b:Int):Int:=k.wrap ((BitVec.ofInt k.bits a &&& BitVec.ofInt k.bits b).toNat:Int)
def bOr(k:IntKind)(a b:Int):Int:=k.wrap ((BitVec.ofInt k.bits a ||| BitVec.ofInt k.bits b).toNat:Int)
def bRo(k:IntKind)(a b:Int):Int:=k.wrap ((BitVec.ofInt k.bits a ^^^ BitVec.ofInt k.bits b).toNat:Int)
def bQr(k:IntKind)(a b:Int):Int:=k.wrap ((BitVec.ofInt k.bits a &&& ~~~(BitVec.ofInt k.bits b)).toNat:Int)
def shl(k:IntKind)(a b:Int):Int:=k.wrap (a * 2 ^ (min b.toNat k.bits))
def shr(k:IntKind)(a b:Int):Int:=a.fdiv (2 ^ (min b.toNat k.bits))
def bFo(op:BinOp)(k:IntKind)(a b:Int)(K:C->Option R):Option R:=
 match op with
 | .add=>K (.v (.int k) (k.wrap (a+b)))
 | .sub=>K (.v (.int k) (k.wrap (a - b)))
 | .mul=>K (.v (.int k) (k.wrap (a * b)))
 | .quo=>cond (b==0) none (K (.v (.int k) (k.wrap (a.tdiv b))))
 | .rem=>cond (b==0) none (K (.v (.int k) (a.tmod b)))
 | .and=>K (.v (.int k) (aFe k a b))
 | .or=>K (.v (.int k) (bOr k a b))
 | .xor=>K (.v (.int k) (bRo k a b))
 | .andNot=>K (.v (.int k) (bQr k a b))
 | .eql=>K (.v .bool (a==b))
 | .neq=>K (.v .bool (a != b))
 | .lss=>K (.v .bool (decide (a<b)))
 | .leq=>K (.v .bool (decide (a<=b)))
 | .gtr=>K (.v .bool (decide (a>b)))
 | .geq=>K (.v .bool (decide (a>=b)))
 | _=>none
def bJb(op:BinOp)(a b:ByteArray)(K:C->Option R):Option R:=
 match op with
 | .add=>cond (decide (a.size+b.size<=maxLen)) (K (.v .str (a++b))) none
 | .eql=>K (.v .bool (a.toList==b.toList))
 | .neq=>K (.v .bool (!(a.toList==b.toList)))
 | _=>none
def bAd(P:Program)(op:BinOp)(t:TypeId)(a b:Bool)(K:C->Option R):Option R:=
 match op,P.underlying t with
 | .eql,some .bool=>K (.v .bool (a==b))
 | .neq,some .bool=>K (.v .bool (!(a==b)))
 | _,_=>none
def bMr(P:Program)(op:BinOp)(t:TypeId)(K:C->Option R):C->C->Option R
 | .v (.int k) a,.v (.int k') b=>
  match op with
  | .shl=>cond (decide (b<0)) none (K (.v (.int k) (shl k a b)))
  | .shr=>cond (decide (b<0)) none (K (.v (.int k) (shr k a b)))
  | _=>if k=k' then bFo op k a b K else none
 | .v .str a,.v .str b=>bJb op a b K
 | .v .bool a,.v .bool b=>bAd P op t a b K
 | _,_=>none
def eqC(P:Program)(t:TypeId):C->C->Option Bool
 | .v (.int k) a,.v (.int k') b=>
  match P.underlying t with
  | some (.int _)=>if k=k' then some (a==b) else none
  | _=>none
 | .v .bool a,.v .bool b=>
  match P.underlying t with
  | some .bool=>some (a==b)
  | _=>none
 | .v .str a,.v .str b=>
  match P.underlying t with
  | some .string=>some (a.toList==b.toList)
  | _=>none
 | _,_=>none
def bCc(P:Program)(xs ys:List C):List Field->Option Bool
 | []=>some true
 | f::fs=>
  match xs[f.offset]?,ys[f.offset]? with
  | some x,some y=>
   match eqC P f.type x y,bCc P xs ys fs with
   | some b,some r=>if f.name="_" then none else some (b&&r)
   | _,_=>none
  | _,_=>none
def bMo(P:Program)(f:F)(op:BinOp)(t:TypeId)(x y:Operand)(K:S->Option R):Option R:=
 match P.underlying t,f.get x,f.get y with
 | some (.struct fs),some (.val (.agg xs)),some (.val (.agg ys))=>
  if P.stoodInHeld t=false/\P.eqGuardType P.depth t=false then
   match bCc P xs ys fs.toList,op with
   | some b,.eql=>K (.val (.one (.v .bool b)))
   | some b,.neq=>K (.val (.one (.v .bool (!b))))
   | _,_=>none
  else none
 | _,_,_=>none
def bN3(P:Program)(f:F)(op:BinOp)(t:TypeId)(x y:Operand)(K:S->Option R):Option R:=
 match f.getC x,f.getC y with
 | some a,some b=>bMr P op t (λc=>K (.val (.one c))) a b
 | _,_=>bMo P f op t x y K
def rdC(P:Program)(t:TypeId)(off:Nat)(cs:List C):Option A:=
 match P.info? t,P.underlying t with
 | some i,some (.struct _)=>if off+i.size<=cs.length then some (.agg ((cs.drop off).take i.size)) else none
 | some i,some (.array _ _)=>if off+i.size<=cs.length then some (.agg ((cs.drop off).take i.size)) else none
 | some _,some _=>cs[off]?.map .one
 | _,_=>none
def aBs(r k i:Nat):Nat->List C->List C
 | _,[]=>[]
 | off,.v (.sl t) x::cs=> .sub r k i off t x::aBs r k i (off+1) cs
 | off,c::cs=>c::aBs r k i (off+1) cs
def aW2(P:Program)(f:F)(t:TypeId)(p:Operand)(K:S->Option R):Option R:=
 match f.getC p with
 | some (.ptr o off)=>
  match f.obj o with
  | some (.box cs)=>gO (rdC P t off cs) λx=>K (.val x)
  | _=>none
 | some (.ep ty x off)=>gO (rdC P t off (split ty x)) λx=>K (.val x)
 | some (.rp r k i off)=>
  match f.obj r with
  | some (.row _ k' ty l _)=>if k=k' then Option.bind l[i]? λx=>gO (rdC P t off (split ty x)) λx=>K (.val x) else none
  | some (.win k' ty l)=>if k=k' then Option.bind l[i]? λx=>gO (rdC P t off (aBs r k i 0 (split ty x))) λx=>K (.val x) else none
  | _=>none
 | _=>none
def aQb(P:Program)(f:F)(s:TypeId)(x:Operand)(j:Nat)(K:S->Option R):Option R:=
 match P.underlying s with
 | some (.struct fs)=>
  match fs[j]? with
  | some fd=>
   match P.info? fd.type with
   | some i=>
    if i.size=0 then none else
    match f.getC x with
    | some (.ptr o off)=>K (.val (.one (.ptr o (off+fd.offset))))
    | some (.ep t e off)=>K (.val (.one (.ep t e (off+fd.offset))))
    | some (.rp r k j off)=>K (.val (.one (.rp r k j (off+fd.offset))))
    | some (.ip r k i off m j q)=>K (.val (.one (.ip r k i off m j (q+fd.offset))))
    | _=>none
   | none=>none
  | none=>none
 | _=>none
def aQz(P:Program)(f:F)(t:TypeId)(x i:Operand)(K:S->Option R):Option R:=
 match P.underlying t with
 | some (.slice e)=>
  match P.info? e,f.getC x,f.getC i with
  | some inf,some (.v (.sl ty) l),some (.v (.int _) n)=>Option.bind (idx l n) λx=>if (split ty x).length=inf.size then K (.val (.one (.ep ty x 0))) else none
  | some inf,some (.row r),some (.v (.int _) n)=>
   match f.obj r with
   | some (.row _ k _ l _)=>if k=inf.size then cond (decide (0<=n)) (cond (decide (n<(l.length:Int))) (K (.val (.one (.rp r k n.toNat 0)))) none) none else none
   | some (.win k _ l)=>if k=inf.size then cond (decide (0<=n)) (cond (decide (n<(l.length:Int))) (K (.val (.one (.rp r k n.toNat 0)))) none) none else none
   | _=>none
  | some inf,some (.sub r k i off ty l),some (.v (.int _) n)=>if aB1 ty=inf.size then cond (decide (0<=n)) (cond (decide (n<(l.length:Int))) (K (.val (.one (.ip r k i off inf.size n.toNat 0)))) none) none else none
  | _,_,_=>none
 | _=>none
def bE0(P:Program)(f:F)(t:TypeId)(x:Operand)(K:S->Option R):Option R:=
 match P.underlying t,f.getC x with
 | some (.slice _),some (.v (.sl _) l)=>K (.val (.one (.v (.int .i64) (l.length:Int))))
 | some (.slice _),some .nil=>K (.val (.one (.v (.int .i64) (0:Int))))
 | some (.slice _),some (.row r)=>
  match f.obj r with
  | some (.row _ _ _ l _)=>K (.val (.one (.v (.int .i64) (l.length:Int))))
  | some (.win _ _ l)=>K (.val (.one (.v (.int .i64) (l.length:Int))))
  | _=>none
 | some (.slice _),some (.sub _ _ _ _ _ l)=>K (.val (.one (.v (.int .i64) (l.length:Int))))
 | some .string,some (.v .str s)=>K (.val (.one (.v (.int .i64) (s.size:Int))))
 | _,_=>none
def bDc(f:F)(mx:Bool)(x y:Operand)(K:S->Option R):Option R:=
 match f.getC x,f.getC y with
 | some (.v (.int k) a),some (.v (.int k') b)=>if k=k' then K (.val (.one (.v (.int k) (if mx then (if b>a then b else a) else (if b<a then b else a))))) else none
 | _,_=>none
def aM5(P:Program)(f:F)(t:TypeId)(x:Operand)(j:Nat)(K:S->Option R):Option R:=
 match P.underlying t with
 | some (.struct fs)=>
  match fs[j]?,f.get x with
  | some fd,some (.val (.agg cs))=>gO (rdC P fd.type fd.offset cs) λy=>K (.val y)
  | _,_=>none
 | _=>none
def aNv(f:F)(place:Nat->Option (Nat×Nat)):List C->List (Nat×Operand)->Option (List C)
 | cs,[]=>some cs
 | cs,(i,x)::ps=>
  match place i,f.get x with
  | some (off,size),some (.val y)=>if y.cells.length=size/\off+size<=cs.length/\y.cells.all C.solid=true then aNv f place (sp cs off y.cells) ps else none
  | _,_=>none
def aDw(P:Program):List Field->Option (List (Nat×Nat))
 | []=>some []
 | f::fs=>
  match P.info? f.type,aDw P fs with
  | some i,some ps=>some ((f.offset,i.size)::ps)
  | _,_=>none
def aQu(P:Program)(f:F)(t:TypeId)(ps:List (Nat×Operand))(K:S->Option R):Option R:=
 match P.info? t,P.underlying t with
 | some i,some (.struct fs)=>
  match i.zero,aDw P fs.toList with
  | some z,some places=>if z.cells.toList.all Value.oneCell'=true then gO (aNv f (λi=>places[i]?) (z.cells.toList.map zC) ps) λcs=>K (.val (.agg cs)) else none
  | _,_=>none
 | some i,some (.array _ e)=>
  match i.zero,P.info? e with
  | some z,some ie=>if z.cells.toList.all Value.oneCell'=true then gO (aNv f (λj=>some (j * ie.size,ie.size)) (z.cells.toList.map zC) ps) λcs=>K (.val (.agg cs)) else none
  | _,_=>none
 | _,_=>none
def aDb(f:F)(dflt:Int):Option Operand->Option Int
 | none=>some dflt
 | some x=>
  match f.getC x with
  | some (.v (.int _) n)=>some n
  | _=>none
def cQ(l h n:Int):Bool:=decide (0<=l)&&(decide (l<=h)&&decide (h<=n))
def cut{α:Type}(l:List α)(lo hi:Int):List α:=(l.drop lo.toNat).take (hi - lo).toNat
def yJ(P:Program)(f:F)(t:TypeId)(x:Operand)(lo hi:Option Operand)(K:S->Option R):Option R:=
 match P.underlying t,f.getC x with
 | some (.slice e),some (.v (.sl ty) l)=>
  match P.info? e,aDb f 0 lo,aDb f (l.length:Int) hi with
  | some i,some a,some b=>if i.size=(tyLen ty) then cond (cQ a b (l.length:Int)) (K (.val (.one (.v (.sl ty) (cut l a b))))) none else none
  | _,_,_=>none
 | some .string,some (.v .str s)=>
  match aDb f 0 lo,aDb f (s.size:Int) hi with
  | some a,some b=>cond (cQ a b (s.size:Int)) (K (.val (.one (.v .str (s.extract a.toNat b.toNat))))) none
  | _,_=>none
 | _,_=>none
where
 tyLen:Ty->Nat
  | .pair a b=>tyLen a+tyLen b
  | _=>1
def aNq(t:Ty)(d:den t):List C->Option (List (den t))
 | []=>some []
 | .v t' x::cs=>match fO t' t x,aNq t d cs with
  | some y,some ys=>some (y::ys)
  | _,_=>none
 | _=>none
def aXh(P:Program)(f:F)(t:TypeId)(x i:Operand)(K:S->Option R):Option R:=
 match P.underlying t,f.get x,f.getC i with
 | some .string,some (.val (.one (.v .str s))),some (.v (.int _) n)=>Option.bind (idx s.data.toList n) λb=>K (.val (.one (.v (.int .u8) (b.toNat:Int))))
 | some (.array len e),some (.val (.agg cs)),some (.v (.int _) n)=>
  match P.info? e,P.underlying e with
  | some inf,some .string=>if inf.size=1/\cs.length=len then gO (aNq .str ⟨#[]⟩ cs) λl=>Option.bind (idx l n) λy=>K (.val (.one (.v .str y))) else none
  | some inf,some (.int k)=>if inf.size=1/\cs.length=len then gO (aNq (.int k) (0:Int) cs) λl=>Option.bind (idx l n) λy=>K (.val (.one (.v (.int k) y))) else none
  | _,_=>none
 | _,_,_=>none
def aPy(l:List Int):List UInt8:=l.map λn=>UInt8.ofNat n.toNat
def wZ(l:List Int):ByteArray:=⟨(aPy l).toArray⟩
def aVy(P:Program)(f:F)(s d:TypeId)(x:Operand)(K:S->Option R):Option R:=
 match f.getC x,P.underlying s,P.underlying d with
 | some (.v (.int _) n),some _,some (.int k)=>K (.val (.one (.v (.int k) (k.wrap n))))
 | some c,some (.slice e),some .string=>
  match P.underlying e,f.data (.sl (.int .u8)) c with
  | some (.int .u8),some l=>K (.val (.one (.v .str (wZ l))))
  | _,_=>none
 | _,_,_=>none
def aCg(P:Program)(f:F)(K:S->Option R):Op->Option R
 | .move x=>gO (f.get x) K
 | .assign x=>gO (f.get x) K
 | .pick c x y=>
  match f.getC c with
  | some (.v .bool b)=>cond b (gO (f.get x) K) (gO (f.get y) K)
  | _=>none
 | .load t p=>aW2 P f t p K
 | .nilCheck x=>
  match f.getC x with
  | some (.ptr o off)=>K (.val (.one (.ptr o off)))
  | some (.ep t e off)=>K (.val (.one (.ep t e off)))
  | some (.rp r k i off)=>K (.val (.one (.rp r k i off)))
  | some (.ip r k i off m j q)=>K (.val (.one (.ip r k i off m j q)))
  | _=>none
 | .binOp op t x y _=>bN3 P f op t x y K
 | .unOp .not _ x=>
  match f.getC x with
  | some (.v .bool b)=>K (.val (.one (.v .bool (!b))))
  | _=>none
 | .unOp .neg _ x=>
  match f.getC x with
  | some (.v (.int k) n)=>K (.val (.one (.v (.int k) (k.wrap (0 - n)))))
  | _=>none
 | .convert s d x=>aVy P f s d x K
 | .fieldAddr s x j=>aQb P f s x j K
 | .field t x j=>aM5 P f t x j K
 | .build t ps=>aQu P f t ps.toList K
 | .slice t x lo hi none=>yJ P f t x lo hi K
 | .index t x i=>aXh P f t x i K
 | .indexAddr t x i=>aQz P f t x i K
 | .extract x i=>
  match f.get x with
  | some (.tup xs)=>gO xs[i]? λy=>K (.val y)
  | _=>none
 | .makeFunc (.func g) first cap=>
  match first.toList,cap.toList with
  | [],[x]=>
   match f.getC x with
   | some (.ptr o off)=>if off=0 then K (.val (.one (.clo g o))) else none
   | _=>none
  | _,_=>none
 | .call cl=>
  match cl.callee,cl.args.toList,cl.argTypes.toList with
  | .builtin .len,[x],[t]=>bE0 P f t x K
  | .builtin .max,[x,y],_=>bDc f true x y K
  | .builtin .min,[x,y],_=>bDc f false x y K
  | _,_,_=>none
 | _=>none
def bM4(bytes:Nat)(n m:Int):Bool:=decide (m=n)&&(decide (0<=n)&&(decide ((bytes:Int) * n<=281474976710656)&&decide (n<=4611686018427387904)))
def aP(bytes n m:Nat):Bool:=decide ((n+m) * (bytes+1)<=140737488355328)
def aKh(f:F)(k:Nat)(t:Ty):List (Nat×Operand)->Option (List (den t)×List Nat×Bool)
 | []=>some ([],[],true)
 | (_,x)::ps=>
  match f.get x,aKh f k t ps with
  | some (.val y),some (es,i2,d2)=>
   if y.cells.length=k then
    match f.dataL t y.cells,aE5 f y.cells with
    | some (e,[]),some (i1,d1)=>some (e::es,i1++i2,d1&&d2)
    | _,_=>none
   else none
  | _,_=>none
def bCw(f:F)(k:Nat)(t:Ty):C->Option (List (den t)×List Nat×Bool)
 | .nil=>some ([],[],true)
 | .v t' x=>(fO t' (.sl t) x).map λl=>(l,[],flat t)
 | .row r=>match f.obj r with
  | some (.row _ k' t' l deep)=>if k'=k then (fO (.sl t') (.sl t) l).map λl=>(l,[r],deep) else none
  | _=>none
 | _=>none
def bEh(P:Program)(f:F)(d:Nat)(t:TypeId)(s x:Operand)(K:F->Option R):Option R:=
 match P.underlying t with
 | some (.slice e)=>
  match P.info? e,aWa P 12 e with
  | some i,some ty=>
   match i.zero with
   | some z=>
    if z.cells.size=i.size/\0<i.size/\yJ.tyLen ty=i.size/\pinned d=false then
     match f.getC s,f.getC x with
     | some cs,some cx=>
      match bCw f i.size ty cx with
      | some (es2,ids,dp)=>
       match cs with
       | .nil=>cond (aP i.bytes 0 es2.length) (K ((f.frzAll ids).newOb d (.row e i.size ty es2 dp) (.row d))) none
       | .row r=>
        match f.obj r with
        | some (.row e1 k1 t1 l1 deep1)=>
         match fO (.sl t1) (.sl ty) l1 with
         | some es1=>
          if e1=e/\k1=i.size/\r≠d/\ids.contains r=false/\pinned r=false then
           cond (aP i.bytes es1.length es2.length) (K (((f.frzAll ids).add r (.row e i.size ty (es1++es2) (deep1&&dp))).put (some d) (.val (.one (.row r))))) none
          else none
         | none=>none
        | _=>none
       | _=>none
      | none=>none
     | _,_=>none
    else none
   | none=>none
  | _,_=>none
 | _=>none
def bAu(P:Program)(f:F)(t:TypeId)(p x:Operand)(K:F->Option R):Option R:=
 match f.getC p,f.get x,P.info? t with
 | some (.ptr o off),some (.val y),some inf=>
  match f.obj o with
  | some (.box cs)=>if y.cells.length=inf.size/\off+y.cells.length<=cs.length/\y.cells.all C.solid=true then K (f.setOb o (.box (sp cs off y.cells))) else none
  | _=>none
 | some (.rp r k i off),some (.val y),some inf=>
  match f.obj r with
  | some (.row e k' ty l deep)=>
   match aE5 f y.cells with
   | some (ids,dp)=>
    if k=k'/\y.cells.length=inf.size/\off+y.cells.length<=k/\pC ids=true/\ids.contains r=false then
     if off=0/\y.cells.length=k then
      match f.dataL ty y.cells with
      | some (z,[])=>cond (decide (i<l.length)) (K ((f.frzAll ids).setOb r (.row e k ty (l.set i z) (deep&&dp)))) none
      | _=>none
     else Option.bind l[i]? λel=>
      match f.dataL ty (sp (split ty el) off y.cells) with
      | some (z,[])=>K ((f.frzAll ids).setOb r (.row e k ty (l.set i z) (deep&&dp)))
      | _=>none
    else none
   | none=>none
  | some (.win k' ty l)=>
   if k=k'/\y.cells.length=inf.size/\inf.size=1/\off<k then
    Option.bind l[i]? λel=>
     match y.cells,(split ty el)[off]? with
     | [.v tz z],some (.v ty' _)=>
      if flat tz=true/\flat ty'=true then
       match f.dataL ty (sp (split ty el) off [.v tz z]) with
       | some (el',[])=>K (f.setOb r (.win k ty (l.set i el')))
       | _=>none
      else none
     | _,_=>none
   else none
  | _=>none
 | _,_,_=>none
end
end Go.V
set_option linter.unusedVariables false
namespace Go.V
open Go.Ab Go.RowKit
section
variable {R:Type}
def aPs(P:Program)(f:F)(d:Option Nat)(K:F->Option R):Op->Option R
 | .alloc t=>
  match d,P.info? t with
  | some d,some i=>
   match i.zero with
   | some z=>if z.cells.toList.all Value.oneCell'=true/\pinned d=false then K (f.newOb d (.box ((z.cells.toList.map zC).map (pS d))) (.ptr d 0)) else none
   | none=>none
  | _,_=>none
 | .box _ x=>
  match d,f.get x with
  | some d,some (.val y)=>if y.cells.all C.solid=true/\pinned d=false then K (f.newOb d (.box (y.cells.map (pS d))) (.ptr d 0)) else none
  | _,_=>none
 | .store t p x=>
  match d with
  | none=>bAu P f t p x K
  | some _=>none
 | .makeSlice t x y=>
  match d,P.underlying t,f.getC x,f.getC y with
  | some d,some (.slice e),some (.v (.int _) n),some (.v (.int _) m)=>
   match P.info? e,aWa P 12 e with
   | some i,some ty=>
    match i.zero with
    | some z=>
     match f.dataL ty (z.cells.toList.map zC) with
     | some (z0,[])=>if i.size=z.cells.size/\0<i.size/\pinned d=false then cond (bM4 i.bytes n m) (K (f.newOb d (.row e i.size ty (bXy n.toNat z0) true) (.row d))) none else none
     | _=>none
    | none=>none
   | _,_=>none
  | _,_,_,_=>none
 | .buildSlice t len ps=>
  match d,P.underlying t with
  | some d,some (.slice e)=>
   match P.info? e,aWa P 12 e with
   | some i,some ty=>
    match aKh f i.size ty ps.toList with
    | some (es,ids,dp)=>if 0<i.size/\yJ.tyLen ty=i.size/\ps.toList.map (·.1)=bXz len/\len * i.size<=1000/\i.zero.isSome=true/\pC ids=true/\pinned d=false then K ((f.frzAll ids).newOb d (.row e i.size ty es dp) (.row d)) else none
    | none=>none
   | _,_=>none
  | _,_=>none
 | .call cl=>
  match d,cl.callee,cl.args.toList,cl.argTypes.toList with
  | some d,.builtin .append,[s,x],[t,t']=>if t=t' then bEh P f d t s x K else none
  | _,_,_,_=>none
 | _=>none
def noK(kd:IntKind):Ty->Bool
 | .int k=> !decide (k=kd)
 | .bool=>true
 | .str=>true
 | .sl t=>noK kd t
 | .pair a b=>noK kd a&&noK kd b
def C.safe(kd:IntKind):C->Bool
 | .v t _=>flat t||noK kd t
 | .ep _ _ _=>false
 | .sub _ _ _ _ _ _=>false
 | .ip _ _ _ _ _ _ _=>false
 | _=>true
def A.safe(kd:IntKind):A->Bool
 | .one c=>c.safe kd
 | .agg cs=>cs.all (C.safe kd)
def S.safe(kd:IntKind):S->Bool
 | .val x=>x.safe kd
 | .tup xs=>xs.all (A.safe kd)
 | .un=>true
def O.safe(kd:IntKind):O->Bool
 | .box cs=>cs.all (C.safe kd)
 | _=>true
def O.kept(kd:IntKind):O->Bool
 | .row _ _ t _ deep=>deep||(flat t||noK kd t)
 | _=>true
def aKo(kd:IntKind)(c:C):C:=if c.safe kd then c else .any
def O.toSafe(kd:IntKind):O->O
 | .box cs=> .box (cs.map (aKo kd))
 | x=>x
def F.toSafe(f:F)(kd:IntKind):F:=
 ⟨f.ctr+1,f.fr.filter (λe=>e.2.2.safe kd),(f.ob.filter λe=>e.2.2.kept kd).map λe=>if e.2.2.safe kd then e else (e.1,f.ctr,e.2.2.toSafe kd)⟩
def bWe(f:F)(p:Operand):Bool:=
 match f.getC p with
 | some (.ip _ _ _ _ _ _ _)=>true
 | _=>false
def F00:F:=⟨0,[],[]⟩
def aM6(P:Program)(f:F)(t:TypeId)(p x:Operand)(K:F->Option R):Option R:=
 match f.getC p,f.get x,P.info? t with
 | some (.ip r k i off m j q),some (.val (.one (.v (.int kd) z))),some inf=>
  match f.obj r with
  | some (.row e k' T l true)=>
   if k=k'/\inf.size=1/\off<k/\q<m then
    Option.bind l[i]? λel=>
     match (split T el)[off]? with
     | some (.v (.sl t2) x2)=>
      if aB1 t2=m then
       Option.bind x2[j]? λel2=>
        match (split t2 el2)[q]? with
        | some (.v (.int kd') _)=>
         if kd'=kd then
          match F00.dataL t2 (sp (split t2 el2) q [.v (.int kd) z]) with
          | some (el2',[])=>
           match F00.dataL T (sp (split T el) off [.v (.sl t2) (x2.set j el2')]) with
           | some (el',[])=>K ((f.toSafe kd).setOb r (.row e k T (l.set i el') true))
           | _=>none
          | _=>none
         else none
        | _=>none
      else none
     | _=>none
   else none
  | _=>none
 | _,_,_=>none
structure Con where
 f:FuncId
 pre:Sh
 post:Sh
 win:Bool
 sem:sC pre.tys->Option (sC post.tys)
def Con.w(c:Con):Con:={c with win:=true}
def xP(E:List Con)(f:FuncId):Option Con:=E.find? λc=>c.f==f
def bJv(f:F):CT->C->Option (List TV)
 | .var t,c=>(f.data t c).map λx=>[⟨t,x⟩]
 | _,_=>none
def bB9(f:F):List CT->List C->Option (List TV)
 | [],[]=>some []
 | t::ts,c::cs=>match bJv f t c,bB9 f ts cs with
  | some a,some b=>some (a++b)
  | _,_=>none
 | _,_=>none
def bUd(f:F)(h:ST)(x:Operand):Option (List TV):=
 match h,f.get x with
 | .one t,some (.val (.one c))=>bJv f t c
 | .agg ts,some (.val (.agg cs))=>bB9 f ts cs
 | _,_=>none
def aOj(f:F):Nat->List (Nat×ST)->List Operand->Option (List TV)
 | _,[],[]=>some []
 | i,(j,h)::hs,x::xs=>if i=j then match bUd f h x,aOj f (i+1) hs xs with
   | some a,some b=>some (a++b)
   | _,_=>none
  else none
 | _,_,_=>none
def bO(d:Nat):Nat:=1000+16 * d
def F0:F:=⟨0,[],[]⟩
def CT.isSl:CT->Bool
 | .var t=> !flat t
 | _=>false
def ST.isSl:ST->Bool
 | .one c=>c.isSl
 | .agg cs=>cs.any CT.isSl
 | .keep=>false
def aNh:S->List Nat
 | .val x=>x.cells.flatMap λc=>match c with
  | .row r=>[r]
  | _=>[]
 | _=>[]
def aFr(f:F)(xs:List Operand):List Nat:=xs.flatMap λx=>match f.get x with
 | some s=>aNh s
 | none=>[]
def shC(base:Nat):C->C
 | .row r=> .row (base+r)
 | c=>c
def shA(base:Nat):A->A
 | .one c=> .one (shC base c)
 | .agg cs=> .agg (cs.map (shC base))
def uD:List (Nat×Nat×S)->List A
 | (_,_,.val x)::es=>x::uD es
 | _=>[]
def bA9:List A->S
 | [x]=> .val x
 | xs=> .tup xs
def okC(sl:Bool)(ids:List Nat):C->Bool
 | .v t _=>sl||flat t
 | .row r=>ids.contains r
 | _=>false
def okA(sl:Bool)(ids:List Nat):A->Bool
 | .one c=>okC sl ids c
 | .agg cs=>cs.all (okC sl ids)
def okS(sl:Bool)(ids:List Nat):S->Bool
 | .val x=>okA sl ids x
 | _=>false
def okO(d:Nat)(e:Nat×Nat×O):Bool:=
 match e.2.2 with
 | .row _ _ _ _ true=> !pinned (bO d+e.1)
 | _=>false
def aN9(sl win:Bool)(d:Nat)(p:F):Bool:=
 (p.fr.map (·.1)==bXz p.fr.length)&&(pC (p.ob.map (·.1))&&(p.ob.all (okO d)&&(p.fr.all (λe=>okS sl (p.ob.map (·.1)) e.2.2)&& !(sl&&win))))
def aPa(win:Bool):O->O
 | .row e k t l deep=>cond win (.win k t l) (.row e k t l deep)
 | x=>x
def adopt(d:Nat)(win:Bool)(f:F):List (Nat×Nat×O)->F
 | []=>f
 | e::es=>adopt d win (f.add (bO d+e.1) (aPa win e.2.2)) es
def aQk(c:Con)(f:F)(d:Option Nat)(xs:List Operand)(K:F->Option R):Option R:=
 match d with
 | some d=>
  if c.post.fr.any (·.2.isSl)=true/\(aFr f xs).isEmpty=false then none else
  match aOj f 0 c.pre.fr xs with
  | some tvs=>gO (aHd c.pre.tys tvs) λa=>gO (F0.inj c.pre a) λ_=>Option.bind (c.sem a) λy=>gO (F0.inj c.post y) λp=>
   cond (aN9 (c.post.fr.any (·.2.isSl)) c.win d p) (K ((adopt d c.win f p.ob).put (some d) (bA9 ((uD p.fr).map (shA (bO d)))))) none
  | none=>none
 | none=>none
inductive Tgt where
 | whole (r k:Nat) (t:Ty) (l:List (den t))
 | part (r k i off:Nat) (T:Ty) (L:List (den T)) (el:den T) (t:Ty) (l:List (den t))
def Tgt.root:Tgt->Nat
 | .whole r _ _ _=>r
 | .part r _ _ _ _ _ _ _ _=>r
def Tgt.tv:Tgt->TV
 | .whole _ _ t l=>⟨.sl t,l⟩
 | .part _ _ _ _ _ _ _ t l=>⟨.sl t,l⟩
def bA7(f:F)(k:Nat)(t:Ty)(K:Tgt->Option R):C->Option R
 | .row r=>match f.obj r with
  | some (.win k' t' l)=>if k'=k/\t'=t then K (.whole r k' t' l) else none
  | _=>none
 | .sub r k1 i off _ _=>match f.obj r with
  | some (.win k' T L)=>if k1=k' then Option.bind L[i]? λel=>match (split T el)[off]? with
    | some (.v (.sl t') l)=>if t'=t/\aB1 t=k then K (.part r k' i off T L el t' l) else none
    | _=>none
   else none
  | _=>none
 | _=>none
def aA9(f:F):List (Nat×OT)->List (Nat×C)->(List Tgt->Option R)->Option R
 | [],[],K=>K []
 | (p,.win k t)::hs,(q,c)::cs,K=>if p=q then bA7 f k t (λx=>aA9 f hs cs λxs=>K (x::xs)) c else none
 | _,_,_=>none
def Tgt.upd(f:F):Tgt->O->Option F
 | .whole r k t _,.win k' t' l'=>if k=k' then (fO (.sl t') (.sl t) l').map λy=>f.setOb r (.win k t y) else none
 | .part r k i off T L el _ _,.win _ t' l'=>match F0.dataL T (sp (split T el) off [.v (.sl t') l']) with
  | some (el',[])=>some (f.setOb r (.win k T (L.set i el')))
  | _=>none
 | _,_=>none
def aNe(f:F):List Tgt->List (Nat×Nat×O)->Option F
 | [],[]=>some f
 | x::xs,e::es=>match x.upd f e.2.2 with
  | some g=>aNe g xs es
  | none=>none
 | _,_=>none
def aLc(f:F):CT->C->Option (List TV×List (Nat×C))
 | .var t,c=>if flat t=true then (f.data t c).map λx=>([⟨t,x⟩],[]) else none
 | .row p,c=>some ([],[(p,c)])
 | _,_=>none
def aKk(f:F):List CT->List C->Option (List TV×List (Nat×C))
 | [],[]=>some ([],[])
 | t::ts,c::cs=>match aLc f t c,aKk f ts cs with
  | some (a,p),some (b,q)=>some (a++b,p++q)
  | _,_=>none
 | _,_=>none
def bOi(f:F)(h:ST)(x:Operand):Option (List TV×List (Nat×C)):=
 match h,f.get x with
 | .one t,some (.val (.one c))=>aLc f t c
 | .agg ts,some (.val (.agg cs))=>aKk f ts cs
 | _,_=>none
def aT3(f:F):Nat->List (Nat×ST)->List Operand->Option (List TV×List (Nat×C))
 | _,[],[]=>some ([],[])
 | i,(j,h)::hs,x::xs=>if i=j then match bOi f h x,aT3 f (i+1) hs xs with
   | some (a,p),some (b,q)=>some (a++b,p++q)
   | _,_=>none
  else none
 | _,_,_=>none
def aQx(p:F):Bool:=(p.fr.map (·.1)==bXz p.fr.length)&&p.fr.all λe=>okS false [] e.2.2
def aQ7(c:Con)(f:F)(d:Option Nat)(xs:List Operand)(K:F->Option R):Option R:=
 match d with
 | some d=>
  match aT3 f 0 c.pre.fr xs with
  | some (tvs,ps)=>
   if pC (ps.map (·.1))=true/\(ps.all λe=>pinned e.1)=true then
    aA9 f c.pre.ob ps λts=>
     if pC (ts.map Tgt.root)=true then
      gO (aHd c.pre.tys (tvs++ts.map Tgt.tv)) λa=>gO (F0.inj c.pre a) λ_=>Option.bind (c.sem a) λy=>gO (F0.inj c.post y) λp=>
       if p.ob.map (·.1)=ps.map (·.1)/\aQx p=true then gO (aNe f.noSubs ts p.ob) λg=>K (g.put (some d) (bA9 (uD p.fr))) else none
     else none
   else none
  | none=>none
 | none=>none
def Con.ptrs(c:Con):Bool:=c.pre.ob.any (λe=>match e.2 with
 | .box _=>true
 | .row _ _ _ _=>true
 | _=>false)||c.post.ob.any (λe=>match e.2 with
 | .box _=>true
 | .row _ _ _ deep=> !deep
 | _=>false)
def aUf:CT->C->Option (List TV×List (Nat×Nat))
 | .var t,.v t' x=>(fO t' t x).map λy=>([⟨t,y⟩],[])
 | .var (.sl t),.nil=>some ([⟨.sl t,[]⟩],[])
 | .row q,.row r=>some ([],[(q,r)])
 | .ptr p off,.ptr o off'=>if off=off' then some ([],[(p,o)]) else none
 | _,_=>none
def aOb:List CT->List C->Option (List TV×List (Nat×Nat))
 | [],[]=>some ([],[])
 | t::ts,c::cs=>match aUf t c,aOb ts cs with
  | some (a,p),some (b,q)=>some (a++b,p++q)
  | _,_=>none
 | _,_=>none
def bOo(f:F)(h:ST)(x:Operand):Option (List TV×List (Nat×Nat)):=
 match h,f.get x with
 | .one t,some (.val (.one c))=>aUf t c
 | .agg ts,some (.val (.agg cs))=>aOb ts cs
 | _,_=>none
def aHn(f:F):Nat->List (Nat×ST)->List Operand->Option (List TV×List (Nat×Nat))
 | _,[],[]=>some ([],[])
 | i,(j,h)::hs,x::xs=>if i=j then match bOo f h x,aHn f (i+1) hs xs with
   | some (a,p),some (b,q)=>some (a++b,p++q)
   | _,_=>none
  else none
 | _,_,_=>none
def xY(f:F):List (Nat×OT)->List (Nat×Nat)->Option (List TV×List (Nat×Nat))
 | [],ps=>some ([],ps)
 | (p,.box cts)::hs,ps=>
  match ps.find? λe=>e.1==p with
  | some e=>
   match f.obj e.2 with
   | some (.box cs)=>
    match aOb cts cs with
    | some (a,qs)=>
     match xY f hs (ps++qs) with
     | some (b,r)=>some (a++b,r)
     | none=>none
    | none=>none
   | _=>none
  | none=>none
 | (p,.row e k t deep)::hs,ps=>
  match ps.find? λe=>e.1==p with
  | some z=>
   match f.obj z.2 with
   | some (.row e' k' t' l _)=>
    if e=e'/\k=k'/\t=t'/\deep=false then
     match xY f hs ps with
     | some (b,r)=>some (⟨.sl t',l⟩::b,r)
     | none=>none
    else none
   | _=>none
  | none=>none
 | _::_,_=>none
def rho(H:List (Nat×Nat))(d q:Nat):Nat:=
 match H.find? λe=>pinned e.1&&e.1==q with
 | some e=>e.2
 | none=>bO d+q
def aW6(H:List (Nat×Nat))(d:Nat):C->C
 | .row r=> .row (rho H d r)
 | .ptr o off=> .ptr (rho H d o) off
 | c=>c
def bKt(H:List (Nat×Nat))(d:Nat):A->A
 | .one c=> .one (aW6 H d c)
 | .agg cs=> .agg (cs.map (aW6 H d))
def bL7(H:List (Nat×Nat))(d:Nat):O->O
 | .box cs=> .box (cs.map (aW6 H d))
 | x=>x
def aI7(ids:List Nat):C->Bool
 | .v _ _=>true
 | .nil=>true
 | .row r=>ids.contains r
 | .ptr o _=>ids.contains o
 | .any=>true
 | _=>false
def aWr(ids:List Nat):A->Bool
 | .one c=>aI7 ids c
 | .agg cs=>cs.all (aI7 ids)
def bCj(ids:List Nat):S->Bool
 | .val x=>aWr ids x
 | _=>false
def aX0(H:List (Nat×Nat))(d q:Nat):Bool:=
 cond (pinned q) ((H.map (·.1)).contains q) (!pinned (bO d+q)&& !(H.any λe=>pinned e.1&&e.2==bO d+q))
def bBa(H:List (Nat×Nat))(d:Nat)(ids:List Nat)(e:Nat×Nat×O):Bool:=
 aX0 H d e.1&&match e.2.2 with
 | .box cs=>cs.all (aI7 ids)
 | .row _ _ _ _ _=>true
 | .win _ _ _=>false
def aKi(H:List (Nat×Nat))(d:Nat)(p:F):Bool:=
 (p.fr.map (·.1)==bXz p.fr.length)&&(pC (p.ob.map (·.1))&&(p.ob.all (bBa H d (p.ob.map (·.1)))&&p.fr.all λe=>bCj (p.ob.map (·.1)) e.2.2))
def nH(H:List (Nat×Nat))(d:Nat)(p:F):List Nat:=((H.filter λe=> !pinned e.1).map (·.2))++((p.ob.filter λe=> !pinned e.1).map λe=>bO d+e.1)
def F.scrubs(f:F)(ids:List Nat):F:=ids.foldl F.scrub f
def F.less(f:F)(H:List (Nat×Nat)):F:=⟨f.ctr,f.fr,f.ob.filter λe=> !(H.any λq=>pinned q.1&&q.2==e.1)⟩
def F.give(f:F)(H:List (Nat×Nat))(d:Nat)(es:List (Nat×Nat×O)):F:=
 ⟨f.ctr+1,f.fr,es.map (λe=>(rho H d e.1,f.ctr,bL7 H d e.2.2))++f.ob⟩
def F.isRow(f:F)(r:Nat):Bool:=
 match f.obj r with
 | some (.row _ _ _ _ _)=>true
 | _=>false
def C.subOk(f:F)(H:List (Nat×Nat)):C->Bool
 | .sub r _ _ _ _ _=>f.isRow r&& !(H.map (·.2)).contains r
 | .ip r _ _ _ _ _ _=>f.isRow r&& !(H.map (·.2)).contains r
 | _=>true
def A.subOk(f:F)(H:List (Nat×Nat)):A->Bool
 | .one c=>c.subOk f H
 | .agg cs=>cs.all (C.subOk f H)
def S.subOk(f:F)(H:List (Nat×Nat)):S->Bool
 | .val x=>x.subOk f H
 | .tup xs=>xs.all (A.subOk f H)
 | .un=>true
def F.subOk(f:F)(H:List (Nat×Nat)):Bool:=f.fr.all (λe=>e.2.2.subOk f H)&&f.ob.all λe=> !e.2.2.isSub
def bNt(f:F)(xs:List Operand)(r:Nat):Bool:=xs.any λx=>match f.get x with
 | some (.val y)=>y.cells.any λc=>c.names r||(match c with
  | .ptr o _=>match f.obj o with
   | some z=>z.names r
   | none=>false
  | _=>false)
 | _=>false
def C.lives(f:F)(xs:List Operand):C->Bool
 | .sub r _ _ _ _ _=>f.isRow r&& !bNt f xs r
 | .ip r _ _ _ _ _ _=>f.isRow r&& !bNt f xs r
 | _=>true
def S.lives(f:F)(xs:List Operand):S->Bool
 | .val x=>x.cells.all (C.lives f xs)
 | x=> !x.isSub
def F.subsFor(f:F)(xs:List Operand):F:=⟨f.ctr+1,f.fr.filter (λe=>e.2.2.lives f xs),f.ob.map λe=>if e.2.2.isSub then (e.1,f.ctr,e.2.2.noSub) else e⟩
def aMt(c:Con)(f:F)(d:Option Nat)(xs:List Operand)(K:F->Option R):Option R:=
 match aHn f 0 c.pre.fr xs with
 | some (tvs,ps)=>
  match xY f c.pre.ob ps with
  | some (tws,H)=>
   if pC (H.map (·.1))=true/\pC (H.map (·.2))=true/\pC (c.pre.ob.map (·.1))=true/\(c.pre.ob.isEmpty=true->H.isEmpty=true)/\f.subOk H=true then
    gO (aHd c.pre.tys (tvs++tws)) λa=>gO (F0.inj c.pre a) λ_=>Option.bind (c.sem a) λy=>gO (F0.inj c.post y) λp=>
     cond (aKi H (d.getD 9000) p) (K ((((f.scrubs (nH H (d.getD 9000) p)).less H).give H (d.getD 9000) p.ob).put d (bA9 ((uD p.fr).map (bKt H (d.getD 9000)))))) none
   else none
  | none=>none
 | none=>none
def bN7:CT->C->List Nat
 | .var _,.row r=>[r]
 | _,_=>[]
def bEz:List CT->List C->List Nat
 | t::ts,c::cs=>bN7 t c++bEz ts cs
 | _,_=>[]
def bVy(f:F)(obs:List (Nat×OT)):CT->C->List Nat
 | .ptr p _,.ptr o _=>match obs.find? (λe=>e.1==p),f.obj o with
  | some (_,.box cts),some (.box cs)=>bEz cts cs
  | _,_=>[]
 | _,_=>[]
def bKj(f:F)(obs:List (Nat×OT)):List (Nat×ST)->List Operand->List Nat
 | (_,h)::hs,x::xs=>(match h,f.get x with
  | .one t,some (.val (.one c))=>bN7 t c++bVy f obs t c
  | .agg ts,some (.val (.agg cs))=>bEz ts cs
  | _,_=>[])++bKj f obs hs xs
 | _,_=>[]
def bD7(o:Nat)(obs:List (Nat×OT)):Nat->List CT->List C->List Wk
 | j,.row q::ts,.nil::cs=>(match obs.find? λe=>e.1==q with
  | some (_,.row e k t _)=>[Wk.nilB o j (180000+j) e k t]
  | _=>[])++bD7 o obs (j+1) ts cs
 | j,_::ts,_::cs=>bD7 o obs (j+1) ts cs
 | _,_,_=>[]
def bR7(f:F)(obs:List (Nat×OT)):List (Nat×ST)->List Operand->List Wk
 | (_,h)::hs,x::xs=>(match h,f.get x with
  | .one (.ptr p _),some (.val (.one (.ptr o _)))=>match obs.find? (λe=>e.1==p),f.obj o with
   | some (_,.box cts),some (.box cs)=>bD7 o obs 0 cts cs
   | _,_=>[]
  | _,_=>[])++bR7 f obs hs xs
 | _,_=>[]
def aKj(c:Con)(f:F)(d:Option Nat)(xs:List Operand)(K:F->Option R):Option R:=
 gO ((f.frzAll (bKj f c.pre.ob c.pre.fr xs)).wks (bR7 (f.frzAll (bKj f c.pre.ob c.pre.fr xs)) c.pre.ob c.pre.fr xs)) λg=>aMt c (g.subsFor xs) d xs K
def Con.raw(E:List Con)(d:Option Nat)(c:Con):Con:=
 match d with
 | some d=>cond (xP E (1100000000+d)).isSome {c with win:=false} c
 | none=>c
def S.isPtr(o:Nat):S->Bool
 | .val (.one (.ptr o' off))=>o'==o&&off==0
 | _=>false
def aZy(f:F)(o:Nat):Option Nat:=(f.fr.find? λe=>e.2.2.isPtr o).map (·.1)
def aWz(E:List Con)(f:F)(d:Option Nat)(cl:Call)(K:F->Option R):Option R:=
 match cl.callee with
 | .value (.func g)=>
  match (xP E g).map (Con.raw E d) with
  | some c=>
   cond c.ptrs (aKj c f d cl.args.toList K)
   (match c.pre.ob with
   | []=>aQk c (if c.post.fr.any (·.2.isSl) then f.noSubs.frzAll (aFr f.noSubs cl.args.toList) else f.noSubs) d cl.args.toList K
   | _=>aQ7 c f d cl.args.toList K)
  | none=>none
 | .value x=>
  match f.getC x with
  | some (.clo g o)=>
   match xP E g,aZy f o with
   | some c,some s=>cond c.ptrs (aKj c f d (cl.args.toList++[.tmp s]) K) none
   | _,_=>none
  | _=>none
 | _=>none
def aNl:Op->Bool
 | .load _ _=>true
 | .convert _ _ _=>true
 | _=>false
def zJ:Op->Bool
 | .alloc _=>false
 | .box _ _=>false
 | .store _ _ _=>false
 | .makeSlice _ _ _=>false
 | .buildSlice _ _ _=>false
 | .call cl=>
  match cl.callee with
  | .builtin .len=>true
  | .builtin .max=>true
  | .builtin .min=>true
  | _=>false
 | _=>true
def preF(f:F):Op->F
 | .slice _ x _ _ _=>match f.getC x with
  | some (.row r)=>f.frzRow r
  | _=>f
 | _=>f
def bPk(d:Nat):Con:=⟨1000000000+d,⟨[],[]⟩,⟨[],[]⟩,false,λ_=>none⟩
def bQi(E:List Con)(o:Oper):Bool:=
 match o.op,o.dst with
 | .slice _ _ none (some _) none,some d=>(xP E (1000000000+d)).isSome
 | _,_=>false
def aQs(P:Program)(f:F)(o:Oper)(K:F->Option R):Option R:=
 match o.op,o.dst with
 | .slice t x none (some y) none,some d=>
  match P.underlying t,f.getC x,f.getC y with
  | some (.slice e),some (.row q),some (.v (.int _) n)=>
   match f.obj q,P.info? e with
   | some (.row e' k ty l deep),some i=>
    if i.size=k/\pinned q=false then cond (cQ 0 n (l.length:Int)) (K ((f.noSubs.add q (.row e' k ty (l.take n.toNat) deep)).put (some d) (.val (.one (.row q))))) none else none
   | _,_=>none
  | _,_,_=>none
 | _,_=>none
def bRw(E:List Con)(o:Oper):Bool:=
 match o.op,o.dst with
 | .load _ _,some d=>(xP E (1200000000+d)).isSome
 | _,_=>false
def aWj(P:Program)(f:F)(o:Oper)(K:F->Option R):Option R:=
 match o.op with
 | .load t p=>
  match f.getC p with
  | some (.rp r k i off)=>
   match f.obj r with
   | some (.row _ k' ty l true)=>if k=k' then Option.bind l[i]? λx=>gO (rdC P t off (aBs r k i 0 (split ty x))) λx=>K (f.put o.dst (.val x)) else none
   | _=>none
  | _=>none
 | _=>none
def aIi(P:Program)(E:List Con)(f:F)(o:Oper)(K:F->Option R):Option R:=
 cond (bQi E o) (aQs P f o K) (cond (bRw E o) (aWj P f o K) (cond (zJ o.op) (aCg P (preF f o.op) (λs=>K ((preF f o.op).put o.dst s)) o.op)
  (match o.op with
  | .call cl=>
   match cl.callee with
   | .builtin .append=>aPs P f.noSubs o.dst K o.op
   | _=>aWz E f o.dst cl K
  | .store t p x=>cond (bWe f p) (match o.dst with
   | none=>aM6 P f t p x K
   | some _=>none) (aPs P f.noSubs o.dst K (.store t p x))
  | _=>aPs P f.noSubs o.dst K o.op)))
def jD(n:Nat):Option Nat->Bool
 | some d=>decide (d<n)
 | none=>true
def F.setB(f:F)(d:Nat)(b:Bool):F:=f.put (some d) (.val (.one (.v .bool b)))
def aE4(P:Program)(n:Nat)(E:List Con)(ops:Array Oper)(f:F)(o:Oper)(K:F->Option R):Option R:=
 cond (jD n o.dst)
 (match o.guard with
 | none=>aIi P E f o K
 | some (j,want)=>
  match (ops[j]?).bind (·.dst) with
  | some d=>
   match f.look d with
   | some .un=>K (f.put o.dst .un)
   | some (.val (.one (.v .bool b)))=>
    cond b
     (cond want (aIi P E (f.setB d true) o K) (K ((f.setB d true).put o.dst .un)))
     (cond want (K ((f.setB d false).put o.dst .un)) (aIi P E (f.setB d false) o K))
   | _=>none
  | none=>none) none
def aUc(P:Program)(n:Nat)(E:List Con)(ops:Array Oper):List Oper->F->(F->Option R)->Option R
 | [],f,K=>K f
 | o::os,f,K=>aE4 P n E ops f o λf'=>aUc P n E ops os f' K
def tE(E:List Con):Op->Bool
 | .store _ _ _=>true
 | .call cl=>
  match cl.callee with
  | .builtin .len=>false
  | .builtin .max=>false
  | .builtin .min=>false
  | .value (.func g)=>match xP E g with
   | some c=> !c.pre.ob.isEmpty
   | none=>true
  | _=>true
 | _=>false
def wOf(E:List Con)(ops:Array Oper)(j:Nat):Bool:=
 match ops[j]? with
 | some o=>tE E o.op
 | none=>false
def nI:Op->Option Operand
 | .store _ p _=>some p
 | .call cl=>match cl.callee,cl.args.toList with
  | .builtin .append,[x,_]=>some x
  | _,_=>none
 | _=>none
def uE:Op->Bool
 | .call cl=>match cl.callee with
  | .builtin .append=>true
  | _=>false
 | _=>false
def aBk:Op->Bool
 | .alloc _=>true
 | .box _ _=>true
 | .makeSlice _ _ _=>true
 | .buildSlice _ _ _=>true
 | _=>false
def aJt(ops:Array Oper)(t k:Nat):Bool:=
 match ops[k]? with
 | some o=>(aBk o.op||uE o.op)&&(o.dst==some t)
 | none=>false
def aI4(ops:Array Oper)(t k:Nat):Bool:=
 match ops[k]? with
 | some o=>o.dst==some t
 | none=>false
def aMj(ops:Array Oper)(o:Oper)(k:Nat):Bool:=o.after.any λe=>Region.binds .any e&&e.on==k
def aTv(ops:Array Oper)(listed:Array Bool):Nat->Nat->Nat->Bool
 | 0,_,_=>false
 | n+1,t,k=> !(listed.getD k true)&&(aJt ops t k&&((bXz ops.size).all (λq=>q==k|| !aI4 ops t q)&&(match ops[k]? with
  | some o=>aBk o.op||(match nI o.op with
   | some (.const (.slice none 0 0))=>true
   | some (.tmp t')=>(bXz ops.size).any λk'=>aMj ops o k'&&aTv ops listed n t' k'
   | _=>false)
  | none=>false)))
def zOk(ops:Array Oper)(listed:Array Bool)(j:Nat):Bool:=
 match ops[j]? with
 | some o=>
  match nI o.op with
  | some (.const (.slice none 0 0))=>true
  | some (.tmp t)=>(bXz ops.size).any λk=>aMj ops o k&&aTv ops listed ops.size t k
  | _=>false
 | none=>false
def aT5(ops:Array Oper)(i:Nat)(D:List Nat)(k:Nat):Bool:=
 match ops[k]? with
 | some o=>o.after.any λe=>Region.binds .any e&&(e.on==i||D.contains e.on)
 | none=>false
def aOx(ops:Array Oper)(listed:Array Bool)(i:Nat):List Nat->List Nat->List Nat
 | [],D=>D
 | k::ks,D=>aOx ops listed i ks (cond (!(listed.getD k true)&&aT5 ops i D k) (k::D) D)
def bNy(E:List Con)(ops:Array Oper)(listed:Array Bool)(i:Nat):Bool:=
 (bXz ops.size).all λj=> !wOf E ops j||(listed.getD j true||((aOx ops listed i (bXz ops.size) []).contains j||zOk ops listed j))
def aL9(E:List Con)(ops:Array Oper)(listed:Array Bool)(i:Nat)(o:Oper):Bool:=
 (Region.ready .any ops listed==[i])||((Region.ready .any ops listed).contains i&&(Region.free .any ops listed i&&((!aNl o.op||bNy E ops listed i)&&zJ o.op)))
inductive Ord where
 | z
 | op (i:Nat) (o:Ord)
 | alt (i:Nat) (o m:Ord)
def Ord.heads:Ord->List Nat
 | .alt i _ m=>i::m.heads
 | _=>[]
open Classical in
noncomputable def lO(x y:Option R):Option R:=Option.bind x λr=>if y=some r then some r else none
noncomputable def zK(P:Program)(n:Nat)(E:List Con)(ops:Array Oper):Bool->Ord->Array Bool->F->(F->Option R)->Option R
 | b,.z,listed,f,K=>cond b none (cond ((Region.ready .any ops listed).isEmpty) (K f) none)
 | b,.op i o,listed,f,K=>cond b none
  (match ops[i]? with
  | some oi=>cond (aL9 E ops listed i oi) (aE4 P n E ops f oi λf'=>zK P n E ops false o (listed.setIfInBounds i true) f' K) none
  | none=>none)
 | b,.alt i o m,listed,f,K=>cond (b||(Region.ready .any ops listed==i::m.heads))
  (match ops[i]? with
  | some oi=>match m with
   | .z=>aE4 P n E ops f oi λf'=>zK P n E ops false o (listed.setIfInBounds i true) f' K
   | m=>lO (aE4 P n E ops f oi λf'=>zK P n E ops false o (listed.setIfInBounds i true) f' K) (zK P n E ops true m listed f K)
  | none=>none) none
def aOe(E:List Con)(ops:Array Oper):Nat->Array Bool->Ord
 | 0=>λ_=> .z
 | k+1=>λlisted=>
  match (Region.ready .any ops listed).find? (λi=>match ops[i]? with
   | some o=>aL9 E ops listed i o
   | none=>false) with
  | some i=> .op i (aOe E ops k (listed.setIfInBounds i true))
  | none=>(Region.ready .any ops listed).foldr (λi m=> .alt i (aOe E ops k (listed.setIfInBounds i true)) m) .z
inductive Plan where
 | z
 | seq (p q:Plan)
 | cond (p q:Plan)
 | block (p:Plan)
 | loop (h:Sh) (p:Plan)
 | cut (h:Sh) (p q:Plan)
 | cutR (h:Sh) (p q:Plan)
def Plan.l:Plan->Plan
 | .seq p _=>p
 | .cond p _=>p
 | .block p=>p
 | .loop _ p=>p
 | .cut _ p _=>p
 | .cutR _ p _=>p
 | .z=> .z
def Plan.r:Plan->Plan
 | .seq _ q=>q
 | .cond _ q=>q
 | .cut _ _ q=>q
 | .cutR _ _ q=>q
 | _=> .z
def qF{σ R:Type}(step:σ->Option (σ⊕R)):Nat->σ->Option R
 | 0,_=>none
 | n+1,s=>(step s).bind (Sum.elim (qF step n) some)
open Classical in
noncomputable def aC{σ R:Type}(step:σ->Option (σ⊕R))(s:σ):Option R:=
 if h:∃n,(qF step n s).isSome=true then qF step h.choose s else none
def F.wf(f:F):Bool:=pC (f.fr.map (·.1))&&(pC (f.ob.map (·.1))&&(f.fr.all (λe=>Nat.blt e.2.1 f.ctr)&&f.ob.all λe=>Nat.blt e.2.1 f.ctr))
def Sh.wf(h:Sh):Bool:=pC (h.ob.map (·.1))
noncomputable def ev(P:Program)(n:Nat)(E:List Con):Code->{R:Type}->Plan->F->(Exit->F->Option R)->Option R
 | .skip,_,_,f,K=>K .normal f
 | .ret,_,_,f,K=>K .ret f
 | .exit id,_,_,f,K=>K (.exit id) f
 | .region _ ops false,_,_,f,K=>aUc P n E ops ops.toList f λf'=>K .normal f'
 | .region _ ops true,_,_,f,K=>cond (Region.noSelect ops) (zK P n E ops false (aOe E ops ops.size (Array.replicate ops.size false)) (Array.replicate ops.size false) f λf'=>K .normal f') none
 | .seq x y,_,.cut h p q,f,K=>cond (f.wf&&h.wf)
  (Option.bind (ev P n E x (R:=sC h.tys) p f λe g=>match e with
   | .normal=>f.fit g h
   | _=>none) λs=>gO (f.inj h s) λg=>ev P n E y q g K) none
 | .seq x y,R,.cutR h p q,f,K=>cond (f.wf&&h.wf)
  (Option.bind (ev P n E x (R:=sC h.tys⊕R) p f λe g=>match e with
   | .normal=>(f.fit g h).map Sum.inl
   | e=>(K e g).map Sum.inr) λs=>Sum.elim (λs=>gO (f.inj h s) λg=>ev P n E y q g K) some s) none
 | .seq x y,_,pl,f,K=>ev P n E x pl.l f λe g=>match e with
   | .normal=>ev P n E y pl.r g K
   | e=>K e g
 | .cond c x y,_,pl,f,K=>
  match f.getC c with
  | some (.v .bool b)=>cond b (ev P n E x pl.l f K) (ev P n E y pl.r f K)
  | _=>none
 | .block id x,_,pl,f,K=>ev P n E x pl.l f λe g=>match e with
   | .exit j=>if j=id then K .normal g else K (.exit j) g
   | e=>K e g
 | .loop x,R,.loop h p,f,K=>cond (f.wf&&h.wf) (gO (f.fit f h) λs0=>
   aC (λs=>gO (f.inj h s) λg=>ev P n E x (R:=sC h.tys⊕R) p g λe g'=>match e with
    | .normal=>(f.fit g' h).map Sum.inl
    | e=>(K e g').map Sum.inr) s0) none
 | _,_,_,_,_=>none
def aT1(P:Program)(f:F):ResultVar->Option A
 | .tmp t=>match f.look t with
  | some (.val x)=>some x
  | _=>none
 | .cell t ty=>match f.look t with
  | some (.val (.one (.ptr o off)))=>match f.obj o with
   | some (.box cs)=>rdC P ty off cs
   | _=>none
  | _=>none
def aGt(P:Program)(f:F):Nat->List ResultVar->Option (List (Nat×Nat×S))
 | _,[]=>some []
 | i,r::rs=>match aT1 P f r,aGt P f (i+1) rs with
  | some a,some xs=>some ((i,f.ctr,.val a)::xs)
  | _,_=>none
noncomputable def bJ8(P:Program)(E:List Con)(fn:Func)(pl:Plan)(pre post:Sh)(x:sC pre.tys):Option (sC post.tys):=
 match fn.body with
 | some cd=>cond (post.wf&&(Nat.beq post.fr.length fn.results.size&&Nat.ble pre.fr.length fn.ntmps)) (gO (F0.inj pre x) λf=>ev P fn.ntmps E cd pl f λe g=>
  match e with
  | .ret=>gO (aGt P g 0 fn.results.toList) λrs=>F0.fit ⟨g.ctr+1,rs,g.ob⟩ post
  | .normal=>gO (aGt P g 0 fn.results.toList) λrs=>F0.fit ⟨g.ctr+1,rs,g.ob⟩ post
  | _=>none) none
 | none=>none
end
end Go.V
set_option linter.unusedVariables false
namespace Go.V
open Go.Ab Go.RowKit
inductive aQ {α β:Type} (R:α->β->Prop):List α->List β->Prop
 | nil:aQ R [] []
 | cons {a:α} {b:β} {as:List α} {bs:List β} (h:R a b) (hs:aQ R as bs):aQ R (a::as) (b::bs)
section
variable {α β:Type} {R R':α->β->Prop}
theorem aQ.length{as:List α}{bs:List β}(h:aQ R as bs):as.length=bs.length:=by
 induction h with
 | nil=>rfl
 | cons _ _ ih=>simp[ih]
theorem aQ.mono{as:List α}{bs:List β}(h:aQ R as bs)(hr:∀a b,b∈bs->R a b->R' a b):aQ R' as bs:=by
 induction h with
 | nil=>exact .nil
 | cons h hs ih=>exact .cons (hr _ _ (bWt ..) h) (ih λa b hb=>hr a b (bWo _ hb))
theorem aQ.get{as:List α}{bs:List β}(h:aQ R as bs):∀{j:Nat} {b:β},bs[j]? =some b-> ∃a,as[j]? =some a/\R a b:=by
 induction h with
 | nil=>intro j b hb;simp at hb
 | cons h hs ih=>
  intro j b hb;cases j with
  | zero=>simp at hb;subst hb;exact⟨_,rfl,h⟩
  | succ j=>obtain⟨a,ha,hr⟩:=ih (j:=j) (b:=b) (by simpa using hb);exact⟨a,by simpa using ha,hr⟩
theorem aQ.take{as:List α}{bs:List β}(h:aQ R as bs):∀n,aQ R (as.take n) (bs.take n):=by
 induction h with
 | nil=>intro n;simpa using .nil
 | cons h hs ih=>
  intro n;cases n with
  | zero=>exact .nil
  | succ n=>exact .cons h (ih n)
theorem aQ.drop{as:List α}{bs:List β}(h:aQ R as bs):∀n,aQ R (as.drop n) (bs.drop n):=by
 induction h with
 | nil=>intro n;simpa using .nil
 | cons h hs ih=>
  intro n;cases n with
  | zero=>exact .cons h hs
  | succ n=>exact ih n
theorem aQ.set{as:List α}{bs:List β}(h:aQ R as bs){a:α}{b:β}(hr:R a b):∀n,aQ R (as.set n a) (bs.set n b):=by
 induction h with
 | nil=>intro n;simpa using .nil
 | cons h hs ih=>
  intro n;cases n with
  | zero=>exact .cons hr hs
  | succ n=>exact .cons h (ih n)
theorem aQ.append{as as':List α}{bs bs':List β}(h:aQ R as bs)(h':aQ R as' bs'):aQ R (as++as') (bs++bs'):=by
 induction h with
 | nil=>exact h'
 | cons h hs ih=>exact .cons h ih
theorem aQ.comp{γ:Type}{S:γ->β->Prop}{Q:α->γ->Prop}{as:List α}{bs:List β}{cs:List γ}(h:aQ R as bs)(h':aQ S cs bs)(hq:∀a b c,R a b->S c b->Q a c):aQ Q as cs:=by
 induction h generalizing cs with
 | nil=>cases h';exact .nil
 | cons h hs ih=>cases h' with | cons h1 h2=>exact .cons (hq _ _ _ h h1) (ih h2)
end
structure Cx where
 loc:Nat->Nat
 rv:Nat->Value
def aM(c:Cx)(ow:Nat->Option Nat)(w:World)(ok:Nat->Prop)(v:Value):C->Prop
 | .v t x=> ∃G,Rep w v (dW t x) G/\ ∀b∈G,ok b
 | .nil=>v= .slice none 0 0
 | .row r=>v=c.rv r
 | .ptr o off=>v= .pointer (some ⟨c.loc o,off,none⟩)
 | .ep t x off=> ∃b base,v= .pointer (some ⟨b,base+off,none⟩)/\ok b/\b<w.heap.size/\ ∃xs G,RepL w xs (cells t x) G/\(∀j u,xs[j]? =some u->w.cell? ⟨b,base+j,none⟩=some u)/\ ∀b∈G,ok b
 | .rp r k i off=> ∃g b0 n cap,c.rv r= .slice (some ⟨g,b0,none⟩) n cap/\v= .pointer (some ⟨g,b0+(i * k+off),none⟩)
 | .sub r k i off t x=> ∃g b0 n cap,c.rv r= .slice (some ⟨g,b0,none⟩) n cap/\w.cell? ⟨g,b0+(i * k+off),none⟩=some v/\ ∃G,Rep w v (dW (.sl t) x) G/\ ∀b∈G,ow b=some r
 | .ip r k i off m j q=> ∃g b0 n cap g2 b2 n2 cap2,c.rv r= .slice (some ⟨g,b0,none⟩) n cap/\w.cell? ⟨g,b0+(i * k+off),none⟩=some (.slice (some ⟨g2,b2,none⟩) n2 cap2)/\v= .pointer (some ⟨g2,b2+(j * m+q),none⟩)
 | .clo g o=>v= .func (.func g) #[] #[.pointer (some ⟨c.loc o,0,none⟩)]
 | .any=>v.oneCell'=true
def cK(c:Cx)(ow:Nat->Option Nat)(w:World)(ok:Nat->Prop)(v:Value):A->Prop
 | .one x=>aM c ow w ok v x
 | .agg cs=> ∃vs:List Value,v= .agg vs.toArray/\aQ (aM c ow w ok) vs cs
def gQ(c:Cx)(ow:Nat->Option Nat)(w:World)(ok:Nat->Prop)(v:Value):S->Prop
 | .val x=>cK c ow w ok v x
 | .tup xs=> ∃vs:List Value,v= .tuple vs.toArray/\aQ (cK c ow w ok) vs xs
 | .un=>v=undef
def F.subFree(f:F):Prop:=(∀s n x,(s,n,x)∈f.fr->x.isSub=false)/\ ∀o n x,(o,n,x)∈f.ob->x.isSub=false
structure aA2 (w w':World) (ok ok':Nat->Prop):Prop where
 size:w.heap.size<=w'.heap.size
 block:∀b,b<w.heap.size->ok b->w'.heap[b]? =w.heap[b]?
 good:∀b,b<w.heap.size->ok b->ok' b
section
variable {c:Cx} {ow ow':Nat->Option Nat} {w w':World} {ok ok':Nat->Prop} {v:Value}
theorem aM.keep{x:C}(h:aM c ow w ok v x)(hs:x.isSub=false)(k:aA2 w w' ok ok'):aM c ow' w' ok' v x:=by
 cases x with
 | v t x=>
  obtain⟨G,hr,hG⟩:=h;exact⟨G,hr.frame λb hb=>k.block b (hr.lt b hb) (hG b hb),λb hb=>k.good b (hr.lt b hb) (hG b hb)⟩
 | ep t x off=>
  obtain⟨b,base,hv,hb,hlt,xs,G,hr,hc,hG⟩:=h;exact⟨b,base,hv,k.good b hlt hb,bZt hlt k.size,xs,G,hr.frame λb hb=>k.block b (hr.lt b hb) (hG b hb),
   λj u hu=>(World.cell?_of_block (k.block b hlt hb)).trans (hc j u hu),λb hb=>k.good b (hr.lt b hb) (hG b hb)⟩
 | sub _ _ _ _ _ _=>cases hs
 | ip _ _ _ _ _ _ _=>cases hs
 | nil=>exact h
 | row _=>exact h
 | ptr _ _=>exact h
 | rp _ _ _ _=>exact h
 | clo _ _=>exact h
 | any=>exact h
theorem cK.keep{x:A}(h:cK c ow w ok v x)(hs:x.isSub=false)(k:aA2 w w' ok ok'):cK c ow' w' ok' v x:=by
 cases x with
 | one t=>exact aM.keep h hs k
 | agg ts=>
  simp only[A.isSub,bXg]at hs;obtain⟨vs,hv,ha⟩:=h;exact⟨vs,hv,ha.mono λa b hb hr=>hr.keep (by simpa using hs b hb) k⟩
theorem gQ.keep{x:S}(h:gQ c ow w ok v x)(hs:x.isSub=false)(k:aA2 w w' ok ok'):gQ c ow' w' ok' v x:=by
 cases x with
 | val x=>exact cK.keep h hs k
 | tup xs=>
  simp only[S.isSub,bXg]at hs;obtain⟨vs,hv,ha⟩:=h;exact⟨vs,hv,ha.mono λa b hb hr=>hr.keep (by simpa using hs b hb) k⟩
 | un=>exact h
theorem aM.good{x:C}(h:aM c ow w ok v x)(k:∀b,b<w.heap.size->ok b->ok' b):aM c ow w ok' v x:=by
 cases x with
 | v t x=>obtain⟨G,hr,hG⟩:=h;exact⟨G,hr,λb hb=>k b (hr.lt b hb) (hG b hb)⟩
 | ep t x off=>
  obtain⟨b,base,hv,hb,hlt,xs,G,hr,hc,hG⟩:=h;exact⟨b,base,hv,k b hlt hb,hlt,xs,G,hr,hc,λb hb=>k b (hr.lt b hb) (hG b hb)⟩
 | sub _ _ _ _ _ _=>exact h
 | ip _ _ _ _ _ _ _=>exact h
 | nil=>exact h
 | row _=>exact h
 | ptr _ _=>exact h
 | rp _ _ _ _=>exact h
 | clo _ _=>exact h
 | any=>exact h
theorem cK.good{x:A}(h:cK c ow w ok v x)(k:∀b,b<w.heap.size->ok b->ok' b):cK c ow w ok' v x:=by
 cases x with
 | one t=>exact aM.good h k
 | agg ts=>obtain⟨vs,hv,ha⟩:=h;exact⟨vs,hv,ha.mono λa b _ hr=>hr.good k⟩
theorem gQ.good{x:S}(h:gQ c ow w ok v x)(k:∀b,b<w.heap.size->ok b->ok' b):gQ c ow w ok' v x:=by
 cases x with
 | val x=>exact cK.good h k
 | tup xs=>obtain⟨vs,hv,ha⟩:=h;exact⟨vs,hv,ha.mono λa b _ hr=>hr.good k⟩
 | un=>exact h
end
structure Cx.but (c c':Cx) (d:Nat):Prop where
 loc:∀o,o≠d->c'.loc o=c.loc o
 rv:∀o,o≠d->c'.rv o=c.rv o
def Cx.setLoc(c:Cx)(d b:Nat):Cx:={c with loc:=λo=>if o=d then b else c.loc o}
def Cx.setRv(c:Cx)(d:Nat)(v:Value):Cx:={c with rv:=λo=>if o=d then v else c.rv o}
theorem Cx.but_loc(c:Cx)(d b:Nat):c.but (c.setLoc d b) d:=⟨λo h=>by simp[Cx.setLoc,h],λ_ _=>rfl⟩
theorem Cx.but_rv(c:Cx)(d:Nat)(v:Value):c.but (c.setRv d v) d:=⟨λ_ _=>rfl,λo h=>by simp[Cx.setRv,h]⟩
section
variable {c c':Cx} {ow:Nat->Option Nat} {w:World} {ok:Nat->Prop} {v:Value} {d:Nat}
theorem aM.but{x:C}(h:aM c ow w ok v x)(hd:x.names d=false)(k:c.but c' d):aM c' ow w ok v x:=by
 cases x with
 | row r=>simp[C.names]at hd;simp only[aM]at h ⊢;rw[k.rv r hd];exact h
 | ptr o off=>simp[C.names]at hd;simp only[aM]at h ⊢;rw[k.loc o hd];exact h
 | rp r k' i off=>simp[C.names]at hd;simp only[aM]at h ⊢;rw[k.rv r hd];exact h
 | sub r k' i off t x=>simp[C.names]at hd;simp only[aM]at h ⊢;rw[k.rv r hd];exact h
 | ip r k' i off m j q=>simp[C.names]at hd;simp only[aM]at h ⊢;rw[k.rv r hd];exact h
 | clo g o=>simp[C.names]at hd;simp only[aM]at h ⊢;rw[k.loc o hd];exact h
 | v _ _=>exact h
 | nil=>exact h
 | ep _ _ _=>exact h
 | any=>exact h
theorem cK.but{x:A}(h:cK c ow w ok v x)(hd:x.names d=false)(k:c.but c' d):cK c' ow w ok v x:=by
 cases x with
 | one t=>exact aM.but h hd k
 | agg ts=>
  obtain⟨vs,hv,ha⟩:=h;simp only[A.names,bXg]at hd;exact⟨vs,hv,ha.mono λa b hb hr=>hr.but (by simpa using hd b hb) k⟩
theorem gQ.but{x:S}(h:gQ c ow w ok v x)(hd:x.names d=false)(k:c.but c' d):gQ c' ow w ok v x:=by
 cases x with
 | val x=>exact cK.but h hd k
 | tup xs=>
  obtain⟨vs,hv,ha⟩:=h;simp only[S.names,bXg]at hd;exact⟨vs,hv,ha.mono λa b hb hr=>hr.but (by simpa using hd b hb) k⟩
 | un=>exact h
end
def tyLen:Ty->Nat
 | .pair a b=>tyLen a+tyLen b
 | _=>1
theorem cE:∀(t:Ty) (x:den t),(cells t x).length=tyLen t
 | .int _,_=>rfl
 | .bool,_=>rfl
 | .str,_=>rfl
 | .sl _,_=>rfl
 | .pair a b,x=>by simp[cells,tyLen,cE a,cE b]
theorem yL:∀(t:Ty) (x:den t),(split t x).length=tyLen t
 | .int _,_=>rfl
 | .bool,_=>rfl
 | .str,_=>rfl
 | .sl _,_=>rfl
 | .pair a b,x=>by simp[split,tyLen,yL a,yL b]
def O.blk(c:Cx)(ow:Nat->Option Nat)(o:Nat):O->Nat->Prop
 | .box _,b=>c.loc o=b
 | .row _ _ _ _ _,b=>(c.rv o).ownBlock=some b
 | .win _ _ _,b=>ow b=some o
def live(c:Cx)(ow:Nat->Option Nat)(ob:List (Nat×Nat×O))(b:Nat):Prop:= ∃o n x,(o,n,x)∈ob/\x.blk c ow o b
def okB(src:Nat->Prop)(c:Cx)(ow:Nat->Option Nat)(ob:List (Nat×Nat×O))(b:Nat):Prop:=src b/\ ¬ live c ow ob b
def Unf(w:World)(b:Nat):Prop:= ∃cs e,w.heap[b]? =some (.cells cs e (0,0))
def zA(M:Nat->Prop)(c:Cx)(ow:Nat->Option Nat)(w:World)(ok:Nat->Prop)(o:Nat)(cs:List C):Prop:=
 M (c.loc o)/\ow (c.loc o)=some o/\ ∃(vs:List Value) (ty:TypeId),w.heap[c.loc o]? =some (.cells vs.toArray ty (0,0))/\aQ (aM c ow w ok) vs cs
def aCm(M:Nat->Prop)(c:Cx)(ow:Nat->Option Nat)(w:World)(ok:Nat->Prop)(r e k:Nat)(t:Ty)(l:List (den t))(deep:Bool):Prop:=
 0<k/\tyLen t=k/\(∀g,(c.rv r).ownBlock=some g->M g/\ow g=some r)/\
 ∃(xs:List Value) (G:List Nat),w.ownsRow 0 e k (c.rv r) l.length xs/\RepL w xs (l.map (cells t)).flatten G/\(∀b∈G,ok b)/\
  (deep=true->G.Nodup/\ ∀b∈G,M b/\ow b=some r/\(c.rv r).ownBlock≠some b/\Unf w b)
def aCf(M:Nat->Prop)(c:Cx)(ow:Nat->Option Nat)(w:World)(r k:Nat)(t:Ty)(l:List (den t)):Prop:=
 0<k/\tyLen t=k/\ ∃G,Rep w (c.rv r) (dW (.sl t) l) G/\G.Nodup/\ ∀b∈G,M b/\ow b=some r/\Unf w b
def qN(M:Nat->Prop)(c:Cx)(ow:Nat->Option Nat)(w:World)(ok:Nat->Prop)(o:Nat):O->Prop
 | .box cs=>zA M c ow w ok o cs
 | .row e k t l deep=>aCm M c ow w ok o e k t l deep
 | .win k t l=>aCf M c ow w o k t l
structure aK (M src:Nat->Prop) (c:Cx) (ow:Nat->Option Nat) (f:F) (a:Act) (w:World):Prop where
 defers:a.defers=[]
 fr:∀s n x,(s,n,x)∈f.fr-> ∃v,a.tmps[s]? =some v/\gQ c ow w (okB src c ow f.ob) v x
 ob:∀o n x,(o,n,x)∈f.ob->qN M c ow w (okB src c ow f.ob) o x
 uniq:∀o n x m y,(o,n,x)∈f.ob->(o,m,y)∈f.ob->x=y
 rvs:∀r,∃ad n k,c.rv r= .slice ad n k
theorem Unf.keep{w w':World}{b:Nat}(h:Unf w b)(hk:w'.heap[b]? =w.heap[b]?):Unf w' b:=by
 obtain⟨cs,e,h⟩:=h;exact⟨cs,e,hk.trans h⟩
theorem Unf.lt{w:World}{b:Nat}(h:Unf w b):b<w.heap.size:=by
 obtain⟨cs,e,h⟩:=h;exact (bYl.1 h).1
theorem aDk{w w':World}{B e k:Nat}{v:Value}{n:Nat}{xs:List Value}(h:w.ownsRow B e k v n xs)(hk:∀g,v.ownBlock=some g->w'.heap[g]? =w.heap[g]?):w'.ownsRow B e k v n xs:=by
 obtain⟨h1,h2⟩:=h;refine⟨h1,?_⟩;rcases h2 with h2 | ⟨g,cap,cur,hv,hB,hh,hr⟩
 .exact .inl h2
 .exact .inr ⟨g,cap,cur,hv,hB,by rw[hk g (by simp[hv,Value.ownBlock])];exact hh,hr⟩
theorem xE{w:World}{B e k:Nat}{v:Value}{n:Nat}{xs:List Value}(h:w.ownsRow B e k v n xs){g:Nat}(hg:v.ownBlock=some g):g<w.heap.size/\B<=g:=by
 obtain⟨_,h2⟩:=h;rcases h2 with ⟨h2,_⟩ | ⟨g',cap,cur,hv,hB,hh,hr⟩
 .simp[h2,Value.ownBlock]at hg
 .simp[hv,Value.ownBlock]at hg;subst hg;exact⟨(bYl.1 hh).1,hB⟩
section
variable {M src:Nat->Prop} {c:Cx} {ow ow':Nat->Option Nat} {w w':World} {ok ok':Nat->Prop}
theorem zA.lt{o:Nat}{cs:List C}(h:zA M c ow w ok o cs):c.loc o<w.heap.size:=by
 obtain⟨_,_,vs,ty,hh,_⟩:=h;exact (bYl.1 hh).1
theorem qN.own{o:Nat}{x:O}(h:qN M c ow w ok o x){b:Nat}(hb:x.blk c ow o b):ow b=some o:=by
 cases x with
 | box cs=>have hb:c.loc o=b:=hb;subst hb;exact h.2.1
 | row e k t l deep=>obtain⟨r0,r1,r2,_⟩:=h;exact (r2 b hb).2
 | win k t l=>exact hb
theorem qN.keep{o:Nat}{x:O}(h:qN M c ow w ok o x)(hs:x.isSub=false)(kp:aA2 w w' ok ok')(hb:∀b,b<w.heap.size->ow b=some o->x.blk c ow o b->w'.heap[b]? =w.heap[b]?)
  (ho:∀b,b<w.heap.size->ow b=some o->ow' b=some o):qN M c ow' w' ok' o x:=by
 cases x with
 | box cs=>
  have hlt:=zA.lt h;obtain⟨h1,h2,vs,ty,hh,ha⟩:=h;simp only[O.isSub,bXg]at hs;exact⟨h1,ho _ hlt h2,vs,ty,by rw[hb _ hlt h2 rfl];exact hh,ha.mono λa b hb hr=>hr.keep (by simpa using hs b hb) kp⟩
 | row e k t l deep=>
  obtain⟨h0,h1,h2,xs,G,h3,h4,h5,h6⟩:=h;refine⟨h0,h1,λg hg=> ?_,xs,G,aDk h3 λg hg=>hb g (xE h3 hg).1 (h2 g hg).2 hg,h4.frame λb hb=>kp.block b (h4.lt b hb) (h5 b hb),λb hb=>kp.good b (h4.lt b hb) (h5 b hb),λhd=> ?_⟩
  .exact⟨(h2 g hg).1,ho g (xE h3 hg).1 (h2 g hg).2⟩
  .obtain⟨h7,h8⟩:=h6 hd;refine⟨h7,λb hb=> ?_⟩;obtain⟨h9,h10,h11,h12⟩:=h8 b hb;exact⟨h9,ho b (h4.lt b hb) h10,h11,h12.keep (kp.block b (h4.lt b hb) (h5 b hb))⟩
 | win k t l=>
  obtain⟨h0,h1,G,h2,h3,h4⟩:=h;have hblk:∀b∈G,w'.heap[b]? =w.heap[b]? :=λb hbG=>hb b (h2.lt b hbG) (h4 b hbG).2.1 (h4 b hbG).2.1
  exact⟨h0,h1,G,h2.frame hblk,h3,λb hbG=>⟨(h4 b hbG).1,ho b (h2.lt b hbG) (h4 b hbG).2.1,(h4 b hbG).2.2.keep (hblk b hbG)⟩⟩
end
section
variable {c:Cx} {ow:Nat->Option Nat} {w:World} {ok:Nat->Prop}
theorem aHt(hrv:∀r,∃ad n k,c.rv r= .slice ad n k){t:C}{v:Value}(h:aM c ow w ok v t)(hs:t.solid=true):v.oneCell'=true/\v.cells= #[v]:=by
 cases t with
 | v t x=>
  obtain⟨G,hr,_⟩:=h;generalize dW t x=d at hr;cases hr with
  | lit hp=>cases v<;>simp[plain]at hp<;>exact⟨rfl,rfl⟩
  | nil _=>exact⟨rfl,rfl⟩
  | cons _ _ _ _ _ _ _ _ _=>exact⟨rfl,rfl⟩
 | nil=>have h:v= .slice none 0 0:=h;subst h;exact⟨rfl,rfl⟩
 | row r=>have h:v=c.rv r:=h;obtain⟨ad,n,k,he⟩:=hrv r;rw[he]at h;subst h;exact⟨rfl,rfl⟩
 | ptr o off=>have h:v=_:=h;subst h;exact⟨rfl,rfl⟩
 | ep _ _ _=>obtain⟨b,base,rfl,_⟩:=h;exact⟨rfl,rfl⟩
 | rp _ _ _ _=>obtain⟨g,b0,n,cap,_,rfl⟩:=h;exact⟨rfl,rfl⟩
 | sub _ _ _ _ t x=>
  obtain⟨_,_,_,_,_,_,G,hr,_⟩:=h;generalize dW (.sl t) x=d at hr;cases hr with
  | lit hp=>cases v<;>simp[plain]at hp<;>exact⟨rfl,rfl⟩
  | nil _=>exact⟨rfl,rfl⟩
  | cons _ _ _ _ _ _ _ _ _=>exact⟨rfl,rfl⟩
 | ip _ _ _ _ _ _ _=>obtain⟨_,_,_,_,_,_,_,_,_,_,rfl⟩:=h;exact⟨rfl,rfl⟩
 | clo _ _=>cases hs
 | any=>exact⟨h,by have h:v.oneCell'=true:=h;cases v<;>first | rfl | (cases h)⟩
theorem aF8(hrv:∀r,∃ad n k,c.rv r= .slice ad n k){t:C}{v:Value}(h:aM c ow w ok v t):v.oneCell'=true:=by
 cases t with
 | clo g o=>have h:v=_:=h;subst h;rfl
 | _=>exact (aHt hrv h rfl).1
end
end Go.V
set_option linter.unusedVariables false
namespace Go.V
open Go.Ab Go.RowKit
structure Ext (f g:F):Prop where
 ctr:f.ctr<=g.ctr
 fr:∀s n x,(s,n,x)∈g.fr->n<f.ctr->(s,n,x)∈f.fr
 ob:∀o n x,(o,n,x)∈g.ob->n<f.ctr->(o,n,x)∈f.ob
theorem Ext.refl(f:F):Ext f f:=⟨bWx _,λ_ _ _ h _=>h,λ_ _ _ h _=>h⟩
theorem Ext.trans{f g h:F}(a:Ext f g)(b:Ext g h):Ext f h:=
 ⟨bWk a.ctr b.ctr,λs n x hm hn=>a.fr s n x (b.fr s n x hm (bZt hn a.ctr)) hn,λs n x hm hn=>a.ob s n x (b.ob s n x hm (bZt hn a.ctr)) hn⟩
theorem Ext.put(f:F)(d:Option Nat)(x:S):Ext f (f.put d x):=by
 cases d with
 | none=>exact .refl _
 | some d=>
  refine⟨bXi _,λs n y hm hn=> ?_,λ_ _ _ h _=>h⟩;simp only[F.put,bWm,bWy]at hm;rcases hm with hm | hm
  .injection hm with _ hm;injection hm with e _;omega
  .exact hm.1
section
variable {M src:Nat->Prop} {c:Cx} {ow:Nat->Option Nat} {f g:F} {a:Act} {w:World}
theorem aK.put(h:aK M src c ow f a w){d:Nat}{x:S}{v:Value}(hd:d<a.tmps.size)(hx:gQ c ow w (okB src c ow f.ob) v x):aK M src c ow (f.put (some d) x) (a.put (some d) v) w:=by
 refine⟨h.defers,?_,h.ob,h.uniq,h.rvs⟩;intro s n y hm;simp only[F.put,bWm,bWy]at hm;rcases hm with hm | ⟨hm,hne⟩
 .injection hm with e1 hm;injection hm with e2 e3;subst e1 e2 e3;exact⟨v,by simp[Act.put,hd],hx⟩
 .obtain⟨u,hu,h1⟩:=h.fr s n y hm;have hne':s≠d:=by simpa using hne
  exact⟨u,by simp only[Act.put];rw[Array.getElem?_setIfInBounds_ne (Ne.symm hne')];exact hu,h1⟩
def C.le(c' c:C):Prop:=c'=c\/c'= .any
inductive O.le:O->O->Prop
 | box {cs' cs:List C} (h:aQ C.le cs' cs):O.le (.box cs') (.box cs)
 | row {e k:Nat} {t:Ty} {l:List (den t)} {deep' deep:Bool} (h:deep'=true->deep=true):O.le (.row e k t l deep') (.row e k t l deep)
 | win {k:Nat} {t:Ty} {l:List (den t)}:O.le (.win k t l) (.win k t l)
theorem O.le_refl(x:O):x.le x:=by
 cases x with
 | box cs=>
  refine .box ?_
  induction cs with
  | nil=>exact .nil
  | cons t ts ih=>exact .cons (.inl rfl) ih
 | row e k t l deep=>exact .row id
 | win k t l=>exact .win
theorem O.le.blk{x y:O}(h:x.le y){o b:Nat}(hb:x.blk c ow o b):y.blk c ow o b:=by
 cases h with
 | box _=>exact hb
 | row _=>exact hb
 | win=>exact hb
theorem aK.weak(h:aK M src c ow f a w)(hf:∀s n x,(s,n,x)∈g.fr-> ∃m,(s,m,x)∈f.fr)(ho:∀o n x,(o,n,x)∈g.ob-> ∃m y,(o,m,y)∈f.ob/\x.le y)
  (hu:∀o n x m y,(o,n,x)∈g.ob->(o,m,y)∈g.ob->x=y):aK M src c ow g a w:=by
 have hlive:∀b,live c ow g.ob b->live c ow f.ob b:=by
  rintro b ⟨o,n,y,hm,hy⟩
  obtain⟨m,x,hx,hle⟩:=ho o n y hm;exact⟨o,m,x,hx,hle.blk hy⟩
 have kg:∀b,b<w.heap.size->okB src c ow f.ob b->okB src c ow g.ob b:=λb _ hb=>⟨hb.1,λhl=>hb.2 (hlive b hl)⟩
 refine⟨h.defers,λs n x hm=> ?_,λo n y hm=> ?_,hu,h.rvs⟩
 .obtain⟨m,hm'⟩:=hf s n x hm;obtain⟨v,hv,h1⟩:=h.fr s m x hm';exact⟨v,hv,h1.good kg⟩
 .obtain⟨m,x,hx,hle⟩:=ho o n y hm;have hok:=h.ob o m x hx;cases hle with
  | box hall=>
   obtain⟨b1,b2,vs,ty,b3,b4⟩:=hok;exact⟨b1,b2,vs,ty,b3,b4.comp hall λu t t' hr ht=>by
    rcases ht with rfl | rfl
    .exact aM.good hr kg
    .exact aF8 h.rvs hr⟩
  | row hd=>
   obtain⟨r0,r1,r2,xs,G,r3,r4,r5,r6⟩:=hok;exact⟨r0,r1,r2,xs,G,r3,r4,λb hb=>kg b (r4.lt b hb) (r5 b hb),λhd'=>r6 (hd hd')⟩
  | win=>exact hok
theorem aTf(d:Nat)(cs:List C):aQ C.le (cs.map (pS d)) cs:=by
 induction cs with
 | nil=>exact .nil
 | cons t ts ih=>exact .cons (by unfold pS;split<;>simp[C.le]) ih
theorem O.scrub_le(d:Nat)(x:O):(x.scrub d).le x:=by
 cases x with
 | box cs=>exact .box (aTf d cs)
 | row e k t l deep=>exact .row id
 | win k t l=>exact .win
theorem bHy{d:Nat}{o n:Nat}{x:O}(h:(o,n,x)∈(f.scrub d).ob):o≠d/\ ∃m y,(o,m,y)∈f.ob/\(x=y.scrub d\/(x=y/\y.names d=false/\n=m)):=by
 simp only[F.scrub,bWr,bWy]at h;obtain⟨⟨o',m,y⟩,⟨hm,hne⟩,he⟩:=h;have hne':o'≠d:=by simpa using hne
 cases hn:y.names d with
 | true=>
  simp only[hn,zV]at he;injection he with e1 e2;injection e2 with e2 e3;subst e1 e3;exact⟨hne',m,y,hm,.inl rfl⟩
 | false=>
  simp only[hn]at he;injection he with e1 e2;injection e2 with e2 e3;subst e1 e2 e3;exact⟨hne',m,y,hm,.inr ⟨rfl,hn,rfl⟩⟩
theorem O.scrub_self{x:O}{d:Nat}(h:x.names d=false):x.scrub d=x:=by
 cases x with
 | box cs=>
  simp only[O.names,bXg]at h;simp only[O.scrub];congr 1
  induction cs with
  | nil=>rfl
  | cons c cs ih=>
   rw[bW2,ih λx hx=>h x (bWo _ hx)];simp[pS,h c (bWt ..)]
 | row _ _ _ _ _=>rfl
 | win _ _ _=>rfl
theorem dV{d:Nat}{o n:Nat}{x:O}(h:(o,n,x)∈(f.scrub d).ob):o≠d/\ ∃m y,(o,m,y)∈f.ob/\x=y.scrub d:=by
 obtain⟨h1,m,y,h2,h3⟩:=bHy h;refine⟨h1,m,y,h2,?_⟩;rcases h3 with rfl | ⟨rfl,hn,_⟩
 .rfl
 .rw[O.scrub_self hn]
theorem O.scrub_names(x:O)(d:Nat):(x.scrub d).names d=false:=by
 cases x with
 | box cs=>
  simp only[O.scrub,O.names,bXg,bWr]
  rintro t ⟨u,_,rfl⟩
  unfold pS;split
  .simp[C.names]
  .assumption
 | row _ _ _ _ _=>rfl
 | win _ _ _=>rfl
theorem aK.scrub(h:aK M src c ow f a w)(d:Nat):aK M src c ow (f.scrub d) a w:=by
 refine h.weak (λs n x hm=>⟨n,(bWy.1 hm).1⟩) (λo n x hm=> ?_) (λo n x m y hx hy=> ?_)
 .obtain⟨_,m,y,hy,rfl⟩:=dV hm;exact⟨m,y,hy,O.scrub_le d y⟩
 .obtain⟨_,_,x',hx',rfl⟩:=dV hx;obtain⟨_,_,y',hy',rfl⟩:=dV hy;rw[h.uniq _ _ _ _ _ hx' hy']
theorem Ext.scrub(f:F)(d:Nat):Ext f (f.scrub d):=by
 refine⟨bXi _,λs n x hm _=>(bWy.1 hm).1,λo n x hm hn=> ?_⟩;simp only[F.scrub,bWr,bWy]at hm;obtain⟨⟨o',m,y⟩,⟨hm,_⟩,he⟩:=hm;split at he
 .injection he with _ he;injection he with e _;omega
 .rw[<- he];exact hm
def F.free(f:F)(d:Nat):Prop:=(∀s n x,(s,n,x)∈f.fr->x.names d=false)/\ ∀o n x,(o,n,x)∈f.ob->o≠d/\x.names d=false
theorem bBc(f:F)(d:Nat):(f.scrub d).free d:=by
 refine⟨λs n x h=> ?_,λo n x h=> ?_⟩
 .have :=(bWy.1 h).2;simpa using this
 .obtain⟨h1,m,y,_,rfl⟩:=dV h;exact⟨h1,O.scrub_names y d⟩
theorem aK.recx{c':Cx}{d:Nat}(h:aK M src c ow f a w)(hf:f.free d)(k:c.but c' d)(hrv:∀r,∃ad n k,c'.rv r= .slice ad n k):aK M src c' ow f a w:=by
 have hblk:∀o n x,(o,n,x)∈f.ob-> ∀b,x.blk c' ow o b↔x.blk c ow o b:=by
  intro o n x hm b;have hne:=(hf.2 o n x hm).1;cases x with
  | box cs=>simp[O.blk,k.loc o hne]
  | row e kk t l deep=>simp[O.blk,k.rv o hne]
  | win _ _ _=>exact Iff.rfl
 have hok:okB src c' ow f.ob=okB src c ow f.ob:=by
  funext b;apply propext;constructor
  .rintro⟨h1,h2⟩
   exact⟨h1,λ⟨o,n,x,hm,hx⟩=>h2 ⟨o,n,x,hm,(hblk o n x hm b).2 hx⟩⟩
  .rintro⟨h1,h2⟩
   exact⟨h1,λ⟨o,n,x,hm,hx⟩=>h2 ⟨o,n,x,hm,(hblk o n x hm b).1 hx⟩⟩
 refine⟨h.defers,λs n x hm=> ?_,λo n x hm=> ?_,h.uniq,hrv⟩
 .obtain⟨v,hv,h1⟩:=h.fr s n x hm;exact⟨v,hv,by rw[hok];exact h1.but (hf.1 s n x hm) k⟩
 .rw[hok];have ho:=h.ob o n x hm;obtain⟨hne,hn⟩:=hf.2 o n x hm;cases x with
  | box cs=>
   obtain⟨b1,b2,vs,ty,b3,b4⟩:=ho;simp only[O.names,bXg]at hn;exact⟨by rw[k.loc o hne];exact b1,by rw[k.loc o hne];exact b2,vs,ty,by rw[k.loc o hne];exact b3,b4.mono λu t ht hr=>hr.but (by simpa using hn t ht) k⟩
  | row e kk t l deep=>
   obtain⟨r0,r1,r2,xs,G,r3,r4,r5,r6⟩:=ho;exact⟨r0,r1,by rw[k.rv o hne];exact r2,xs,G,by rw[k.rv o hne];exact r3,r4,r5,by rw[k.rv o hne];exact r6⟩
  | win kk t l=>
   obtain⟨r0,r1,G,r2,r3,r4⟩:=ho;exact⟨r0,r1,G,by rw[k.rv o hne];exact r2,r3,r4⟩
theorem aK.step(h:aK M src c ow f a w)(hsf:f.subFree){w':World}{ow':Nat->Option Nat}{ob':List (Nat×Nat×O)}{n':Nat}(hs:w.heap.size<=w'.heap.size)
  (hb:∀b,b<w.heap.size-> ¬ live c ow f.ob b->w'.heap[b]? =w.heap[b]?) (hl:∀b,b<w.heap.size->live c ow' ob' b->live c ow f.ob b)
  (hob:∀o n x,(o,n,x)∈ob'->((∃m,(o,m,x)∈f.ob)/\(∀b,b<w.heap.size->ow b=some o->x.blk c ow o b->w'.heap[b]? =w.heap[b]?)/\ ∀b,b<w.heap.size->ow b=some o->ow' b=some o)\/qN M c ow' w' (okB src c ow' ob') o x)
  (hu:∀o n x m y,(o,n,x)∈ob'->(o,m,y)∈ob'->x=y):aK M src c ow' ⟨n',f.fr,ob'⟩ a w':=by
 have kp:aA2 w w' (okB src c ow f.ob) (okB src c ow' ob'):=⟨hs,λb hlt hok=>hb b hlt hok.2,λb hlt hok=>⟨hok.1,λh'=>hok.2 (hl b hlt h')⟩⟩
 refine⟨h.defers,λs n x hm=> ?_,λo n x hm=> ?_,hu,h.rvs⟩
 .obtain⟨v,hv,h1⟩:=h.fr s n x hm;exact⟨v,hv,h1.keep (hsf.1 s n x hm) kp⟩
 .rcases hob o n x hm with ⟨⟨m,hm'⟩,hbl,how⟩ | hnew
  .exact (h.ob o m x hm').keep (hsf.2 o m x hm') kp hbl how
  .exact hnew
theorem aK.apart(h:aK M src c ow f a w){o o' n n':Nat}{x x':O}(hx:(o,n,x)∈f.ob)(hx':(o',n',x')∈f.ob){b:Nat}(hb:x.blk c ow o b)(hb':x'.blk c ow o' b):o=o':=by
 have h1:=(h.ob o n x hx).own hb;have h2:=(h.ob o' n' x' hx').own hb';rw[h1]at h2;injection h2
theorem aK.add(h:aK M src c ow f a w)(hsf:f.subFree){w':World}{ow':Nat->Option Nat}{d m n':Nat}{x:O}(hf:∀o n y,(o,n,y)∈f.ob->o≠d)(hs:w.heap.size<=w'.heap.size)(hb:∀b,b<w.heap.size->w'.heap[b]? =w.heap[b]?)
  (ho:∀b,b<w.heap.size->ow' b=ow b) (hm:∀b,x.blk c ow' d b->w.heap.size<=b) (hx:qN M c ow' w' (okB src c ow' ((d,m,x)::f.ob)) d x):
  aK M src c ow' ⟨n',f.fr,(d,m,x)::f.ob⟩ a w':=by
 refine h.step hsf hs (λb hlt _=>hb b hlt) (λb hlt hl=> ?_) (λo n y hy=> ?_) (λo n y n2 z hy hz=> ?_)
 .obtain⟨o,n,y,hy,hyb⟩:=hl;rcases bWm.1 hy with he | hy
  .injection he with e1 e2;injection e2 with e2 e3;subst e1 e3;have :=hm b hyb;omega
  .refine⟨o,n,y,hy,?_⟩;cases y with
   | box _=>exact hyb
   | row _ _ _ _ _=>exact hyb
   | win _ _ _=>show ow b=some o;rw[<- ho b hlt];exact hyb
 .rcases bWm.1 hy with he | hy
  .injection he with e1 e2;injection e2 with e2 e3;subst e1 e3;exact .inr hx
  .exact .inl ⟨⟨n,hy⟩,λb hlt _ _=>hb b hlt,λb hlt hw=>by rw[ho b hlt];exact hw⟩
 .rcases bWm.1 hy with he | hy1
  .injection he with e1 e2;injection e2 with _ e2;rcases bWm.1 hz with he' | hz1
   .injection he' with e3 e4;injection e4 with _ e4;rw[e2,e4]
   .exact absurd e1 (hf _ _ _ hz1)
  .rcases bWm.1 hz with he' | hz1
   .injection he' with e3 e4;exact absurd e3 (hf _ _ _ hy1)
   .exact h.uniq o n y n2 z hy1 hz1
theorem C.names_scrub(d:Nat)(c:C):(pS d c).names d=false:=by
 unfold pS;split
 .rfl
 .rename_i h;simpa using h
theorem C.isSub_scrub{d:Nat}{c:C}(h:c.isSub=false):(pS d c).isSub=false:=by
 unfold pS;split
 .rfl
 .exact h
theorem aTo(h:f.subFree)(d:Nat):(f.scrub d).subFree:=by
 refine⟨λs n x hm=>h.1 s n x (bWy.1 hm).1,λo n x hm=> ?_⟩;obtain⟨_,m,y,hy,rfl⟩:=dV hm;have :=h.2 o m y hy;cases y with
 | box cs=>
  simp only[O.isSub,O.scrub,bXg,bWr]at this ⊢
  rintro t ⟨u,hu,rfl⟩
  have :=C.isSub_scrub (d:=d) (by simpa using this u hu);simp[this]
 | row _ _ _ _ _=>rfl
 | win _ _ _=>rfl
end
structure lK (M:Nat->Prop) (w w':World):Prop where
 os:w'.os=w.os
 tape:w'.tape=w.tape
 output:w'.output=w.output
 size:w.heap.size<=w'.heap.size
 block:∀k,k<w.heap.size-> ¬ M k->w'.heap[k]? =w.heap[k]?
theorem lK.refl(M:Nat->Prop)(w:World):lK M w w:=⟨rfl,rfl,rfl,bWx _,λ_ _ _=>rfl⟩
theorem lK.trans{M:Nat->Prop}{a b c:World}(h:lK M a b)(k:lK M b c):lK M a c:=
 ⟨k.os.trans h.os,k.tape.trans h.tape,k.output.trans h.output,bWk h.size k.size,λi hi hm=>(k.block i (bZt hi h.size) hm).trans (h.block i hi hm)⟩
theorem lK.drew{M:Nat->Prop}{a w:World}(h:lK M a w):lK M a w.drew:=⟨h.os,h.tape,h.output,h.size,h.block⟩
structure Ctx where
 P:Program
 n:Nat
 w0:World
 M:Nat->Prop
 src:Nat->Prop
 c0:Cx
 hM:∀b,w0.heap.size<=b->M b
 hsrc:∀b,M b->src b
def aB2(X:Ctx)(c:Cx):Prop:= ∀o,pinned o=true->c.loc o=X.c0.loc o/\c.rv o=X.c0.rv o
def At(X:Ctx)(f:F)(a:Act)(w:World):Prop:=(∃c ow,aK X.M X.src c ow f a w/\aB2 X c)/\lK X.M X.w0 w/\a.tmps.size=X.n
def xJ(w w':World):Prop:= ∀b,b<w.heap.size->w'.heap[b]? =w.heap[b]?
theorem aB2.loc{X:Ctx}{c:Cx}(h:aB2 X c){d:Nat}(hd:pinned d=false)(b:Nat):aB2 X (c.setLoc d b):=λo ho=>by
 have hne:o≠d:=by rintro rfl;rw[hd]at ho;cases ho
 simp only[Cx.setLoc,zS hne];exact h o ho
theorem aB2.rv{X:Ctx}{c:Cx}(h:aB2 X c){d:Nat}(hd:pinned d=false)(v:Value):aB2 X (c.setRv d v):=λo ho=>by
 have hne:o≠d:=by rintro rfl;rw[hd]at ho;cases ho
 simp only[Cx.setRv,zS hne];exact h o ho
theorem wP(a:Act)(d:Option Nat)(v:Value):(a.put d v).tmps.size=a.tmps.size:=by cases d<;>simp[Act.put]
theorem vJ{n d:Nat}(h:jD n (some d)=true):d<n:=by simpa [jD] using h
theorem At.put{X:Ctx}{f:F}{a:Act}{w:World}(h:At X f a w){c:Cx}{ow:Nat->Option Nat}(hs:aK X.M X.src c ow f a w)(hp:aB2 X c){d:Option Nat}{x:S}{v:Value}(hd:jD X.n d=true)(hx:gQ c ow w (okB X.src c ow f.ob) v x):At X (f.put d x) (a.put d v) w:=by
 obtain⟨_,hb,hn⟩:=h;refine⟨⟨c,ow,?_,hp⟩,hb,(wP a d v).trans hn⟩;cases d with
 | none=>exact hs
 | some d=>exact hs.put (by rw[hn];exact vJ hd) hx
end Go.V
set_option linter.unusedVariables false
set_option linter.unusedSectionVars false
namespace Go.V
open Go.Ab Go.RowKit
section
variable {P:Program} {w:World} {a:Act} {o:Oper} {B:Nat}
theorem bEb(k:IntKind)(n:Int):plain (.int k (k.wrap n))=true:=by
 have h8:(2:Int) ^ 8=256:=by decide
 have h7:(2:Int) ^ 7=128:=by decide
 have h16:(2:Int) ^ 16=65536:=by decide
 have h15:(2:Int) ^ 15=32768:=by decide
 have h32:(2:Int) ^ 32=4294967296:=by decide
 have h31:(2:Int) ^ 31=2147483648:=by decide
 have h64:(2:Int) ^ 64=18446744073709551616:=by decide
 have h63:(2:Int) ^ 63=9223372036854775808:=by decide
 cases k<;>simp[plain,IntKind.wrap,IntKind.min,IntKind.max,IntKind.signed,IntKind.bits,h8,h7,h16,h15,h32,h31,h64,h63]<;>(try split)<;>omega
theorem bB3{k:IntKind}{a b:Int}(h:plain (.int k a)=true):plain (.int k (a.tmod b))=true:=by
 simp only[plain,bWj,zR]at h ⊢;have h0:k.min<=0:=by cases k<;>simp[IntKind.min,IntKind.signed,IntKind.bits]
 have h1:0<=k.max:=by cases k<;>simp[IntKind.max,IntKind.signed,IntKind.bits]
 have h2:(a.tmod b).natAbs=a.natAbs % b.natAbs:=Int.natAbs_tmod a b;have h3:a.natAbs % b.natAbs<=a.natAbs:=Nat.mod_le _ _;have h4:0<=a->0<=a.tmod b:=λh=>Int.tmod_nonneg b h
 have h5:a<=0->a.tmod b<=0:=λh=>by
  have :=Int.tmod_nonneg b (show 0<= -a by omega);rw[Int.neg_tmod]at this;omega
 omega
theorem aBi{n:Nat}(h:n<=maxLen):plain (.int .i64 (n:Int))=true:=by
 have h63:(2:Int) ^ 63=9223372036854775808:=by decide
 simp only[maxLen]at h;simp[plain,IntKind.min,IntKind.max,IntKind.signed,IntKind.bits,h63];omega
def bEy(P:Program)(a:Act)(w:World)(o:Oper)(v:Value):Prop:= ∀w':World,(aNl o.op=true-> ∀b,b<w.heap.size->w'.heap[b]? =w.heap[b]?)->(execOp a.eval o).run P w'= .ok (.value v) w'
theorem aA5(b o n:Nat):(⟨b,o,none⟩:Addr).add n=⟨b,o+n,none⟩:=by unfold Addr.add;split<;>simp_all
theorem aDa{P:Program}{t:TypeId}{fs:Array Field}(h:P.underlying t=some (.struct fs))(w:World):(isAgg t).run P w= .ok true w:=by simp[isAgg,run_underlying h]
theorem aEd{P:Program}{t:TypeId}{n:Nat}{e:TypeId}(h:P.underlying t=some (.array n e))(w:World):(isAgg t).run P w= .ok true w:=by simp[isAgg,run_underlying h]
theorem pW{P:Program}{t:TypeId}{d:TypeDesc}(h:P.underlying t=some d)(h1:∀fs,d≠ .struct fs)(h2:∀n e,d≠ .array n e)(w:World):(isAgg t).run P w= .ok false w:=by
 simp only[isAgg,Sem.run_bind,run_underlying h,Result.andThen_ok];cases d with
 | struct fs=>exact absurd rfl (h1 fs)
 | array n e=>exact absurd rfl (h2 n e)
 | _=>rfl
theorem jA{P:Program}{t:TypeId}{i:TypeInfo}(h:P.info? t=some i)(w:World):(sizeOf t).run P w= .ok i.size w:=by simp[sizeOf,typeInfo,h]
theorem aNg{P:Program}{t:TypeId}{i:TypeInfo}{w:World}{ad:Addr}{us:List Value}(ha:(isAgg t).run P w= .ok true w)(hi:P.info? t=some i)(hl:us.length=i.size)
  (hc:∀j v,us[j]? =some v->w.cell? (ad.add j)=some v):(loadVar t ad).run P w= .ok (.agg us.toArray) w:=by
 have h1:=run_loadCells_list (P:=P) w ad us hc;rw[hl]at h1;simp only[loadVar,Sem.run_bind,ha,Result.andThen_ok,zV,jA hi,h1];rfl
theorem aO9{P:Program}{t:TypeId}{w:World}{ad:Addr}{u:Value}(ha:(isAgg t).run P w= .ok false w)(hc:w.cell? ad=some u):(loadVar t ad).run P w= .ok u w:=by
 simp only[loadVar,Sem.run_bind,ha,Result.andThen_ok,bWz,zU];simp[load,Sem.run,hc]
theorem nX{P:Program}{s:Sem Value}{w:World}{v:Value}(h:s.run P w= .ok v w):(do pure (Next.value (<- s)):Sem Next).run P w= .ok (.value v) w:=by
 simp[h]
theorem aF3{w:World}{b:Nat}{vs:List Value}{ty:TypeId}{fz:Nat×Nat}(h:w.heap[b]? =some (.cells vs.toArray ty fz))(j:Nat)(u:Value)(hu:vs[j]? =some u):w.cell? ⟨b,0+j,none⟩=some u:=by
 simp[World.cell?,h,hu]
theorem yX{P:Program}{t:TypeId}{ad:Addr}{v:Value}{w:World}(h:(loadVar t ad).run P w= .ok v w):(Instr.loadAt t (.pointer (some ad))).run P w= .ok v w:=by
 simp[Instr.loadAt,Instr.sureAddr,h]
theorem aLk{op:BinOp}{t:TypeId}{x y:Operand}{u v:Value}(hu:plain u=true)(w:World):(eqGuard op t x y u v).run P w= .ok () w:=by
 cases op<;>cases u<;>first | (simp[plain]at hu;done) | (simp[eqGuard];done)
theorem aA3{t:TypeId}{fs:Array Field}{f:Nat}{fd:Field}{i:TypeInfo}(ht:P.underlying t=some (.struct fs))(hf:fs[f]? =some fd)(hi:P.info? fd.type=some i)(h0: ¬ i.size=0)(b off:Nat)(w:World):
  (Instr.fieldAt t (.pointer (some ⟨b,off,none⟩)) f).run P w= .ok (.pointer (some ⟨b,off+fd.offset,none⟩)) w:=by
 simp[Instr.fieldAt,run_underlying ht,hf,Instr.sureAddr,fieldPlace,jA hi,h0,aA5]
theorem uG{t e:TypeId}{i:TypeInfo}{kd:IntKind}{n:Int}{b off len cap:Nat}(ht:P.underlying t=some (.slice e))(hi:P.info? e=some i)(h0:0<=n)(h1:n<len)(w:World):
  (Instr.indexAt t (.slice (some ⟨b,off,none⟩) len cap) (.int kd n)).run P w= .ok (.pointer (some ⟨b,off+n.toNat * i.size,none⟩)) w:=by
 simp[Instr.indexAt,asIntOf,run_underlying ht,jA hi,h0,h1,aA5]
theorem _root_.Go.Ab.Rep.elem{v:Value}{es:List (List T)}{F:List Nat}(h:Rep w v (.sl es) F){i:Nat}{el:List T}(hi:es[i]? =some el):
  ∃b off n cap xs G,v= .slice (some ⟨b,off,none⟩) n cap/\i<n/\b<w.heap.size/\b∈F/\RepL w xs el G/\(∀j u,xs[j]? =some u->w.cell? ⟨b,off+i * el.length+j,none⟩=some u)/\ ∀x∈G,x∈F:=by
 cases h with
 | nil hc=>simp at hi
 | @cons b off n cap k es xs F hn h0 hk0 hk hc hm hx hcell hr=>
  have hin:i<es.length:=(bWn.1 hi).1;have hel:el.length=k:=hk el (List.mem_of_getElem? hi);rw[hel];obtain⟨G,H,g1,g2,g3⟩:=hr.take (i * k);obtain⟨G',H',g4,g5,g6⟩:=g2.take k;rw[lH hk hi]at g4;have hlt:b<w.heap.size:=by
   have hp:0<xs.length:=by rw[hx];exact Nat.mul_pos h0 hk0
   exact cell?_lt (hcell 0 xs[0] (bWl hp))
  refine⟨b,off,n,cap,_,G',rfl,by omega,hlt,bWt ..,g4,λj u hu=> ?_,λx hx'=>bWo _ (by rw[g3,g6];simp[hx'])⟩;have hj:xs[i * k+j]? =some u:=by
   rw[bXv]at hu;split at hu
   .rw[bYd]at hu;exact hu
   .cases hu
  have :=hcell (i * k+j) u hj;rw[bYe];exact this
theorem _root_.Go.Ab.Rep.len{v:Value}{es:List (List T)}{F:List Nat}(h:Rep w v (.sl es) F):∃ad cap,v= .slice ad es.length cap/\es.length<=maxLen:=by
 cases h with
 | nil hc=>exact⟨_,_,rfl,bW3 _⟩
 | cons hn h0 hk0 hk hc hm hx hcell hr=>subst hn;exact⟨_,_,rfl,bWk hc hm⟩
theorem aE2{e k n:Nat}{v:Value}{xs:List Value}(h:w.ownsRow B e k v n xs):∃ad cap,v= .slice ad n cap/\n<=maxLen:=by
 obtain⟨_,h2⟩:=h;rcases h2 with ⟨rfl,rfl⟩ | ⟨g,cap,cur,hv,_,_,h1,h2,_⟩
 .exact⟨_,_,rfl,bW3 _⟩
 .exact⟨_,_,hv,bWk h1 h2⟩
theorem aAb{t:TypeId}{x:Operand}{v:Value}(hop:o.op= .call {callee:= .builtin .len,args:= #[x],argTypes:= #[t]})(w':World)(h:∀ty,(Builtin.len_ #[t] ty #[a.eval x]).run P w'= .ok v w'):(execOp a.eval o).run P w'= .ok (.value v) w':=by
 simp[execOp,hop,resolve,invoke,builtin,h]
theorem _root_.Go.Ab.RepL.parts{xs:List Value}{ts:List T}{F:List Nat}(h:RepL w xs ts F)(p q:Nat):∃F1 F2 F3,RepL w (xs.take p) (ts.take p) F1/\RepL w ((xs.drop p).take q) ((ts.drop p).take q) F2/\RepL w (xs.drop (p+q)) (ts.drop (p+q)) F3/\F=F1++(F2++F3):=by
 obtain⟨F1,H,a1,a2,a3⟩:=h.take p;obtain⟨F2,F3,b1,b2,b3⟩:=a2.take q;exact⟨F1,F2,F3,a1,b1,by simpa [bY0] using b2,by rw[a3,b3]⟩
theorem _root_.Go.Ab.Rep.cut{v:Value}{es:List (List T)}{F:List Nat}(h:Rep w v (.sl es) F){k l n:Nat}(hk:∀z∈es,z.length=k)(hn:l+n<=es.length):
  ∃ad len cap,v= .slice ad len cap/\len=es.length/\len<=cap/\cap<=maxLen/\ ∃G,Rep w (.slice (if cap=l then ad else ad.map (·.add (l * k))) n (cap - l)) (.sl ((es.drop l).take n)) G/\ ∀b∈G,b∈F:=by
 cases h with
 | @nil ad cap hc=>
  refine⟨ad,0,cap,rfl,rfl,bW3 _,hc,[],?_,by simp⟩;have :n=0:=by simp at hn;omega
  subst this;simpa using Rep.nil (w:=w) (a:=if cap=l then ad else ad.map (·.add (l * k))) (c:=cap - l) (bWk (Nat.sub_le _ _) hc)
 | @cons b off len cap k' es xs F hl h0 hk0 hk' hc hm hx hcell hr=>
  refine⟨some ⟨b,off,none⟩,len,cap,rfl,hl.symm,hc,hm,?_⟩;have hkk:k'=k:=by
   obtain⟨x,hx'⟩:=bZ7 (l:=es) (by omega);rw[<- hk' x hx',hk x hx']
  subst hkk;rcases bZ0 n with h0' | h0'
  .subst h0';refine⟨[],?_,by simp⟩;simpa using Rep.nil (w:=w) (a:=if cap=l then some ⟨b,off,none⟩ else (some (⟨b,off,none⟩:Addr)).map (·.add (l * k'))) (c:=cap - l) (bWk (Nat.sub_le _ _) hm)
  .obtain⟨F1,F2,F3,a1,a2,a3,a4⟩:=hr.parts (l * k') (n * k');have hfl:((es.flatten.drop (l * k')).take (n * k'))=((es.drop l).take n).flatten:=by
    have hd:∀(es:List (List T)) (l:Nat),(∀z∈es,z.length=k')->es.flatten.drop (l * k')=(es.drop l).flatten:=by
     intro es
     induction es with
     | nil=>intro l _;simp
     | cons e es ih=>
      intro l hk;cases l with
      | zero=>simp
      | succ l=>
       have he:e.length=k':=hk e (bWt ..);rw[bYg,List.drop_succ_cons,<- ih l (λz hz=>hk z (bWo _ hz))];have :(l+1) * k'=e.length+l * k':=by rw[bXk,he];omega
       rw[this,List.drop_length_add_append]
    have ht:∀(es:List (List T)) (n:Nat),(∀z∈es,z.length=k')->es.flatten.take (n * k')=(es.take n).flatten:=by
     intro es
     induction es with
     | nil=>intro n _;simp
     | cons e es ih=>
      intro n hk;cases n with
      | zero=>simp
      | succ n=>
       have he:e.length=k':=hk e (bWt ..);rw[bYg,List.take_succ_cons,bYg,<- ih n (λz hz=>hk z (bWo _ hz))];have :(n+1) * k'=e.length+n * k':=by rw[bXk,he];omega
       rw[this,List.take_length_add_append]
    rw[hd es l hk',ht _ n (λz hz=>hk' z (bYa hz))]
   rw[hfl]at a2;have hcap: ¬ cap=l:=by omega
   rw[zS hcap];refine⟨b::F2,?_,λx hx'=> ?_⟩
   .simp only[bYv,aA5];refine .cons (by simp;omega) h0' hk0 (λz hz=>hk' z (bYa (bX8 hz))) (by omega) (bWk (Nat.sub_le _ _) hm) ?_ (λj u hu=> ?_) a2
    .rw[a2.length,mG (k:=k') (λz hz=>hk' z (bYa (bX8 hz)))];congr 1;simp;omega
    .have hj:xs[l * k'+j]? =some u:=by
      rw[bXv]at hu;split at hu
      .rw[bYd]at hu;exact hu
      .cases hu
     have :=hcell _ u hj;rw[bYe];exact this
   .rcases bWm.1 hx' with rfl | hx'
    .exact bWt ..
    .rw[a4];exact bWo _ (bXq _ (bXn _ hx'))
theorem aJd(off:Nat):∀(l:List Value) (m:Nat) (cells:Array Value),off+m+l.length<=cells.size->
  (l.zipIdx m).foldl (λcs (x:Value×Nat)=>cs.setIfInBounds (off+x.2) x.1) cells=(cells.toList.take (off+m)++l++cells.toList.drop (off+m+l.length)).toArray
 | [],m,cells,_=>by simp
 | v::l,m,cells,h=>by
  have hl:off+m<cells.size:=by simp at h;omega
  rw[List.zipIdx_cons,bY1,aJd off l (m+1) _ (by simp at h|-;omega)];congr 1;have h1:(cells.setIfInBounds (off+m) v).toList=cells.toList.set (off+m) v:=by simp
  rw[h1];have h2:(cells.toList.set (off+m) v).take (off+(m+1))=cells.toList.take (off+m)++[v]:=by
   rw[<- bYe,List.take_succ_eq_append_getElem (by simpa using hl),List.take_set_of_le (bWx _)];simp
  have h3:(cells.toList.set (off+m) v).drop (off+(m+1)+l.length)=cells.toList.drop (off+m+(v::l).length):=by
   rw[List.drop_set_of_lt (by omega)];congr 1;simp;omega
  rw[h2,h3];simp
theorem bB4:∀{fs:List Field} {ps:List (Nat×Nat)},aDw P fs=some ps-> ∀w':World,(fs.mapM λf=>(do pure (f.offset,<- sizeOf f.type):Sem (Nat×Nat))).run P w'= .ok ps w':=by
 intro fs
 induction fs with
 | nil=>intro ps h w';injection h with h;subst h;rfl
 | cons f fs ih=>
  intro ps h w';unfold aDw at h;split at h
  .rename_i i ps' h1 h2;injection h with h;subst h;have hh:=ih h2 w';simp only[List.mapM_cons,Sem.run_bind,jA h1,Result.andThen_ok,Sem.run_pure];rw[hh];rfl
  .cases h
theorem bMl{place:Nat->Option (Nat×Nat)}{cells:List Value}{i off size:Nat}{v:Value}{rest:List (Nat×Value)}(hp:place i=some (off,size))(hs:v.cells.size=size)(hl:off+size<=cells.length):
  Instr.fill place cells.toArray ((i,v)::rest)=Instr.fill place (sp cells off v.cells.toList).toArray rest:=by
 rw[Instr.fill];simp only[hp,hs,ne_eq,not_true_eq_false,decide_false,Bool.false_or,gt_iff_lt,zR];rw[zS (by simpa using hl)];congr 1;have :=aJd off v.cells.toList 0 cells.toArray (by simp[hs];omega);rw[<- Array.foldl_toList,Array.toList_zipIdx];unfold sp;have h2:v.cells.toList.length=size:=by simpa using hs
 simpa [h2,hs] using this
theorem bCz(b:UInt8):plain (.int .u8 (b.toNat:Int))=true:=by
 have :=b.toNat_lt;simp[plain,IntKind.min,IntKind.max,IntKind.signed,IntKind.bits];omega
theorem bEn(l:List UInt8):∀s:ByteArray,(l.map λb=>(b.toNat:Int)).foldl (λ(r:ByteArray) (n:Int)=>r.push (UInt8.ofNat n.toNat)) s=⟨s.data++l.toArray⟩:=by
 induction l with
 | nil=>intro s;simp
 | cons b l ih=>
  intro s;rw[bW2,bY1,ih];simp[ByteArray.push]
def xM(l:List UInt8):List (List T):=l.map λb=>[.lit (.int .u8 (b.toNat:Int))]
theorem bCp{l:List UInt8}:∀{xs:List Value} {F:List Nat},RepL w xs (xM l).flatten F->xs=l.map λb=>Value.int .u8 (b.toNat:Int):=by
 induction l with
 | nil=>
  intro xs F h;have :xs.length=0:=by simpa [xM] using h.length
  exact bYx.1 this
 | cons b l ih=>
  intro xs F h;have he:(xM (b::l)).flatten= .lit (.int .u8 (b.toNat:Int))::(xM l).flatten:=rfl;rw[he]at h;cases h with
  | cons h1 h2=>
   cases h1;rw[ih h2];rfl
end
end Go.V
set_option linter.unusedVariables false
set_option linter.unusedSectionVars false
namespace Go.V
open Go.Ab Go.RowKit
section
variable {M src:Nat->Prop} {c:Cx} {ow:Nat->Option Nat} {f:F} {a:Act} {w:World} {P:Program} {o:Oper} {ok:Nat->Prop} {R:Type}
theorem jI{k:IntKind}{x:Int}{v:Value}(h:aM c ow w ok v (.v (.int k) x)):v= .int k x/\plain (.int k x)=true:=by
 obtain⟨G,hr,_⟩:=h;cases hr with
 | lit hp=>exact⟨rfl,hp⟩
theorem tA{x:Bool}{v:Value}(h:aM c ow w ok v (.v .bool x)):v= .bool x:=by
 obtain⟨G,hr,_⟩:=h;cases hr with
 | lit hp=>rfl
theorem xW{x:ByteArray}{v:Value}(h:aM c ow w ok v (.v .str x)):v= .string x/\x.size<=maxLen:=by
 obtain⟨G,hr,_⟩:=h;cases hr with
 | lit hp=>exact⟨rfl,by simpa [plain] using hp⟩
theorem pX{k:IntKind}{x:Int}(h:plain (.int k x)=true):aM c ow w ok (.int k x) (.v (.int k) x):=⟨[],.lit h,by simp⟩
theorem rG(k:IntKind)(x:Int):aM c ow w ok (.int k (k.wrap x)) (.v (.int k) (k.wrap x)):=pX (bEb k x)
theorem uA(x:Bool):aM c ow w ok (.bool x) (.v .bool x):=⟨[],.lit rfl,by simp⟩
theorem aCq{x:ByteArray}(h:x.size<=maxLen):aM c ow w ok (.string x) (.v .str x):=⟨[],.lit (by simpa [plain] using h),by simp⟩
theorem aEs:∀(t:Ty) (x:den t) {xs:List Value} {G:List Nat},RepL w xs (cells t x) G->(∀b∈G,ok b)->aQ (aM c ow w ok) xs (split t x)
 | .int k,x,xs,G,h,hG=>by
  simp only[cells]at h;cases h with
  | cons h hs=>cases hs;exact .cons ⟨_,h,λb hb=>hG b (by simpa using hb)⟩ .nil
 | .bool,x,xs,G,h,hG=>by
  simp only[cells]at h;cases h with
  | cons h hs=>cases hs;exact .cons ⟨_,h,λb hb=>hG b (by simpa using hb)⟩ .nil
 | .str,x,xs,G,h,hG=>by
  simp only[cells]at h;cases h with
  | cons h hs=>cases hs;exact .cons ⟨_,h,λb hb=>hG b (by simpa using hb)⟩ .nil
 | .sl t,x,xs,G,h,hG=>by
  simp only[cells]at h;cases h with
  | cons h hs=>cases hs;exact .cons ⟨_,h,λb hb=>hG b (by simpa using hb)⟩ .nil
 | .pair a b,x,xs,G,h,hG=>by
  simp only[cells]at h;obtain⟨G1,G2,h1,h2,rfl⟩:=h.take (cells a x.1).length;rw[bZf]at h1;rw[List.drop_left]at h2;have :=(aEs a x.1 h1 λb hb=>hG b (bXn _ hb)).append (aEs b x.2 h2 λb hb=>hG b (bXq _ hb))
  rwa [bX0]at this
theorem aLl(r k i:Nat):∀(xs ys:List C) (off:Nat),aBs r k i off (xs++ys)=aBs r k i off xs++aBs r k i (off+xs.length) ys
 | [],ys,off=>by simp[aBs]
 | x::xs,ys,off=>by
  have :=aLl r k i xs ys (off+1);cases x with
  | v t y=>
   cases t with
   | sl t=>simp only[bZg,aBs,this,bXp];congr 2;congr 1;omega
   | _=>simp only[bZg,aBs,this,bXp];congr 2;congr 1;omega
  | _=>simp only[bZg,aBs,this,bXp];congr 2;congr 1;omega
theorem aGn{r k i g b0 n cap:Nat}(hrv:c.rv r= .slice (some ⟨g,b0,none⟩) n cap):∀(t:Ty) (x:den t) {xs:List Value} {G:List Nat} (off:Nat),RepL w xs (cells t x) G->(∀b∈G,ow b=some r)->
  (∀j u,xs[j]? =some u->w.cell? ⟨g,b0+(i * k+(off+j)),none⟩=some u)->aQ (aM c ow w ok) xs (aBs r k i off (split t x))
 | .int k,x,xs,G,off,h,hG,hc=>by
  simp only[cells]at h;cases h with
  | cons h hs=>cases hs;cases h with | lit hp=>exact .cons (pX hp) .nil
 | .bool,x,xs,G,off,h,hG,hc=>by
  simp only[cells]at h;cases h with
  | cons h hs=>cases hs;cases h with | lit hp=>exact .cons (uA _) .nil
 | .str,x,xs,G,off,h,hG,hc=>by
  simp only[cells]at h;cases h with
  | cons h hs=>cases hs;cases h with | lit hp=>exact .cons (aCq (by simpa [plain] using hp)) .nil
 | .sl t,x,xs,G,off,h,hG,hc=>by
  simp only[cells]at h;cases h with
  | cons h hs=>
   cases hs;exact .cons ⟨g,b0,n,cap,hrv,by simpa using hc 0 _ rfl,_,h,λb hb=>hG b (by simpa using hb)⟩ .nil
 | .pair a b,x,xs,G,off,h,hG,hc=>by
  simp only[cells]at h;obtain⟨G1,G2,h1,h2,rfl⟩:=h.take (cells a x.1).length;rw[bZf]at h1;rw[List.drop_left]at h2;have e1:=aGn hrv a x.1 off h1 (λb hb=>hG b (bXn _ hb)) (λj u hu=>hc j u (by
   rw[bXv]at hu;split at hu
   .exact hu
   .cases hu))
  have e2:=aGn hrv b x.2 (off+(cells a x.1).length) h2 (λb hb=>hG b (bXq _ hb)) (λj u hu=>by
   rw[bYd]at hu;have :=hc _ u hu;rw[bYe off];exact this)
  have :=e1.append e2;rw[bX0]at this;rw[split,aLl,yL,<- cE a x.1];exact this
theorem bBe{v:Value}{x:S}(h:aPh v=some x):gQ c ow w ok v x:=by
 unfold aPh at h;split at h
 .split at h
  .rename_i hp;injection h with h;subst h;exact pX (c:=c) (ow:=ow) hp
  .cases h
 .injection h with h;subst h;exact uA (c:=c) (ow:=ow) _
 .split at h
  .rename_i hp;injection h with h;subst h;exact aCq (c:=c) (ow:=ow) (by simpa [plain] using hp)
  .cases h
 .injection h with h;subst h;rfl
 .injection h with h;subst h;trivial
 .cases h
theorem xX{s:Nat}{x:S}(h:f.look s=some x):∃n,(s,n,x)∈f.fr:=by
 unfold F.look at h;obtain⟨⟨s',n,e⟩,he,rfl⟩:=bXd.1 h;have h1:=bYn he;have h2:=bY2 he;simp at h2;subst h2;exact⟨n,h1⟩
theorem oC{o:Nat}{x:O}(h:f.obj o=some x):∃n,(o,n,x)∈f.ob:=by
 unfold F.obj at h;obtain⟨⟨s',n,e⟩,he,rfl⟩:=bXd.1 h;have h1:=bYn he;have h2:=bY2 he;simp at h2;subst h2;exact⟨n,h1⟩
theorem aK.look(h:aK M src c ow f a w){s:Nat}{x:S}(hl:f.look s=some x):∃v,a.tmps[s]? =some v/\gQ c ow w (okB src c ow f.ob) v x:=by
 obtain⟨n,hm⟩:=xX hl;exact h.fr s n x hm
theorem aK.obj(h:aK M src c ow f a w){o:Nat}{x:O}(hl:f.obj o=some x):qN M c ow w (okB src c ow f.ob) o x:=by
 obtain⟨n,hm⟩:=oC hl;exact h.ob o n x hm
theorem aK.get(h:aK M src c ow f a w){x:Operand}{s:S}(hg:f.get x=some s):gQ c ow w (okB src c ow f.ob) (a.eval x) s:=by
 cases x with
 | tmp t=>
  obtain⟨v,hv,h1⟩:=h.look hg;have he:a.eval (.tmp t)=v:=by simp[Act.eval,Array.getD_eq_getD_getElem?,hv]
  rw[he];exact h1
 | const v=>exact bBe hg
 | global g=>cases hg
 | func f=>cases hg
theorem aK.getC(h:aK M src c ow f a w){x:Operand}{y:C}(hg:f.getC x=some y):aM c ow w (okB src c ow f.ob) (a.eval x) y:=by
 unfold F.getC at hg;split at hg
 .rename_i z hz;injection hg with hg;subst hg;exact h.get hz
 .cases hg
theorem cI{α:Type}{x:Option α}{K:α->Option R}{r:R}(h:gO x K=some r):∃y,x=some y/\K y=some r:=by
 cases x with
 | none=>cases h
 | some y=>exact⟨y,rfl,h⟩
theorem aY{b:Bool}{x y:Option R}{r:R}(h:cond b x y=some r):(b=true/\x=some r)\/(b=false/\y=some r):=by
 cases b with
 | true=>exact .inl ⟨rfl,h⟩
 | false=>exact .inr ⟨rfl,h⟩
theorem bind_some{α:Type}{x:Option α}{K:α->Option R}{r:R}(h:Option.bind x K=some r):∃y,x=some y/\K y=some r:=by
 cases x with
 | none=>cases h
 | some y=>exact⟨y,rfl,h⟩
theorem aGo{α:Type}{l:List α}{i:Int}{x:α}(h:idx l i=some x):0<=i/\l[i.toNat]? =some x:=by
 unfold idx at h;rcases aY h with ⟨h1,h2⟩ | ⟨_,h2⟩
 .exact⟨by simpa using h1,h2⟩
 .cases h2
theorem yS{t:TypeId}{off:Nat}{cs:List C}{x:A}{xs:List Value}(h:rdC P t off cs=some x)(ha:aQ (aM c ow w ok) xs cs):
  ∃v,cK c ow w ok v x/\ ∀(w':World) (b base:Nat),(∀j u,xs[j]? =some u->w'.cell? ⟨b,base+j,none⟩=some u)->(loadVar t ⟨b,base+off,none⟩).run P w'= .ok v w':=by
 have agg:∀(i:TypeInfo),P.info? t=some i->(∀w',(isAgg t).run P w'= .ok true w')->off+i.size<=cs.length->x= .agg ((cs.drop off).take i.size)->
   ∃v,cK c ow w ok v x/\ ∀(w':World) (b base:Nat),(∀j u,xs[j]? =some u->w'.cell? ⟨b,base+j,none⟩=some u)->(loadVar t ⟨b,base+off,none⟩).run P w'= .ok v w':=by
  intro i hi hag hle hx;subst hx;refine⟨.agg ((xs.drop off).take i.size).toArray,⟨_,rfl,(ha.drop off).take i.size⟩,λw' b base hc=> ?_⟩;refine aNg (hag w') hi ?_ ?_
  .rw[bXw,bYy,ha.length];omega
  .intro j u hu;rw[aA5];have hj:xs[off+j]? =some u:=by
    rw[bXv]at hu;split at hu
    .rw[bYd]at hu;exact hu
    .cases hu
   have :=hc (off+j) u hj;rw[bYe];exact this
 unfold rdC at h;split at h
 .rename_i i fs hi hu;split at h
  .rename_i hle;injection h with h;exact agg i hi (aDa hu) hle h.symm
  .cases h
 .rename_i i n e hi hu;split at h
  .rename_i hle;injection h with h;exact agg i hi (aEd hu) hle h.symm
  .cases h
 .rename_i i d hns hna hi hu;obtain⟨t',ht',rfl⟩:=bXd.1 h;obtain⟨u,hu',hr⟩:=ha.get ht';exact⟨u,hr,λw' b base hc=>aO9 (pW hu (λfs e=>hns fs e) (λn e' h=>hna n e' h) w') (hc off u hu')⟩
 .cases h
theorem bBz{t:TypeId}{off:Nat}{cs:List C}{x:A}{vs:List Value}(h:rdC P t off cs=some x)(ha:aQ (aM c ow w ok) vs cs):∃v,cK c ow w ok v x/\ ∀w':World,(part t vs.toArray off).run P w'= .ok v w':=by
 have agg:∀(i:TypeInfo),P.info? t=some i->(∀w',(isAgg t).run P w'= .ok true w')->off+i.size<=cs.length->x= .agg ((cs.drop off).take i.size)-> ∃v,cK c ow w ok v x/\ ∀w':World,(part t vs.toArray off).run P w'= .ok v w':=by
  intro i hi hag hle hx;subst hx;refine⟨.agg ((vs.drop off).take i.size).toArray,⟨_,rfl,(ha.drop off).take i.size⟩,λw'=> ?_⟩;simp only[part,Sem.run_bind,hag w',Result.andThen_ok,zV,jA hi];have :vs.toArray.extract off (off+i.size)=((vs.drop off).take i.size).toArray:=by
   simp
  rw[this];rfl
 unfold rdC at h;split at h
 .rename_i i fs hi hu;split at h
  .rename_i hle;injection h with h;exact agg i hi (aDa hu) hle h.symm
  .cases h
 .rename_i i n e hi hu;split at h
  .rename_i hle;injection h with h;exact agg i hi (aEd hu) hle h.symm
  .cases h
 .rename_i i d hns hna hi hu;obtain⟨t',ht',rfl⟩:=bXd.1 h;obtain⟨u,hu',hr⟩:=ha.get ht';refine⟨u,hr,λw'=> ?_⟩;simp only[part,Sem.run_bind,pW hu (λfs e=>hns fs e) (λn e' h=>hna n e' h) w',Result.andThen_ok,bWz,zU];simp[hu']
 .cases h
def Val(P:Program)(src:Nat->Prop)(c:Cx)(ow:Nat->Option Nat)(f:F)(a:Act)(w:World)(o:Oper)(s:S):Prop:= ∃v,gQ c ow w (okB src c ow f.ob) v s/\bEy P a w o v
theorem aUr{r e k:Nat}{t:Ty}{l:List (den t)}{deep:Bool}(h:aCm M c ow w ok r e k t l deep){i:Nat}{x:den t}(hi:l[i]? =some x){g b0 n cap:Nat}(hv:c.rv r= .slice (some ⟨g,b0,none⟩) n cap):
  b0=0/\ ∃(xs:List Value) (G:List Nat),RepL w xs (cells t x) G/\(∀b∈G,ok b)/\(∀j u,xs[j]? =some u->w.cell? ⟨g,i * k+j,none⟩=some u)/\g<w.heap.size:=by
 obtain⟨h0,h1,h2,xs,G,h3,h4,h5,_⟩:=h;have hk:∀z∈l.map (cells t),z.length=k:=λz hz=>by obtain⟨y,_,rfl⟩:=bWr.1 hz;rw[cE,h1]
 have hi':(l.map (cells t))[i]? =some (cells t x):=by simp[hi]
 have hil:i<l.length:=(bWn.1 hi).1;have hle:(i+1) * k<=l.length * k:=bX1 _ hil;obtain⟨G1,H,g1,g2,g3⟩:=h4.take (i * k);obtain⟨G',H',g4,g5,g6⟩:=g2.take k;rw[lH hk hi']at g4;have hlt:=(xE h3 (g:=g) (by simp[hv,Value.ownBlock])).1;obtain⟨hxl,hr⟩:=h3;rcases hr with ⟨hn,_⟩ | ⟨g',cap',cur,hv',hB,hh,hnc,hcm,hsz,htk⟩
 .rw[hv]at hn;cases hn
 .rw[hv]at hv';injection hv' with e1 e2 e3;injection e1 with e1;injection e1 with e1 e0 _;subst e1;refine⟨e0,_,G',g4,λb hb=>h5 b (by rw[g3,g6];simp[hb]),λj u hu=> ?_,hlt⟩;have hj:xs[i * k+j]? =some u:=by
   rw[bXv]at hu;split at hu
   .rw[bYd]at hu;exact hu
   .cases hu
  have hlt:i * k+j<l.length * k:=by
   have :=(bWn.1 hj).1;omega
  rw[<- htk,bXv,zT hlt]at hj;simp only[World.cell?,hh];simpa using hj
theorem bLo{r k:Nat}{t:Ty}{l:List (den t)}(h:aCf M c ow w r k t l){i:Nat}{x:den t}(hi:l[i]? =some x){g b0 n cap:Nat}(hv:c.rv r= .slice (some ⟨g,b0,none⟩) n cap):
  ∃(xs:List Value) (G:List Nat),RepL w xs (cells t x) G/\(∀b∈G,ow b=some r)/\(∀j u,xs[j]? =some u->w.cell? ⟨g,b0+(i * k+j),none⟩=some u)/\g<w.heap.size:=by
 obtain⟨h0,h1,G,h2,h3,h4⟩:=h;have hi':(l.map (cells t))[i]? =some (cells t x):=by simp[hi]
 obtain⟨b,off,n',cap',xs,G',hve,hin,hlt,hbG,g1,g2,g3⟩:=Rep.elem (es:=l.map (cells t)) h2 hi';rw[hv]at hve;injection hve with e1 e2 e3;injection e1 with e1;injection e1 with e1 e0 _;subst e1 e0;refine⟨xs,G',g1,λb hb=>(h4 b (g3 b hb)).2.1,λj u hu=> ?_,hlt⟩;have :=g2 j u hu;rw[cE,h1]at this;rw[<- bYe];exact this
theorem bBv(h:aK M src c ow f a w){t:TypeId}{p:Operand}{K:S->Option R}{r:R}(hop:o.op= .load t p)(hv:aW2 P f t p K=some r):∃s,Val P src c ow f a w o s/\K s=some r:=by
 unfold aW2 at hv;split at hv
 .rename_i i off hp;split at hv
  .rename_i cs hb;obtain⟨x,hx,hk⟩:=cI hv;refine⟨_,?_,hk⟩;have hpv:a.eval p= .pointer (some ⟨c.loc i,off,none⟩):=h.getC hp;have hbx:zA M c ow w (okB src c ow f.ob) i cs:=h.obj hb;have hlt:=hbx.lt;obtain⟨_,_,vs,ty,hh,ha⟩:=hbx;obtain⟨v,hr,hl⟩:=yS hx ha;refine⟨v,hr,λw' hw0=> ?_⟩;have hw':=hw0 (by rw[hop];rfl);have h1:=hl w' (c.loc i) 0 (aF3 ((hw' _ hlt).trans hh));rw[bXm]at h1;simp only[execOp,hop,hpv];exact nX (yX h1)
  .cases hv
 .rename_i ty e off hp;obtain⟨x,hx,hk⟩:=cI hv;refine⟨_,?_,hk⟩;obtain⟨b,base,hpv,hb,hlt,xs,G,hr,hc,hG⟩:=h.getC hp;obtain⟨v,hrv,hl⟩:=yS hx (aEs (c:=c) (ow:=ow) ty e hr hG);refine⟨v,hrv,λw' hw0=> ?_⟩;have hw':=hw0 (by rw[hop];rfl);have h1:=hl w' b base λj u hu=>(World.cell?_of_block (hw' b hlt)).trans (hc j u hu)
  simp only[execOp,hop,hpv];exact nX (yX h1)
 .rename_i rr k i off hp;obtain⟨g,b0,n,cap,hrv,hpv⟩:=h.getC hp;split at hv
  .rename_i e k' ty l deep hrow;split at hv
   .rename_i hk;subst hk;obtain⟨x,hx,hk⟩:=bind_some hv;obtain⟨y,hy,hk⟩:=cI hk;refine⟨_,?_,hk⟩;obtain⟨rfl,xs,G,hr,hG,hc,hlt⟩:=aUr (h.obj hrow) hx hrv;obtain⟨v,hvr,hl⟩:=yS hy (aEs (c:=c) (ow:=ow) ty x hr hG);refine⟨v,hvr,λw' hw0=> ?_⟩;have hw':=hw0 (by rw[hop];rfl);have h1:=hl w' g (i * k) λj u hu=>(World.cell?_of_block (hw' g hlt)).trans (hc j u hu)
    simp only[execOp,hop,hpv,bXm];exact nX (yX h1)
   .cases hv
  .rename_i k' ty l hrow;split at hv
   .rename_i hk;subst hk;obtain⟨x,hx,hk⟩:=bind_some hv;obtain⟨y,hy,hk⟩:=cI hk;refine⟨_,?_,hk⟩;obtain⟨xs,G,hr,hG,hc,hlt⟩:=bLo (h.obj hrow) hx hrv;obtain⟨v,hvr,hl⟩:=yS hy (aGn (ok:=okB src c ow f.ob) hrv ty x 0 hr hG (λj u hu=>by rw[bXm];exact hc j u hu));refine⟨v,hvr,λw' hw0=> ?_⟩;have hw':=hw0 (by rw[hop];rfl);have h1:=hl w' g (b0+i * k) λj u hu=>by
     rw[bYe];exact (World.cell?_of_block (hw' g hlt)).trans (hc j u hu)
    simp only[execOp,hop,hpv];rw[bYe]at h1;exact nX (yX h1)
   .cases hv
  .cases hv
 .cases hv
theorem aPi(h:aK M src c ow f a w){x:Operand}{K:S->Option R}{r:R}(hop:o.op= .move x\/o.op= .assign x)(hv:gO (f.get x) K=some r):∃s,Val P src c ow f a w o s/\K s=some r:=by
 obtain⟨s,hs,hk⟩:=cI hv;refine⟨s,⟨a.eval x,h.get hs,λw' _=> ?_⟩,hk⟩;rcases hop with hop | hop<;>simp[execOp,hop]
theorem bD6(h:aK M src c ow f a w){z x y:Operand}{K:S->Option R}{r:R}(hop:o.op= .pick z x y)(hv:(match f.getC z with | some (.v .bool b)=>cond b (gO (f.get x) K) (gO (f.get y) K) | _=>none)=some r):∃s,Val P src c ow f a w o s/\K s=some r:=by
 split at hv
 .rename_i b hc;have hcv:=tA (h.getC hc);rcases aY hv with ⟨rfl,hv⟩ | ⟨rfl,hv⟩
  .obtain⟨s,hs,hk⟩:=cI hv;exact⟨s,⟨a.eval x,h.get hs,λw' _=>by simp[execOp,hop,hcv,asBool]⟩,hk⟩
  .obtain⟨s,hs,hk⟩:=cI hv;exact⟨s,⟨a.eval y,h.get hs,λw' _=>by simp[execOp,hop,hcv,asBool]⟩,hk⟩
 .cases hv
theorem bFe(h:aK M src c ow f a w){x:Operand}{K:S->Option R}{r:R}(hop:o.op= .nilCheck x)(hv:(match f.getC x with
  | some (.ptr o off)=>K (.val (.one (.ptr o off)))
  | some (.ep t e off)=>K (.val (.one (.ep t e off)))
  | some (.rp r k i off)=>K (.val (.one (.rp r k i off)))
  | some (.ip r k i off m j q)=>K (.val (.one (.ip r k i off m j q)))
  | _=>none)=some r):∃s,Val P src c ow f a w o s/\K s=some r:=by
 split at hv<;>first | (cases hv;done) | skip
 all_goals
  rename_i hx;have hr:=h.getC hx;refine⟨_,?_,hv⟩;refine⟨a.eval x,hr,λw' _=> ?_⟩
 .have he:a.eval x=_:=hr;simp[execOp,hop,he]
 .obtain⟨b,base,he,_⟩:=hr;simp[execOp,hop,he]
 .obtain⟨g,b0,n,cap,_,he⟩:=hr;simp[execOp,hop,he]
 .obtain⟨g,b0,n,cap,g2,b2,n2,cap2,_,_,he⟩:=hr;simp[execOp,hop,he]
end
end Go.V
set_option linter.unusedVariables false
set_option linter.unusedSectionVars false
namespace Go.V
open Go.Ab Go.RowKit
section
variable {M src:Nat->Prop} {c:Cx} {ow:Nat->Option Nat} {f:F} {a:Act} {w:World} {P:Program} {o:Oper} {ok:Nat->Prop} {R:Type}
theorem aSt{n:Int}{m:Nat}(h0:0<=n)(h1:n<(m:Int)):n.toNat<m:=by omega
theorem bOu{n:Int}{m:Nat}(h0:0<=n)(h1:n<(m:Int))(hm:m=0):False:=by omega
theorem bE3{k:IntKind}{x:Int}(h:plain (.int k x)=true)(n:Nat):plain (.int k (x.fdiv (2 ^ n)))=true:=by
 simp only[plain,bWj,zR]at h ⊢;have h0:k.min<=0:=by cases k<;>simp[IntKind.min,IntKind.signed,IntKind.bits]
 have h1:0<=k.max:=by cases k<;>simp[IntKind.max,IntKind.signed,IntKind.bits]
 have hp:(0:Int)<2 ^ n:=Int.pow_pos (by decide);have e:x.fdiv (2 ^ n)=x / 2 ^ n:=Int.fdiv_eq_ediv_of_nonneg _ (Int.le_of_lt hp);rw[e];rcases Int.lt_or_le x 0 with hx | hx
 .have h2:x / 2 ^ n<0:=Int.ediv_neg_of_neg_of_pos hx hp;have h3:x<=x / 2 ^ n:=by
   have h4:x / 2 ^ n * 2 ^ n<=x:=Int.ediv_mul_le x (by omega);have h5:=Int.lt_ediv_add_one_mul_self x hp;have h6:(1:Int)<=2 ^ n:=hp;have h7:x / 2 ^ n+1<=0:=by omega
   have h8:(x / 2 ^ n+1) * 2 ^ n<=(x / 2 ^ n+1) * 1:=Int.mul_le_mul_of_nonpos_left h7 h6;omega
  omega
 .have h2:0<=x / 2 ^ n:=Int.ediv_nonneg hx (Int.le_of_lt hp);have h3:x / 2 ^ n<=x:=Int.ediv_le_self _ hx;omega
theorem bIq(h:aK M src c ow f a w){op:BinOp}{t t':TypeId}{x y:Operand}{K:S->Option R}{r:R}{cx cy:C}(hop:o.op= .binOp op t x y t')(hx:f.getC x=some cx)(hy:f.getC y=some cy)(hv:bMr P op t (λc=>K (.val (.one c))) cx cy=some r):∃s,Val P src c ow f a w o s/\K s=some r:=by
 have rx:=h.getC hx;have ry:=h.getC hy
 suffices hs:∃z,(∃v,aM c ow w (okB src c ow f.ob) v z/\ ∀w',(binOp op t (a.eval x) (a.eval y)).run P w'= .ok v w'/\plain (a.eval x)=true)/\K (.val (.one z))=some r by
  obtain⟨z,⟨v,hvr,hrun⟩,hk⟩:=hs;refine⟨_,?_,hk⟩;refine⟨v,hvr,λw' _=> ?_⟩;simp only[execOp,hop];simp[aLk (P:=P) (hrun w').2,(hrun w').1]
 unfold bMr at hv;split at hv
 .rename_i k m k' n;obtain⟨ex,px⟩:=jI rx;obtain⟨ey,py⟩:=jI ry;rw[ex,ey];split at hv
  .rcases aY hv with ⟨_,hv⟩ | ⟨h0,hv⟩
   .cases hv
   .have h0': ¬ n<0:=by simpa using h0
    refine⟨_,⟨_,rG (c:=c) (ow:=ow) _ _,λw'=>⟨?_,px⟩⟩,hv⟩;simp[binOp,Op.shift,h0']
  .rcases aY hv with ⟨_,hv⟩ | ⟨h0,hv⟩
   .cases hv
   .have h0': ¬ n<0:=by simpa using h0
    refine⟨_,⟨_,pX (c:=c) (ow:=ow) (bE3 px _),λw'=>⟨?_,px⟩⟩,hv⟩;simp[binOp,Op.shift,h0']
  .rename_i hs1 hs2;split at hv
   .rename_i hk;subst hk;unfold bFo at hv;split at hv<;>first | (cases hv;done) | skip
    .exact⟨_,⟨_,rG (c:=c) (ow:=ow) _ _,λw'=>⟨by simp[binOp,Op.intArith],px⟩⟩,hv⟩
    .exact⟨_,⟨_,rG (c:=c) (ow:=ow) _ _,λw'=>⟨by simp[binOp,Op.intArith],px⟩⟩,hv⟩
    .exact⟨_,⟨_,rG (c:=c) (ow:=ow) _ _,λw'=>⟨by simp[binOp,Op.intArith],px⟩⟩,hv⟩
    .rcases aY hv with ⟨_,hv⟩ | ⟨h0,hv⟩
     .cases hv
     .have h0': ¬ n=0:=by simpa using h0
      exact⟨_,⟨_,rG (c:=c) (ow:=ow) _ _,λw'=>⟨by simp[binOp,Op.intDiv,h0'],px⟩⟩,hv⟩
    .rcases aY hv with ⟨_,hv⟩ | ⟨h0,hv⟩
     .cases hv
     .have h0': ¬ n=0:=by simpa using h0
      exact⟨_,⟨_,pX (c:=c) (ow:=ow) (bB3 px),λw'=>⟨by simp[binOp,Op.intDiv,h0'],px⟩⟩,hv⟩
    .exact⟨_,⟨_,rG (c:=c) (ow:=ow) _ _,λw'=>⟨by simp[binOp,Op.intBits],px⟩⟩,hv⟩
    .exact⟨_,⟨_,rG (c:=c) (ow:=ow) _ _,λw'=>⟨by simp[binOp,Op.intBits],px⟩⟩,hv⟩
    .exact⟨_,⟨_,rG (c:=c) (ow:=ow) _ _,λw'=>⟨by simp[binOp,Op.intBits],px⟩⟩,hv⟩
    .exact⟨_,⟨_,rG (c:=c) (ow:=ow) _ _,λw'=>⟨by simp[binOp,Op.intBits],px⟩⟩,hv⟩
    all_goals exact⟨_,⟨_,uA (c:=c) (ow:=ow) _,λw'=>⟨by simp[binOp,Op.intCmp],px⟩⟩,hv⟩
   .cases hv
 .rename_i sa sb;obtain⟨ex,px⟩:=xW rx;obtain⟨ey,py⟩:=xW ry;have px':plain (.string sa)=true:=by simpa [plain] using px
  rw[ex,ey];unfold bJb at hv;split at hv<;>first | (cases hv;done) | skip
  .rcases aY hv with ⟨h0,hv⟩ | ⟨_,hv⟩
   .have hsz:sa.size+sb.size<=maxLen:=by simpa using h0
    refine⟨_,⟨.string (sa++sb),aCq (c:=c) (ow:=ow) (by simpa using hsz),λw'=>⟨?_,px'⟩⟩,hv⟩;have hh: ¬ ((sa.size+sb.size:Nat):Int)>IntKind.i64.max:=by
     simp only[IntKind.max,IntKind.signed,IntKind.bits];have h63:(2:Int) ^ 63=9223372036854775808:=by decide
     simp only[maxLen]at hsz;simp[h63];omega
    simp only[binOp,Op.stringOp];rw[zS hh];rfl
   .cases hv
  .exact⟨_,⟨_,uA (c:=c) (ow:=ow) _,λw'=>⟨by simp[binOp,Op.stringOp],px'⟩⟩,hv⟩
  .exact⟨_,⟨_,uA (c:=c) (ow:=ow) _,λw'=>⟨by simp[binOp,Op.stringOp],px'⟩⟩,hv⟩
 .rename_i ba bb;have ex:=tA rx;have ey:=tA ry;rw[ex,ey];unfold bAd at hv;split at hv
  .rename_i hu;exact⟨_,⟨_,uA (c:=c) (ow:=ow) _,λw'=>⟨by simp[binOp,Op.equal,Op.maxDepth,run_equalIn_bool' w' _ t ba bb hu],rfl⟩⟩,hv⟩
  .rename_i hu;exact⟨_,⟨_,uA (c:=c) (ow:=ow) _,λw'=>⟨by simp[binOp,Op.equal,Op.maxDepth,run_equalIn_bool' w' _ t ba bb hu],rfl⟩⟩,hv⟩
  .cases hv
 .cases hv
theorem bGz{t:TypeId}{x y:C}{b:Bool}{u v:Value}(h:eqC P t x y=some b)(hx:aM c ow w ok u x)(hy:aM c ow w ok v y):(∀(d:Nat) (w':World),(Op.equalIn (d+1) t u v).run P w'= .ok b w')/\(∀w':World,(isAgg t).run P w'= .ok false w'):=by
 unfold eqC at h;split at h
 .split at h
  .rename_i k' hu;split at h
   .rename_i hk;subst hk;injection h with h;subst h;obtain⟨rfl,_⟩:=jI hx;obtain⟨rfl,_⟩:=jI hy;exact⟨λd w'=>run_equalIn_int w' d t _ _ _ _ hu,pW hu (by simp) (by simp)⟩
   .cases h
  .cases h
 .split at h
  .rename_i hu;injection h with h;subst h;have e1:=tA hx;have e2:=tA hy;subst e1 e2;exact⟨λd w'=>run_equalIn_bool' w' d t _ _ hu,pW hu (by simp) (by simp)⟩
  .cases h
 .split at h
  .rename_i hu;injection h with h;subst h;obtain⟨rfl,_⟩:=xW hx;obtain⟨rfl,_⟩:=xW hy;exact⟨λd w'=>run_equalIn_string w' d t _ _ hu,pW hu (by simp) (by simp)⟩
  .cases h
 .cases h
theorem bBb{xs ys:List C}{us vs:List Value}(hx:aQ (aM c ow w ok) us xs)(hy:aQ (aM c ow w ok) vs ys):∀{fs:List Field} {b:Bool},bCc P xs ys fs=some b-> ∀(d:Nat) (w':World),(Op.eqFields (d+1) us.toArray vs.toArray fs).run P w'= .ok b w':=by
 intro fs
 induction fs with
 | nil=>intro b h d w';injection h with h;subst h;simp[Op.eqFields]
 | cons f fs ih=>
  intro b h d w';unfold bCc at h;split at h
  .rename_i x y h1 h2;split at h
   .rename_i b1 r h3 h4;split at h
    .cases h
    .rename_i hname;injection h with h;subst h;obtain⟨u,hu,ru⟩:=hx.get h1;obtain⟨v,hv,rv⟩:=hy.get h2;obtain⟨q1,q2⟩:=bGz h3 ru rv;have hp1:∀w':World,(part f.type us.toArray f.offset).run P w'= .ok u w':=by
      intro w';simp only[part,Sem.run_bind,q2 w',Result.andThen_ok,bWz,zU];simp[hu]
     have hp2:∀w':World,(part f.type vs.toArray f.offset).run P w'= .ok v w':=by
      intro w';simp only[part,Sem.run_bind,q2 w',Result.andThen_ok,bWz,zU];simp[hv]
     unfold Op.eqFields;rw[zT hname];simp only[Sem.run_bind,hp1,hp2,q1,Result.andThen_ok];cases b1 with
     | true=>simp only[Bool.not_true,bWz,zU,Bool.true_and];exact ih h4 d w'
     | false=>simp
   .cases h
  .cases h
theorem bL8(h:aK M src c ow f a w){op:BinOp}{t t':TypeId}{x y:Operand}{K:S->Option R}{r:R}(hop:o.op= .binOp op t x y t')(hv:bMo P f op t x y K=some r):∃s,Val P src c ow f a w o s/\K s=some r:=by
 unfold bMo at hv;split at hv
 .rename_i fs xs ys ht hx hy;have hfo:P.fieldsOf t=fs:=by simp[Program.fieldsOf,ht]
  split at hv
  .rename_i hg;obtain⟨p1,p2⟩:=hg;split at hv
   all_goals first | (cases hv;done) | skip
   all_goals
    rename_i b hb;obtain⟨us,hus,hax⟩:=h.get hx;obtain⟨vs,hvs,hay⟩:=h.get hy;have hrun:∀w':World,(Op.equalIn 10000 t (.agg us.toArray) (.agg vs.toArray)).run P w'= .ok b w':=by
     intro w';rw[run_equalIn_struct w' 9999 t _ _ (by rw[hfo];exact ht) p1,hfo];exact bBb hax hay hb 9998 w'
    refine⟨_,?_,hv⟩;refine⟨_,uA (c:=c) (ow:=ow) _,λw' _=> ?_⟩;simp only[execOp,hop,hus,hvs]
   .simp[run_eqGuard_agg (P:=P) w' _ t x y _ _ p2,run_eql_struct,hrun]
   .simp[run_eqGuard_agg (P:=P) w' _ t x y _ _ p2,run_neq_struct,hrun]
  .cases hv
 .cases hv
theorem aX9(h:aK M src c ow f a w){t:TypeId}{x:Operand}{j:Nat}{K:S->Option R}{r:R}(hop:o.op= .fieldAddr t x j)(hv:aQb P f t x j K=some r):∃s,Val P src c ow f a w o s/\K s=some r:=by
 unfold aQb at hv;split at hv
 .rename_i fs ht;split at hv
  .rename_i fd hf;split at hv
   .rename_i i hi;split at hv
    .cases hv
    .rename_i h0;split at hv
     .rename_i ob off hx;have ex:a.eval x= .pointer (some ⟨c.loc ob,off,none⟩):=h.getC hx;refine⟨_,?_,hv⟩;refine⟨.pointer (some ⟨c.loc ob,off+fd.offset,none⟩),rfl,λw' _=> ?_⟩;simp only[execOp,hop,ex];exact nX (aA3 ht hf hi h0 _ _ w')
     .rename_i ty e off hx;obtain⟨b,base,ex,h1,h2,xs,G,h3,h4,h5⟩:=h.getC hx;refine⟨_,?_,hv⟩;refine⟨.pointer (some ⟨b,base+(off+fd.offset),none⟩),⟨b,base,rfl,h1,h2,xs,G,h3,h4,h5⟩,λw' _=> ?_⟩;simp only[execOp,hop,ex,<- bYe];exact nX (aA3 ht hf hi h0 _ _ w')
     .rename_i rr k j' off hx;obtain⟨g,b0,n,cap,h1,ex⟩:=h.getC hx;refine⟨_,?_,hv⟩;refine⟨.pointer (some ⟨g,b0+(j' * k+(off+fd.offset)),none⟩),⟨g,b0,n,cap,h1,rfl⟩,λw' _=> ?_⟩;simp only[execOp,hop,ex,<- bYe];exact nX (aA3 ht hf hi h0 _ _ w')
     .rename_i rr k i' off m j' q hx;obtain⟨g,b0,n,cap,g2,b2,n2,cap2,h1,h2,ex⟩:=h.getC hx;refine⟨_,?_,hv⟩;refine⟨.pointer (some ⟨g2,b2+(j' * m+(q+fd.offset)),none⟩),⟨g,b0,n,cap,g2,b2,n2,cap2,h1,h2,rfl⟩,λw' _=> ?_⟩;simp only[execOp,hop,ex,<- bYe];exact nX (aA3 ht hf hi h0 _ _ w')
     .cases hv
   .cases hv
  .cases hv
 .cases hv
theorem aX6(h:aK M src c ow f a w){t:TypeId}{x i:Operand}{K:S->Option R}{r:R}(hop:o.op= .indexAddr t x i)(hv:aQz P f t x i K=some r):∃s,Val P src c ow f a w o s/\K s=some r:=by
 unfold aQz at hv;split at hv
 .rename_i e ht;split at hv
  .rename_i inf ty l kd n hi hx hix;obtain⟨y,hy,hv⟩:=bind_some hv;split at hv
   .rename_i hk;obtain⟨p1,p2⟩:=aGo hy;obtain⟨G,hr,hG⟩:=h.getC hx;obtain⟨ei,_⟩:=jI (h.getC hix);obtain⟨b,off,len,cap,xs,G',hve,hlt,hb,hbF,g1,g2,g3⟩:=Rep.elem (es:=l.map (cells ty)) hr (i:=n.toNat) (el:=cells ty y) (by simp[p2]);rw[cE,<- yL ty y,hk]at g2;refine⟨_,?_,hv⟩;refine⟨.pointer (some ⟨b,off+n.toNat * inf.size,none⟩),⟨b,off+n.toNat * inf.size,by simp,hG b hbF,hb,xs,G',g1,g2,λx hx=>hG x (g3 x hx)⟩,λw' _=> ?_⟩;simp only[execOp,hop,hve,ei];exact nX (uG ht hi p1 (by omega) w')
   .cases hv
  .rename_i inf rr kd n hi hx hix;have hxv:a.eval x=c.rv rr:=h.getC hx;obtain⟨ei,_⟩:=jI (h.getC hix);split at hv
   .rename_i e' k ty l deep hrow;split at hv
    .rename_i hk;subst hk;rcases aY hv with ⟨p1,hv⟩ | ⟨_,hv⟩
     .rcases aY hv with ⟨p2,hv⟩ | ⟨_,hv⟩
      .have p1:0<=n:=by simpa using p1
       have p2:n<(l.length:Int):=by simpa using p2
       obtain⟨r0,r1,r2,xs,G,r3,_⟩:=h.obj hrow;obtain⟨hl,hr⟩:=r3;rcases hr with ⟨_,h0⟩ | ⟨g,cap,cur,hrv,_⟩
       .exact (bOu p1 p2 h0).elim
       .refine⟨_,?_,hv⟩;refine⟨.pointer (some ⟨g,0+(n.toNat * inf.size+0),none⟩),⟨g,0,l.length,cap,hrv,rfl⟩,λw' _=> ?_⟩;simp only[execOp,hop,hxv,hrv,ei];exact nX (uG (b:=g) (off:=0) (cap:=cap) (len:=l.length) (kd:=kd) ht hi p1 p2 w')
      .cases hv
     .cases hv
    .cases hv
   .rename_i k ty l hrow;split at hv
    .rename_i hk;subst hk;rcases aY hv with ⟨p1,hv⟩ | ⟨_,hv⟩
     .rcases aY hv with ⟨p2,hv⟩ | ⟨_,hv⟩
      .have p1:0<=n:=by simpa using p1
       have p2:n<(l.length:Int):=by simpa using p2
       obtain⟨r0,r1,G,r3,_⟩:=h.obj hrow;have hlt:n.toNat<l.length:=aSt p1 p2;obtain⟨b,off,len,cap,xs,G',hve,hin,hb,hbF,g1,g2,g3⟩:=Rep.elem (es:=l.map (cells ty)) r3 (i:=n.toNat) (el:=cells ty l[n.toNat]) (by simp[hlt]);refine⟨_,?_,hv⟩;refine⟨.pointer (some ⟨b,off+(n.toNat * inf.size+0),none⟩),⟨b,off,len,cap,hve,rfl⟩,λw' _=> ?_⟩;simp only[execOp,hop,hxv,hve,ei];exact nX (uG ht hi p1 (by have h1:=hin;have h2:((n.toNat:Nat):Int)=n:=bY3 p1;rw[<- h2];exact Int.ofNat_lt.2 h1) w')
      .cases hv
     .cases hv
    .cases hv
   .cases hv
  .rename_i inf rr k i' off ty l kd n hi hx hix;obtain⟨ei,_⟩:=jI (h.getC hix);split at hv
   .rename_i hk;rcases aY hv with ⟨p1,hv⟩ | ⟨_,hv⟩
    .rcases aY hv with ⟨p2,hv⟩ | ⟨_,hv⟩
     .have p1:0<=n:=by simpa using p1
      have p2:n<(l.length:Int):=by simpa using p2
      have hlt:n.toNat<l.length:=aSt p1 p2;obtain⟨g,b0,nn,cap0,h1,h2,G,hr,hG⟩:=h.getC hx;obtain⟨b,off',len,cap,xs,G',hve,hin,hb,hbF,g1,g2,g3⟩:=Rep.elem (es:=l.map (cells ty)) hr (i:=n.toNat) (el:=cells ty l[n.toNat]) (by simp[hlt]);refine⟨_,?_,hv⟩;refine⟨.pointer (some ⟨b,off'+(n.toNat * inf.size+0),none⟩),⟨g,b0,nn,cap0,b,off',len,cap,h1,by rw[h2,hve],rfl⟩,λw' _=> ?_⟩;simp only[execOp,hop,hve,ei];exact nX (uG ht hi p1 (by have h1:=hin;have h2:((n.toNat:Nat):Int)=n:=bY3 p1;rw[<- h2];exact Int.ofNat_lt.2 h1) w')
     .cases hv
    .cases hv
   .cases hv
  .cases hv
 .cases hv
theorem bG1(h:aK M src c ow f a w){t:TypeId}{x:Operand}{K:S->Option R}{r:R}(hop:o.op= .call {callee:= .builtin .len,args:= #[x],argTypes:= #[t]})(hv:bE0 P f t x K=some r):∃s,Val P src c ow f a w o s/\K s=some r:=by
 unfold bE0 at hv;split at hv
 .rename_i e ty l ht hx;obtain⟨G,hr,hG⟩:=h.getC hx;obtain⟨ad,cap,hve,hm⟩:=Rep.len (es:=l.map (cells ty)) hr;rw[bXe]at hve hm;refine⟨_,?_,hv⟩;refine⟨.int .i64 (l.length:Int),pX (c:=c) (ow:=ow) (aBi hm),λw' _=>aAb hop w' λty=> ?_⟩;rw[hve];simp[Builtin.len_,run_underlying ht,goInt]
 .rename_i e ht hx;have hve:a.eval x= .slice none 0 0:=h.getC hx;refine⟨_,?_,hv⟩;refine⟨.int .i64 0,pX (c:=c) (ow:=ow) (by decide),λw' _=>aAb hop w' λty=> ?_⟩;rw[hve];simp[Builtin.len_,run_underlying ht,goInt]
 .rename_i e rr ht hx;have hve:a.eval x=c.rv rr:=h.getC hx;split at hv
  .rename_i e' k ty l deep hrow;obtain⟨r0,r1,r2,xs,G,r3,_⟩:=h.obj hrow;obtain⟨ad,cap,hrv,hm⟩:=aE2 r3;refine⟨_,?_,hv⟩;refine⟨.int .i64 (l.length:Int),pX (c:=c) (ow:=ow) (aBi hm),λw' _=>aAb hop w' λty=> ?_⟩;rw[hve,hrv];simp[Builtin.len_,run_underlying ht,goInt]
  .rename_i k ty l hrow;obtain⟨r0,r1,G,r3,_⟩:=h.obj hrow;obtain⟨ad,cap,hrv,hm⟩:=Rep.len (es:=l.map (cells ty)) r3;rw[bXe]at hrv hm;refine⟨_,?_,hv⟩;refine⟨.int .i64 (l.length:Int),pX (c:=c) (ow:=ow) (aBi hm),λw' _=>aAb hop w' λty=> ?_⟩;rw[hve,hrv];simp[Builtin.len_,run_underlying ht,goInt]
  .cases hv
 .rename_i e rr k i' off ty l ht hx;obtain⟨g,b0,nn,cap0,h1,h2,G,hr,hG⟩:=h.getC hx;obtain⟨ad,cap,hve,hm⟩:=Rep.len (es:=l.map (cells ty)) hr;rw[bXe]at hve hm;refine⟨_,?_,hv⟩;refine⟨.int .i64 (l.length:Int),pX (c:=c) (ow:=ow) (aBi hm),λw' _=>aAb hop w' λty=> ?_⟩;rw[hve];simp[Builtin.len_,run_underlying ht,goInt]
 .rename_i sb ht hx;obtain⟨hve,hp⟩:=xW (h.getC hx);refine⟨_,?_,hv⟩;refine⟨.int .i64 (sb.size:Int),pX (c:=c) (ow:=ow) (aBi hp),λw' _=>aAb hop w' λty=> ?_⟩;rw[hve];simp[Builtin.len_,run_underlying ht,goInt]
 .cases hv
theorem aVd(h:aK M src c ow f a w){mx:Bool}{cl:Call}{x y:Operand}{K:S->Option R}{r:R}(hop:o.op= .call cl)(hcal:cl.callee= .builtin (if mx then .max else .min))(hargs:cl.args.toList=[x,y])(hv:bDc f mx x y K=some r):∃s,Val P src c ow f a w o s/\K s=some r:=by
 unfold bDc at hv;split at hv
 .rename_i k m k' n hx hy;split at hv
  .rename_i hk;subst hk;obtain⟨ex,px⟩:=jI (h.getC hx);obtain⟨ey,py⟩:=jI (h.getC hy);have ha:cl.args= #[x,y]:=by
    apply Array.toList_inj.1;simpa using hargs
   refine⟨_,?_,hv⟩;refine⟨.int k (if mx then (if n>m then n else m) else (if n<m then n else m)),pX (c:=c) (ow:=ow) ?_,λw' _=> ?_⟩
   .cases mx<;>simp only[bWz,zU,zV]<;>split<;>assumption
   .cases mx
    .simp[execOp,hop,resolve,hcal,ha,invoke,builtin,ex,ey,Builtin.min_,Builtin.min2]
    .simp[execOp,hop,resolve,hcal,ha,invoke,builtin,ex,ey,Builtin.max_,Builtin.max2]
  .cases hv
 .cases hv
end
end Go.V
set_option linter.unusedVariables false
set_option linter.unusedSectionVars false
namespace Go.V
open Go.Ab Go.RowKit
section
variable {M src:Nat->Prop} {c:Cx} {ow:Nat->Option Nat} {f:F} {a:Act} {w:World} {P:Program} {o:Oper} {ok:Nat->Prop} {R:Type}
theorem bK9(v:Value)(h1:v.oneCell'=true):aM c ow w ok v (zC v):=by
 unfold zC;split
 .split
  .exact pX ‹_›
  .rfl
 .exact uA _
 .split
  .rename_i hp;exact aCq (by simpa [plain] using hp)
  .rfl
 .rfl
 .exact h1
theorem aKe(vs:List Value)(h1:vs.all Value.oneCell'=true):aQ (aM c ow w ok) vs (vs.map zC):=by
 induction vs with
 | nil=>exact .nil
 | cons v vs ih=>
  simp only[bY4,bWj]at h1;exact .cons (bK9 v h1.1) (ih h1.2)
theorem vQ(hrv:∀r,∃ad n k,c.rv r= .slice ad n k){x:A}{v:Value}(h:cK c ow w ok v x)(hs:x.cells.all C.solid=true):
  ∃vs:List Value,v.cells=vs.toArray/\aQ (aM c ow w ok) vs x.cells/\ ∀u∈vs,u.oneCell'=true:=by
 cases x with
 | one t=>
  simp only[A.cells,bY4,List.all_nil,Bool.and_true]at hs;have h1:=aHt hrv h hs;exact⟨[v],h1.2,.cons h .nil,by simpa using h1.1⟩
 | agg ts=>
  obtain⟨vs,rfl,ha⟩:=h;refine⟨vs,rfl,ha,?_⟩;have hs':ts.all C.solid=true:=hs;clear hs
  induction ha with
  | nil=>simp
  | cons hr hrs ih=>
   simp only[bY4,bWj]at hs';intro u hu;rcases bWm.1 hu with rfl | hu
   .exact (aHt hrv hr hs'.1).1
   .exact ih hs'.2 u hu
theorem aQ.sp{α β:Type}{R:α->β->Prop}{as as':List α}{bs bs':List β}(h:aQ R as bs)(h':aQ R as' bs')(off:Nat):aQ R (sp as off as') (sp bs off bs'):=by
 unfold Go.V.sp;rw[h'.length];exact ((h.take off).append h').append (h.drop _)
theorem aWp(h:aK M src c ow f a w){t:TypeId}{x:Operand}{j:Nat}{K:S->Option R}{r:R}(hop:o.op= .field t x j)(hv:aM5 P f t x j K=some r):∃s,Val P src c ow f a w o s/\K s=some r:=by
 unfold aM5 at hv;split at hv
 .rename_i fs ht;split at hv
  .rename_i fd ts hf hx;obtain⟨y,hy,hv⟩:=cI hv;obtain⟨vs,hve,ha⟩:=h.get hx;obtain⟨v,hr,hrun⟩:=bBz hy ha;refine⟨_,?_,hv⟩;refine⟨v,hr,λw' _=> ?_⟩;simp only[execOp,hop,hve];refine nX ?_;simp[Instr.field,run_underlying ht,hf,asAgg,hrun]
  .cases hv
 .cases hv
theorem aYr:∀{fs:List Field} {ps:List (Nat×Nat)},aDw P fs=some ps-> ∀w':World,(fs.mapM λf=>(do pure (f.offset,<- sizeOf f.type):Sem (Nat×Nat))).run P w'= .ok ps w':=by
 intro fs ps h w';exact bB4 h w'
theorem aLo(h:aK M src c ow f a w){place:Nat->Option (Nat×Nat)}:∀{ps:List (Nat×Operand)} {cs r:List C} {vs:List Value},aNv f place cs ps=some r->aQ (aM c ow w (okB src c ow f.ob)) vs cs->
  ∃us:List Value,aQ (aM c ow w (okB src c ow f.ob)) us r/\Instr.fill place vs.toArray (ps.map λp=>(p.1,a.eval p.2))=some us.toArray:=by
 intro ps
 induction ps with
 | nil=>intro cs r vs hf ha;injection hf with hf;subst hf;exact⟨vs,ha,by simp[Instr.fill]⟩
 | cons p ps ih=>
  intro cs r vs hf ha;obtain⟨i,x⟩:=p;unfold aNv at hf;split at hf
  .rename_i off size y hp hx;split at hf
   .rename_i hc;obtain⟨c1,c2,c3⟩:=hc;obtain⟨ws,hws,hall,_⟩:=vQ h.rvs (h.get hx) c3;have hal:=ha.sp hall off;obtain⟨us,hu1,hu2⟩:=ih hf hal;refine⟨us,hu1,?_⟩;rw[bW2,bMl (off:=off) (size:=size) hp (by rw[hws];simp[hall.length,c1]) (by rw[ha.length];exact c2),hws];exact hu2
   .cases hf
  .cases hf
theorem aYu(h:aK M src c ow f a w){t:TypeId}{ps:Array (Nat×Operand)}{K:S->Option R}{r:R}(hop:o.op= .build t ps)(hv:aQu P f t ps.toList K=some r):∃s,Val P src c ow f a w o s/\K s=some r:=by
 unfold aQu at hv;split at hv
 .rename_i i fs hi ht;split at hv
  .rename_i z places hz hpl;have hz1:z.cells.toList.all Value.oneCell'=true:=by
    cases hq:z.cells.toList.all Value.oneCell' with
    | true=>rfl
    | false=>rw[zS (by rw[hq];decide)]at hv;cases hv
   rw[zT hz1]at hv;obtain⟨cs,hf,hv⟩:=cI hv;obtain⟨us,hu1,hu2⟩:=aLo (a:=a) h hf (aKe z.cells.toList hz1);refine⟨_,?_,hv⟩;refine⟨.agg us.toArray,⟨us,rfl,hu1⟩,λw' _=> ?_⟩;simp only[execOp,hop];refine nX ?_;have hm:(fs.mapM λf=>(do pure (f.offset,<- sizeOf f.type):Sem (Nat×Nat))).run P w'= .ok places.toArray w':=by
    have he:fs=fs.toList.toArray:=by simp
    rw[he,List.mapM_toArray];have :=aYr hpl w';simp only[Sem.run_bind,map_eq_pure_bind,this,Result.andThen_ok];rfl
   simp only[Instr.build,zeroValue,typeInfo,Sem.run_bind,run_program,Result.andThen_ok,hi,hz,Sem.run_pure,run_underlying ht];rw[hm];simp only[Result.andThen_ok,bY5];have hu2':Instr.fill (λx=>places.toArray[x]?) z.cells (List.map (λp=>(p.1,a.eval p.2)) ps.toList)=some us.toArray:=by simpa using hu2
   simp only[hu2'];rfl
  .cases hv
 .rename_i i n e hi ht;split at hv
  .rename_i z ie hz hie;have hz1:z.cells.toList.all Value.oneCell'=true:=by
    cases hq:z.cells.toList.all Value.oneCell' with
    | true=>rfl
    | false=>rw[zS (by rw[hq];decide)]at hv;cases hv
   rw[zT hz1]at hv;obtain⟨cs,hf,hv⟩:=cI hv;obtain⟨us,hu1,hu2⟩:=aLo (a:=a) h hf (aKe z.cells.toList hz1);refine⟨_,?_,hv⟩;refine⟨.agg us.toArray,⟨us,rfl,hu1⟩,λw' _=> ?_⟩;simp only[execOp,hop];refine nX ?_;simp only[Instr.build,zeroValue,typeInfo,Sem.run_bind,run_program,Result.andThen_ok,hi,hz,Sem.run_pure,run_underlying ht,jA hie,bY5];have hu2':Instr.fill (λx=>some (x * ie.size,ie.size)) z.cells (List.map (λp=>(p.1,a.eval p.2)) ps.toList)=some us.toArray:=by simpa using hu2
   simp only[hu2'];rfl
  .cases hv
 .cases hv
theorem aRt(h:aK M src c ow f a w){dflt:Int}{x:Option Operand}{n:Int}(hb:aDb f dflt x=some n):(x=none/\n=dflt)\/ ∃y k,x=some y/\a.eval y= .int k n:=by
 cases x with
 | none=>injection hb with hb;exact .inl ⟨rfl,hb.symm⟩
 | some y=>
  simp only[aDb]at hb;split at hb
  .rename_i k n' hg;injection hb with hb;subst hb;exact .inr ⟨y,k,rfl,(jI (h.getC hg)).1⟩
  .cases hb
theorem aGq(h:aK M src c ow f a w){sl:Bool}{len cap:Nat}(hlc:len<=cap){lo hi:Option Operand}{l u:Int}(h1:aDb f 0 lo=some l)(h2:aDb f (len:Int) hi=some u)(hl:0<=l)(hlu:l<=u)(hu:u<=len)(w':World):
  (Instr.sliceBounds sl len cap (lo.map a.eval) (hi.map a.eval) none).run P w'= .ok (l.toNat,u.toNat,cap) w':=by
 have hhi:∀w':World,(match hi.map a.eval,(none:Option Value) with
   | some v,some _=>Instr.sliceBound v cap .slice3B
   | some v,none=>Instr.sliceBound v cap (if sl then .sliceAcap else .sliceAlen)
   | none,none=>pure len
   | none,some _=>stuck "Slice: max without high":Sem Nat).run P w'= .ok u.toNat w':=by
  intro w';rcases aRt h h2 with ⟨rfl,rfl⟩ | ⟨y,k,rfl,hy⟩
  .simp
  .simp only[bYv,hy,Instr.sliceBound,asIntOf,Sem.run_bind,Sem.run_pure,Result.andThen_ok];rw[zT (by omega)];rfl
 have hlo:∀w':World,(match lo.map a.eval with
   | some v=>Instr.sliceBound v u.toNat .sliceB
   | none=>pure 0:Sem Nat).run P w'= .ok l.toNat w':=by
  intro w';rcases aRt h h1 with ⟨rfl,rfl⟩ | ⟨y,k,rfl,hy⟩
  .simp
  .simp only[bYv,hy,Instr.sliceBound,asIntOf,Sem.run_bind,Sem.run_pure,Result.andThen_ok];rw[zT (by omega)];rfl
 unfold Instr.sliceBounds;simp only[Sem.run_bind,Sem.run_pure,Result.andThen_ok];have e1:=hhi w';have e2:=hlo w';cases hi with
 | none=>
  simp only[bZh,Sem.run_pure]at e1;injection e1 with e1;cases lo with
  | none=>
   simp only[bZh,Sem.run_pure]at e2;injection e2 with e2;simp[e1,<- e2]
  | some y=>simp only[bYv]at e2;simp[e1,e2]
 | some z=>
  simp only[bYv]at e1;cases lo with
  | none=>
   simp only[bZh,Sem.run_pure]at e2;injection e2 with e2;simp[e1,<- e2]
  | some y=>simp only[bYv]at e2;simp[e1,e2]
theorem aAl:∀t:Ty,yJ.tyLen t=tyLen t
 | .int _=>rfl
 | .bool=>rfl
 | .str=>rfl
 | .sl _=>rfl
 | .pair a b=>by simp[yJ.tyLen,tyLen,aAl a,aAl b]
theorem aMr{l h n:Int}(hs:cQ l h n=true):0<=l/\l<=h/\h<=n:=by simpa [cQ] using hs
theorem bRm{α β:Type}(g:α->β)(l:List α)(a b:Int):(cut l a b).map g=((l.map g).drop a.toNat).take (b - a).toNat:=by simp[cut,List.map_take,List.map_drop]
theorem aYf(h:aK M src c ow f a w){t:TypeId}{x:Operand}{lo hi:Option Operand}{K:S->Option R}{r:R}(hop:o.op= .slice t x lo hi none)(hv:yJ P f t x lo hi K=some r):∃s,Val P src c ow f a w o s/\K s=some r:=by
 unfold yJ at hv;split at hv
 .rename_i e ty l ht hx;split at hv
  .rename_i i lo' u hi' h1 h2;split at hv
   .rename_i hk;rcases aY hv with ⟨p,hv⟩ | ⟨_,hv⟩
    .obtain⟨p1,p2,p3⟩:=aMr p;obtain⟨G,hr,hG⟩:=h.getC hx;obtain⟨ad,len,cap,hve,hlen,hlc,hcm,G',g1,g2⟩:=Rep.cut (es:=l.map (cells ty)) hr (k:=i.size) (l:=lo'.toNat) (n:=(u - lo').toNat) (λz hz=>by obtain⟨y,_,rfl⟩:=bWr.1 hz;rw[cE,hk,aAl]) (by rw[bXe];omega);rw[bXe]at hlen;subst hlen;rw[<- bRm]at g1;refine⟨_,?_,hv⟩;refine⟨_,⟨G',g1,λb hb=>hG b (g2 b hb)⟩,λw' _=> ?_⟩;have hbr:=aGq (P:=P) (sl:=true) h hlc h1 h2 p1 p2 p3 w';simp only[execOp,hop,hve];refine nX ?_;have hsub:u.toNat - lo'.toNat=(u - lo').toNat:=by omega
     simp only[Instr.sliceAt,Sem.run_bind,run_underlying ht,Result.andThen_ok,Instr.slice,bZh,hbr,jA hi',hsub];rfl
    .cases hv
   .cases hv
  .cases hv
 .rename_i sb ht hx;split at hv
  .rename_i l u h1 h2;rcases aY hv with ⟨p,hv⟩ | ⟨_,hv⟩
   .obtain⟨p1,p2,p3⟩:=aMr p;obtain⟨hve,hsz⟩:=xW (h.getC hx);refine⟨_,?_,hv⟩;refine⟨.string (sb.extract l.toNat u.toNat),aCq (c:=c) (ow:=ow) ?_,λw' _=> ?_⟩
    .simp only[ByteArray.size_extract];have h1:u.toNat<=sb.size:=by omega
     omega
    .have hbr:=aGq (P:=P) (sl:=false) h (bWx (ByteArray.size sb)) h1 h2 p1 p2 p3 w';simp only[execOp,hop,hve];refine nX ?_;simp only[Instr.sliceAt,Sem.run_bind,run_underlying ht,Result.andThen_ok,Instr.slice,bZh,Option.isSome_none,bWz,zU,Sem.run_pure,hbr]
   .cases hv
  .cases hv
 .cases hv
theorem eI{s t:Ty}{x:den s}{y:den t}(h:fO s t x=some y):∃e:s=t,e▸x=y:=by
 unfold fO at h;split at h
 .rename_i e;injection h with h;exact⟨e,h⟩
 .cases h
theorem aJ5{t:Ty}{d:den t}:∀{cs:List C} {l:List (den t)},aNq t d cs=some l->l.length=cs.length/\ ∀(i:Nat) (y:den t),l[i]? =some y->cs[i]? =some (.v t y)
 | [],l,h=>by injection h with h;subst h;exact⟨rfl,λi y hy=>by simp at hy⟩
 | .v t' x::cs,l,h=>by
  unfold aNq at h;split at h
  .rename_i y ys h1 h2;injection h with h;subst h;obtain⟨rfl,rfl⟩:=eI h1;obtain⟨g1,g2⟩:=aJ5 h2;refine⟨by simp[g1],λi z hz=> ?_⟩;cases i with
   | zero=>simp at hz ⊢;exact hz
   | succ i=>simpa using g2 i z (by simpa using hz)
  .cases h
 | .nil::_,_,h=>by cases h
 | .row _::_,_,h=>by cases h
 | .ptr _ _::_,_,h=>by cases h
 | .ep _ _ _::_,_,h=>by cases h
 | .rp _ _ _ _::_,_,h=>by cases h
 | .sub _ _ _ _ _ _::_,_,h=>by cases h
 | .ip _ _ _ _ _ _ _::_,_,h=>by cases h
 | .clo _ _::_,_,h=>by cases h
 | .any::_,_,h=>by cases h
theorem aSy(h:aK M src c ow f a w){t e:TypeId}{len:Nat}{x i:Operand}{cs:List C}{kd:IntKind}{n:Int}{inf:TypeInfo}{d:TypeDesc}{y:C}(hop:o.op= .index t x i)(ht:P.underlying t=some (.array len e))(hx:f.get x=some (.val (.agg cs)))(hi:f.getC i=some (.v (.int kd) n))(hinf:P.info? e=some inf)(hd:P.underlying e=some d)
  (hns:∀fs,d≠ .struct fs) (hna:∀n e,d≠ .array n e) (h1:inf.size=1) (h0:0<=n) (hl:n<len) (hy:cs[n.toNat]? =some y):Val P src c ow f a w o (.val (.one y)):=by
 obtain⟨vs,hve,ha⟩:=h.get hx;obtain⟨ei,_⟩:=jI (h.getC hi);obtain⟨v,hv',hr⟩:=ha.get hy;have hagg:=pW hd hns hna;refine⟨v,hr,λw' _=> ?_⟩;simp only[execOp,hop,hve,ei];refine nX ?_;simp only[Instr.index,asIntOf,Sem.run_bind,Sem.run_pure,Result.andThen_ok,run_underlying ht];rw[zT ⟨h0,hl⟩];simp only[Sem.run_bind,jA hinf,Result.andThen_ok,h1,part,hagg w',bWz,zU,Nat.mul_one];simp[hv']
theorem bI7{s:ByteArray}{i:Nat}{b:UInt8}(h:s.data.toList[i]? =some b):s[i]? =some b:=by
 rw[Array.getElem?_toList]at h;obtain⟨h1,h2⟩:=bYl.1 h;exact getElem?_eq_some_iff.2 ⟨h1,h2⟩
theorem bEe(h:aK M src c ow f a w){t:TypeId}{x i:Operand}{K:S->Option R}{r:R}(hop:o.op= .index t x i)(hv:aXh P f t x i K=some r):∃s,Val P src c ow f a w o s/\K s=some r:=by
 unfold aXh at hv;split at hv
 .rename_i sb kd n ht hx hi;obtain⟨b,hb,hv⟩:=bind_some hv;obtain⟨p1,p2⟩:=aGo hb;obtain⟨ex,_⟩:=xW (c:=c) (ow:=ow) (h.get hx);obtain⟨ei,_⟩:=jI (h.getC hi);refine⟨_,?_,hv⟩;refine⟨.int .u8 (b.toNat:Int),pX (c:=c) (ow:=ow) (bCz b),λw' _=> ?_⟩;simp only[execOp,hop,ex,ei];refine nX ?_;have p3:=bI7 p2;simp[Instr.index,asIntOf,run_underlying ht,p1,p3]
 .rename_i len e cs kd n ht hx hi;split at hv
  .rename_i inf hinf hd;split at hv
   .rename_i hc;obtain⟨l,hl,hv⟩:=cI hv;obtain⟨y,hy,hv⟩:=bind_some hv;obtain⟨p1,p2⟩:=aGo hy;obtain⟨g1,g2⟩:=aJ5 hl;have hlt:n.toNat<l.length:=(bWn.1 p2).1;exact⟨_,aSy h hop ht hx hi hinf hd (by simp) (by simp) hc.1 p1 (by rw[<- hc.2,<- g1];have :=bY3 p1;omega) (g2 _ _ p2),hv⟩
   .cases hv
  .rename_i inf k hinf hd;split at hv
   .rename_i hc;obtain⟨l,hl,hv⟩:=cI hv;obtain⟨y,hy,hv⟩:=bind_some hv;obtain⟨p1,p2⟩:=aGo hy;obtain⟨g1,g2⟩:=aJ5 hl;have hlt:n.toNat<l.length:=(bWn.1 p2).1;exact⟨_,aSy h hop ht hx hi hinf hd (by simp) (by simp) hc.1 p1 (by rw[<- hc.2,<- g1];have :=bY3 p1;omega) (g2 _ _ p2),hv⟩
   .cases hv
  .cases hv
 .cases hv
theorem aZm{e k:Nat}{t:Ty}{v:Value}{l:List (den t)}{xs:List Value}{G:List Nat}{B:Nat}(h:w.ownsRow B e k v l.length xs)(hk0:0<k)(hk:tyLen t=k)(hr:RepL w xs (l.map (cells t)).flatten G):
  ∃G',Rep w v (dW (.sl t) l) G'/\ ∀b∈G',v.ownBlock=some b\/b∈G:=by
 have hkk:∀z∈l.map (cells t),z.length=k:=λz hz=>by obtain⟨y,_,rfl⟩:=bWr.1 hz;rw[cE,hk]
 obtain⟨hl,h2⟩:=h;rcases h2 with ⟨rfl,h0⟩ | ⟨g,cap,cur,rfl,hB,hh,h1,h2,h3,h4⟩
 .have :l=[]:=bYx.1 h0;subst this;exact⟨[],.nil (bW3 _),by simp⟩
 .rcases bZ0 l.length with h0 | h0
  .have :l=[]:=bYx.1 h0;subst this;exact⟨[],.nil h2,by simp⟩
  .refine⟨g::G,.cons (k:=k) (by simp) h0 hk0 hkk h1 h2 hl (λj u hu=> ?_) hr,λb hb=> ?_⟩
   .rw[bXm];rw[<- h4,bXv]at hu;split at hu
    .simp only[World.cell?,hh];simpa using hu
    .cases hu
   .rcases bWm.1 hb with rfl | hb
    .exact .inl rfl
    .exact .inr hb
theorem aG4(h:aK M src c ow f a w){t:Ty}{x:C}{y:den t}{v:Value}(hd:f.data t x=some y)(hv:aM c ow w (okB src c ow f.ob) v x):∃G,Rep w v (dW t y) G/\ ∀b∈G,src b\/M b\/ ∃r,ow b=some r:=by
 unfold F.data at hd;split at hd
 .rename_i t' z;obtain⟨rfl,rfl⟩:=eI hd;obtain⟨G,hr,hG⟩:=hv;exact⟨G,hr,λb hb=> .inl (hG b hb).1⟩
 .split at hd
  .injection hd with hd;subst hd;have hv:v= .slice none 0 0:=hv;subst hv;exact⟨[],.nil (bW3 _),by simp⟩
  .cases hd
 .rename_i r;have hv:v=c.rv r:=hv;subst hv;split at hd
  .rename_i e k t' l deep hrow;obtain⟨rfl,rfl⟩:=eI hd;obtain⟨r0,r1,r2,xs,G,r3,r4,r5,r6⟩:=h.obj hrow;obtain⟨G',g1,g2⟩:=aZm r3 r0 r1 r4;refine⟨G',g1,λb hb=> ?_⟩;rcases g2 b hb with hb | hb
   .exact .inr (.inl (r2 b hb).1)
   .exact .inl (r5 b hb).1
  .rename_i k t' l hrow;obtain⟨rfl,rfl⟩:=eI hd;obtain⟨r0,r1,G,r3,r4,r5⟩:=h.obj hrow;exact⟨G,r3,λb hb=> .inr (.inl (r5 b hb).1)⟩
  .cases hd
 .rename_i r k i off t' l;obtain⟨rfl,rfl⟩:=eI hd;obtain⟨_,_,_,_,_,_,G,hr,hG⟩:=hv;exact⟨G,hr,λb hb=> .inr (.inr ⟨r,hG b hb⟩)⟩
 .cases hd
theorem aNr{w:World}:∀{l:List Int} {xs:List Value} {G:List Nat},RepL w xs (l.map (cells (.int .u8))).flatten G->(∀n∈l,0<=n/\n<=255)
 | [],_,_,_=>by intro n hn;cases hn
 | m::l,xs,G,h=>by
  rw[bW2,bYg]at h;cases h with
  | cons h1 h2=>
   intro n hn;rcases bWm.1 hn with rfl | hn
   .cases h1 with
    | lit hp=>simpa [plain,IntKind.min,IntKind.max,IntKind.signed,IntKind.bits] using hp
   .exact aNr h2 n hn
theorem bMk{l:List Int}(h:∀n∈l,0<=n/\n<=255):l.map (cells (.int .u8))=xM (aPy l):=by
 induction l with
 | nil=>rfl
 | cons n l ih=>
  have h1:=h n (bWt ..);have h2:((UInt8.ofNat n.toNat).toNat:Int)=n:=by
   rw[UInt8.toNat_ofNat'];have :n.toNat % 2 ^ 8=n.toNat:=Nat.mod_eq_of_lt (by omega);omega
  show cells (.int .u8) n::l.map (cells (.int .u8))=[T.lit (.int .u8 ((UInt8.ofNat n.toNat).toNat:Int))]::xM (aPy l);rw[h2,ih λm hm=>h m (bWo _ hm)];rfl
theorem bQz{v:Value}{l:List Int}{G:List Nat}(hr:Rep w v (dW (.sl (.int .u8)) l) G){t d e:TypeId}(ht:P.underlying t=some (.slice e))(he:P.underlying e=some (.int .u8))(hd:P.underlying d=some .string):(convert t d v).run P w= .ok (.string (wZ l)) w:=by
 have hb:∀n∈l,0<=n/\n<=255:=by
  have hr':=hr;simp only[dW]at hr';generalize hes:l.map (cells (.int .u8))=es at hr';cases hr' with
  | nil _=>
   have :l=[]:=by simpa using hes
   subst this;intro n hn;cases hn
  | cons _ _ _ _ _ _ _ _ hr=>subst hes;exact aNr hr
 have hbt:=bMk hb;simp only[dW]at hr;rw[hbt]at hr;unfold wZ;generalize aPy l=l at hr;cases hl:l with
 | nil=>
  subst hl;have hb:xM []=[]:=rfl;rw[hb]at hr;cases hr with
  | @nil A cc hc=>
   rw[run_convert_bytes_string w t d e A 0 cc ht he hd];cases A with
   | none=>simp[Conv.bytesToString];rfl
   | some ad=>
    have h0:(loadCells ad 0).run P w= .ok (([]:List Int).map (Value.int .u8)).toArray w:=by simp[loadCells,loadCellsFrom]
    rw[run_bytesToString w ad 0 cc [] h0];rfl
  | cons hn h0 _ _ _ _ _ _ _=>simp at hn;omega
 | cons b0 l0=>
  rw[<- hl];generalize hbt:xM l=es at hr;cases hr with
  | nil hc=>rw[hl]at hbt;simp[xM]at hbt
  | @cons b off n cc k es' xs F' hn' h0 hk0 hk hc hm hxl hcell hrl=>
   subst hbt;have hxs:=bCp hrl;have hnl:n=l.length:=by rw[<- hn'];simp[xM]
   rw[run_convert_bytes_string w t d e _ n cc ht he hd];have hload:(loadCells ⟨b,off,none⟩ n).run P w= .ok ((l.map λb=>(b.toNat:Int)).map (Value.int .u8)).toArray w:=by
    have :=run_loadCells_list (P:=P) w ⟨b,off,none⟩ xs (λj u hu=>by rw[aA5];exact hcell j u hu);rw[hxs]at this;have hlen:(l.map λb=>Value.int .u8 (b.toNat:Int)).length=n:=by simp[hnl]
    rw[hlen]at this;rw[this,bY6];rfl
   rw[run_bytesToString w _ n cc _ hload,bEn];simp[ByteArray.empty,ByteArray.emptyWithCapacity];rfl
theorem bA6(h:aK M src c ow f a w){t d:TypeId}{x:Operand}{K:S->Option R}{r:R}(hop:o.op= .convert t d x)(hv:aVy P f t d x K=some r):∃s,Val P src c ow f a w o s/\K s=some r:=by
 unfold aVy at hv;split at hv
 .rename_i k0 n ds k hx hs hd;obtain⟨ex,_⟩:=jI (h.getC hx);refine⟨_,?_,hv⟩;exact⟨.int k (k.wrap n),rG (c:=c) (ow:=ow) k n,λw' _=>by simp[execOp,hop,ex,convert,run_underlying hs,run_underlying hd,Conv.intToInt]⟩
 .rename_i y e hx hs hd;split at hv
  .rename_i l he hl;obtain⟨G,hr,_⟩:=aG4 h hl (h.getC hx);obtain⟨ad,cap,hve,hm⟩:=Rep.len (es:=l.map (cells (.int .u8))) hr;rw[bXe]at hm;refine⟨_,?_,hv⟩;refine⟨.string (wZ l),aCq (c:=c) (ow:=ow) ?_,λw' hw'=> ?_⟩
   .show (aPy l).toArray.size<=maxLen;simpa [aPy] using hm
   .simp only[execOp,hop];exact nX (bQz (hr.frame λb hb=>hw' (by rw[hop];rfl) b (hr.lt b hb)) hs he hd)
  .cases hv
 .cases hv
theorem aLz(h:aK M src c ow f a w){K:S->Option R}{r:R}(hv:aCg P f K o.op=some r):∃s,Val P src c ow f a w o s/\K s=some r:=by
 cases hop:o.op with
 | move x=>rw[hop]at hv;exact aPi h (.inl hop) hv
 | assign x=>rw[hop]at hv;exact aPi h (.inr hop) hv
 | pick z x y=>rw[hop]at hv;exact bD6 h hop hv
 | load t p=>rw[hop]at hv;exact bBv h hop hv
 | nilCheck x=>rw[hop]at hv;exact bFe h hop hv
 | binOp op t x y t'=>
  rw[hop]at hv;simp only[aCg,bN3]at hv;split at hv
  .rename_i h1 h2;exact bIq h hop h1 h2 hv
  .exact bL8 h hop hv
 | unOp op t x=>
  rw[hop]at hv;cases op with
  | not=>
   simp only[aCg]at hv;split at hv
   .rename_i b hx;have ex:=tA (h.getC hx);refine⟨_,?_,hv⟩;exact⟨.bool (!b),uA (c:=c) (ow:=ow) _,λw' _=>by simp[execOp,hop,ex,Op.unary]⟩
   .cases hv
  | neg=>
   simp only[aCg]at hv;split at hv
   .rename_i k n hx;obtain⟨ex,_⟩:=jI (h.getC hx);refine⟨_,?_,hv⟩;exact⟨.int k (k.wrap (0 - n)),rG (c:=c) (ow:=ow) _ _,λw' _=>by simp[execOp,hop,ex,Op.unary,Op.intArith]⟩
   .cases hv
  | _=>cases hv
 | convert t d x=>rw[hop]at hv;exact bA6 h hop hv
 | fieldAddr t x j=>rw[hop]at hv;exact aX9 h hop hv
 | field t x j=>rw[hop]at hv;exact aWp h hop hv
 | build t ps=>rw[hop]at hv;exact aYu h hop hv
 | slice t x lo hi mx=>
  rw[hop]at hv;cases mx with
  | none=>exact aYf h hop hv
  | some m=>cases hv
 | index t x i=>rw[hop]at hv;exact bEe h hop hv
 | indexAddr t x i=>rw[hop]at hv;exact aX6 h hop hv
 | extract x i=>
  rw[hop]at hv;simp only[aCg]at hv;split at hv
  .rename_i xs hx;obtain⟨y,hy,hv⟩:=cI hv;obtain⟨vs,hve,ha⟩:=h.get hx;obtain⟨v,hv',hr⟩:=ha.get hy;refine⟨_,?_,hv⟩;refine⟨v,hr,λw' _=> ?_⟩;simp[execOp,hop,hve,Instr.extract,hv']
  .cases hv
 | makeFunc fn first cap=>
  rw[hop]at hv;cases fn with
  | func g=>
   simp only[aCg]at hv;split at hv
   .rename_i x h1 h2;split at hv
    .rename_i o' off hx;split at hv
     .rename_i h0;subst h0;have hr:a.eval x= .pointer (some ⟨c.loc o',0,none⟩):=h.getC hx;obtain⟨first⟩:=first
      obtain⟨cap⟩:=cap;simp only at h1 h2;subst h1 h2;refine⟨_,?_,hv⟩;exact⟨.func (.func g) #[] #[.pointer (some ⟨c.loc o',0,none⟩)],rfl,λw' _=>by simp[execOp,hop,Instr.makeFunc,hr]⟩
     .cases hv
    .cases hv
   .cases hv
  | _=>cases hv
 | call cl=>
  rw[hop]at hv;simp only[aCg]at hv;split at hv
  .rename_i x t h1 h2 h3;refine bG1 h ?_ hv;rw[hop];congr 1;obtain⟨cal,ar,ty⟩:=cl;simp only at h1 h2 h3;obtain⟨ar⟩:=ar;obtain⟨ty⟩:=ty;simp only at h2 h3;subst h1 h2 h3;rfl
  .rename_i x y h1 h2;exact aVd (mx:=true) h hop h1 h2 hv
  .rename_i x y h1 h2;exact aVd (mx:=false) h hop h1 h2 hv
  .cases hv
 | _=>rw[hop]at hv;cases hv
end
end Go.V
set_option linter.unusedVariables false
set_option linter.unusedSectionVars false
namespace Go.V
open Go.Ab Go.RowKit
section
variable {M src:Nat->Prop} {c:Cx} {ow:Nat->Option Nat} {f g:F} {a:Act} {w:World} {ok:Nat->Prop}
theorem bF9(cs:List C):aQ C.le (cs.map aKb) cs:=by
 induction cs with
 | nil=>exact .nil
 | cons t ts ih=>exact .cons (by unfold aKb;split<;>simp[C.le]) ih
theorem O.noSub_le(x:O):x.noSub.le x:=by
 cases x with
 | box cs=>exact .box (bF9 cs)
 | row e k t l deep=>exact .row id
 | win k t l=>exact .win
theorem O.noSub_self{x:O}(h:x.isSub=false):x.noSub=x:=by
 cases x with
 | box cs=>
  simp only[O.isSub,bXg]at h;simp only[O.noSub];congr 1
  induction cs with
  | nil=>rfl
  | cons c cs ih=>
   rw[bW2,ih λx hx=>h x (bWo _ hx)];simp[aKb,h c (bWt ..)]
 | row _ _ _ _ _=>rfl
 | win _ _ _=>rfl
theorem O.isSub_noSub(x:O):x.noSub.isSub=false:=by
 cases x with
 | box cs=>
  simp only[O.noSub,O.isSub,bXg,bWr]
  rintro t ⟨u,_,rfl⟩
  unfold aKb;split
  .simp[C.isSub]
  .assumption
 | row _ _ _ _ _=>rfl
 | win _ _ _=>rfl
theorem vK{o n:Nat}{x:O}(h:(o,n,x)∈f.noSubs.ob):∃m y,(o,m,y)∈f.ob/\x=y.noSub:=by
 simp only[F.noSubs,bWr]at h;obtain⟨⟨o',m,y⟩,hm,he⟩:=h;split at he
 .injection he with e1 he;injection he with e2 e3;subst e1 e3;exact⟨m,y,hm,rfl⟩
 .rename_i hs;injection he with e1 he;injection he with e2 e3;subst e1 e2 e3;exact⟨m,y,hm,(O.noSub_self (by simpa using hs)).symm⟩
theorem aK.noSubs(h:aK M src c ow f a w):aK M src c ow f.noSubs a w:=by
 refine h.weak (λs n x hm=>⟨n,(bWy.1 hm).1⟩) (λo n x hm=> ?_) (λo n x m y hx hy=> ?_)
 .obtain⟨m,y,hy,rfl⟩:=vK hm;exact⟨m,y,hy,O.noSub_le y⟩
 .obtain⟨_,x',hx',rfl⟩:=vK hx;obtain⟨_,y',hy',rfl⟩:=vK hy;rw[h.uniq _ _ _ _ _ hx' hy']
theorem oD(f:F):f.noSubs.subFree:=by
 refine⟨λs n x h=> ?_,λo n x h=> ?_⟩
 .simpa using (bWy.1 h).2
 .obtain⟨m,y,_,rfl⟩:=vK h;exact O.isSub_noSub y
theorem Ext.noSubs(f:F):Ext f f.noSubs:=by
 refine⟨bXi _,λs n x hm _=>(bWy.1 hm).1,λo n x hm hn=> ?_⟩;simp only[F.noSubs,bWr]at hm;obtain⟨⟨o',m,y⟩,hm,he⟩:=hm;split at he
 .injection he with _ he;injection he with e _;omega
 .rw[<- he];exact hm
theorem aTc{r:Nat}{t:Ty}{l:List (den t)}{x:C}(h:x.names r=false):wC r t l x=x:=by
 cases x with
 | row r'=>simp[C.names]at h;simp[wC,h]
 | rp r' k i off=>simp[C.names]at h;simp[wC,h]
 | sub r' k i off t x=>simp[C.names]at h;simp[wC,h]
 | ip r' k i off m j p=>simp[C.names]at h;simp[wC,h]
 | _=>rfl
theorem aId{r:Nat}{t:Ty}{l:List (den t)}:∀{cs:List C},cs.any (C.names r)=false->cs.map (wC r t l)=cs
 | [],_=>rfl
 | x::xs,h=>by
  simp only[bZi,bYo]at h;rw[bW2,aTc h.1,aId h.2]
theorem A.frz_self{r:Nat}{t:Ty}{l:List (den t)}{x:A}(h:x.names r=false):x.frz r t l=x:=by
 cases x with
 | one y=>simp only[A.frz];rw[aTc h]
 | agg cs=>simp only[A.frz];rw[aId h]
theorem S.frz_self{r:Nat}{t:Ty}{l:List (den t)}{x:S}(h:x.names r=false):x.frz r t l=x:=by
 cases x with
 | val y=>simp only[S.frz];rw[A.frz_self h]
 | tup xs=>
  simp only[S.frz,S.names]at h ⊢;congr 1
  induction xs with
  | nil=>rfl
  | cons y ys ih=>
   simp only[bZi,bYo]at h;rw[bW2,A.frz_self h.1,ih h.2]
 | un=>rfl
theorem O.frz_self{r:Nat}{t:Ty}{l:List (den t)}{x:O}(h:x.names r=false):x.frz r t l=x:=by
 cases x with
 | box cs=>simp only[O.frz];rw[aId h]
 | row _ _ _ _ _=>rfl
 | win _ _ _=>rfl
theorem bPd{r k i off:Nat}{t:Ty}{x:List (den t)}{v:Value}(h:aM c ow w ok v (.sub r k i off t x)):v.oneCell'=true:=by
 obtain⟨_,_,_,_,_,_,G,hr,_⟩:=h;generalize dW (.sl t) x=d at hr;cases hr with
 | lit hp=>cases v<;>simp[plain]at hp<;>rfl
 | nil _=>rfl
 | cons _ _ _ _ _ _ _ _ _=>rfl
theorem aGv{ok':Nat->Prop}{r:Nat}{t:Ty}{l:List (den t)}{x:C}{v:Value}(h:aM c ow w ok v x)(hg:∀b,b<w.heap.size->ok b->ok' b)(hr:∃G,Rep w (c.rv r) (dW (.sl t) l) G/\ ∀b∈G,ok' b):aM c ow w ok' v (wC r t l x):=by
 cases x with
 | row r'=>
  simp only[wC];split
  .rename_i he;subst he;have h:v=c.rv r':=h;subst h;exact hr
  .exact h
 | rp r' k i off=>
  simp only[wC];split
  .obtain⟨_,_,_,_,_,rfl⟩:=h;rfl
  .exact h
 | sub r' k i off t x=>
  simp only[wC];split
  .exact bPd h
  .exact h
 | ip r' k i off m j p=>
  simp only[wC];split
  .obtain⟨_,_,_,_,_,_,_,_,_,_,rfl⟩:=h;rfl
  .exact h
 | v _ _=>exact aM.good h hg
 | nil=>exact h
 | clo _ _=>exact h
 | ptr _ _=>exact h
 | ep _ _ _=>exact aM.good h hg
 | any=>exact h
theorem aQ.map_right{α β γ:Type}{R:α->β->Prop}{S:α->γ->Prop}{f:β->γ}{as:List α}{bs:List β}(h:aQ R as bs)(hf:∀a b,R a b->S a (f b)):aQ S as (bs.map f):=by
 induction h with
 | nil=>exact .nil
 | cons h hs ih=>exact .cons (hf _ _ h) ih
theorem A.frz_sound{ok':Nat->Prop}{r:Nat}{t:Ty}{l:List (den t)}{x:A}{v:Value}(h:cK c ow w ok v x)(hg:∀b,b<w.heap.size->ok b->ok' b)(hr:∃G,Rep w (c.rv r) (dW (.sl t) l) G/\ ∀b∈G,ok' b):cK c ow w ok' v (x.frz r t l):=by
 cases x with
 | one y=>exact aGv h hg hr
 | agg ts=>obtain⟨vs,rfl,ha⟩:=h;exact⟨vs,rfl,ha.map_right λu t hu=>aGv hu hg hr⟩
theorem S.frz_sound{ok':Nat->Prop}{r:Nat}{t:Ty}{l:List (den t)}{x:S}{v:Value}(h:gQ c ow w ok v x)(hg:∀b,b<w.heap.size->ok b->ok' b)(hr:∃G,Rep w (c.rv r) (dW (.sl t) l) G/\ ∀b∈G,ok' b):gQ c ow w ok' v (x.frz r t l):=by
 cases x with
 | val y=>exact A.frz_sound h hg hr
 | tup xs=>obtain⟨vs,rfl,ha⟩:=h;exact⟨vs,rfl,ha.map_right λu t hu=>A.frz_sound hu hg hr⟩
 | un=>exact h
theorem O.frz_blk(r:Nat)(t:Ty)(l:List (den t))(o b:Nat)(y:O):(y.frz r t l).blk c ow o b↔y.blk c ow o b:=by cases y<;>exact Iff.rfl
structure Frz (f g:F) (r:Nat) (t:Ty) (l:List (den t)):Prop where
 fr:∀s n x,(s,n,x)∈g.fr-> ∃m y,(s,m,y)∈f.fr/\x=y.frz r t l
 ob:∀o n x,(o,n,x)∈g.ob->o≠r/\ ∃m y,(o,m,y)∈f.ob/\x=y.frz r t l
theorem zL{r e k:Nat}{t:Ty}{l:List (den t)}{deep:Bool}(hr:f.obj r=some (.row e k t l deep)):Frz f (f.frzRow r) r t l:=by
 unfold F.frzRow;rw[hr];refine⟨λs n x hm=> ?_,λo n x hm=> ?_⟩
 .simp only[bWr]at hm;obtain⟨⟨s',m,y⟩,hm,he⟩:=hm;split at he
  .injection he with e1 he;injection he with e2 e3;subst e1 e3;exact⟨m,y,hm,rfl⟩
  .rename_i hn;injection he with e1 he;injection he with e2 e3;subst e1 e2 e3;exact⟨m,y,hm,(S.frz_self (by simpa using hn)).symm⟩
 .simp only[bWr,bWy]at hm;obtain⟨⟨o',m,y⟩,⟨hm,hne⟩,he⟩:=hm;have hne':o'≠r:=by simpa using hne
  split at he
  .injection he with e1 he;injection he with e2 e3;subst e1 e3;exact⟨hne',m,y,hm,rfl⟩
  .rename_i hn;injection he with e1 he;injection he with e2 e3;subst e1 e2 e3;exact⟨hne',m,y,hm,(O.frz_self (by simpa using hn)).symm⟩
theorem Frz.live{r:Nat}{t:Ty}{l:List (den t)}(hf:Frz f g r t l){b:Nat}(h:live c ow g.ob b):live c ow f.ob b:=by
 obtain⟨o,n,x,hm,hx⟩:=h;obtain⟨_,m,y,hy,rfl⟩:=hf.ob o n x hm;exact⟨o,m,y,hy,(O.frz_blk r t l o b y).1 hx⟩
theorem aK.frz(h:aK M src c ow f a w)(hsrc:∀b,M b->src b){r n e k:Nat}{t:Ty}{l:List (den t)}{deep:Bool}(hr:(r,n,.row e k t l deep)∈f.ob)(hf:Frz f g r t l):aK M src c ow g a w/\ ∀b,(c.rv r).ownBlock=some b->okB src c ow g.ob b:=by
 have hok:=h.ob _ _ _ hr;have hg:∀b,b<w.heap.size->okB src c ow f.ob b->okB src c ow g.ob b:=λb _ hb=>⟨hb.1,λhl=>hb.2 (hf.live hl)⟩
 have hmain:∀b,(c.rv r).ownBlock=some b->okB src c ow g.ob b:=by
  intro b hb;obtain⟨_,_,r2,_⟩:=id hok;refine⟨hsrc b (r2 b hb).1,λ⟨o,m,x,hm,hx⟩=> ?_⟩;obtain⟨hne,m',y,hy,rfl⟩:=hf.ob o m x hm;exact hne (h.apart hy hr ((O.frz_blk r t l o b y).1 hx) hb)
 have hdata:∃G,Rep w (c.rv r) (dW (.sl t) l) G/\ ∀b∈G,okB src c ow g.ob b:=by
  obtain⟨r0,r1,r2,xs,G,r3,r4,r5,r6⟩:=hok;obtain⟨G',g1,g2⟩:=aZm r3 r0 r1 r4;exact⟨G',g1,λb hb=>(g2 b hb).elim (hmain b) λhb'=>hg b (r4.lt b hb') (r5 b hb')⟩
 refine⟨⟨h.defers,λs n x hm=> ?_,λo n x hm=> ?_,λo n x m y hx hy=> ?_,h.rvs⟩,hmain⟩
 .obtain⟨m,y,hm',rfl⟩:=hf.fr s n x hm;obtain⟨v,hv,h1⟩:=h.fr _ _ _ hm';exact⟨v,hv,S.frz_sound h1 hg hdata⟩
 .obtain⟨hne,m,y,hy,rfl⟩:=hf.ob o n x hm;have ho:=h.ob _ _ _ hy;cases y with
  | box cs=>
   obtain⟨b1,b2,vs,ty,b3,b4⟩:=ho;exact⟨b1,b2,vs,ty,b3,b4.map_right λu t hu=>aGv hu hg hdata⟩
  | row e' k' t' l' deep'=>
   obtain⟨r0,r1,r2,xs,G,r3,r4,r5,r6⟩:=ho;exact⟨r0,r1,r2,xs,G,r3,r4,λb hb=>hg b (r4.lt b hb) (r5 b hb),r6⟩
  | win _ _ _=>exact ho
 .obtain⟨_,_,z,hz,rfl⟩:=hf.ob _ _ _ hx;obtain⟨_,_,z',hz',rfl⟩:=hf.ob _ _ _ hy;rw[h.uniq _ _ _ _ _ hz hz']
theorem aK.frzRow(h:aK M src c ow f a w)(hsrc:∀b,M b->src b)(r:Nat):aK M src c ow (f.frzRow r) a w:=by
 cases hr:f.obj r with
 | none=>unfold F.frzRow;rw[hr];exact h
 | some x=>
  cases x with
  | row e k t l deep=>obtain⟨n,hm⟩:=oC hr;exact (h.frz hsrc hm (zL hr)).1
  | box _=>unfold F.frzRow;rw[hr];exact h
  | win _ _ _=>unfold F.frzRow;rw[hr];exact h
theorem Ext.frzRow(f:F)(r:Nat):Ext f (f.frzRow r):=by
 unfold F.frzRow;split
 .refine⟨bXi _,λs n x hm hn=> ?_,λo n x hm hn=> ?_⟩
  .simp only[bWr]at hm;obtain⟨⟨s',m,y⟩,hm,he⟩:=hm;split at he
   .injection he with _ he;injection he with e _;omega
   .rw[<- he];exact hm
  .simp only[bWr,bWy]at hm;obtain⟨⟨o',m,y⟩,⟨hm,_⟩,he⟩:=hm;split at he
   .injection he with _ he;injection he with e _;omega
   .rw[<- he];exact hm
 .exact .refl _
theorem Ext.frzAll(f:F)(ids:List Nat):Ext f (f.frzAll ids):=by
 induction ids generalizing f with
 | nil=>exact .refl _
 | cons r rs ih=>exact (Ext.frzRow f r).trans (ih (f.frzRow r))
theorem aK.frzAll(h:aK M src c ow f a w)(hsrc:∀b,M b->src b)(ids:List Nat):aK M src c ow (f.frzAll ids) a w:=by
 induction ids generalizing f with
 | nil=>exact h
 | cons r rs ih=>exact ih (h.frzRow hsrc r)
theorem aGh{r:Nat}{t:Ty}{l:List (den t)}{x:C}(h:x.isSub=false):(wC r t l x).isSub=false:=by
 cases x with
 | row r'=>simp only[wC];split<;>rfl
 | rp r' k i off=>simp only[wC];split<;>rfl
 | sub _ _ _ _ _ _=>cases h
 | ip _ _ _ _ _ _ _=>cases h
 | _=>rfl
theorem A.frz_isSub{r:Nat}{t:Ty}{l:List (den t)}{x:A}(h:x.isSub=false):(x.frz r t l).isSub=false:=by
 cases x with
 | one y=>exact aGh h
 | agg cs=>
  simp only[A.isSub,A.frz,bXg,bWr]at h ⊢
  rintro _ ⟨u,hu,rfl⟩
  rw[aGh (by simpa using h u hu)];simp
theorem S.frz_isSub{r:Nat}{t:Ty}{l:List (den t)}{x:S}(h:x.isSub=false):(x.frz r t l).isSub=false:=by
 cases x with
 | val y=>exact A.frz_isSub h
 | tup xs=>
  simp only[S.isSub,S.frz,bXg,bWr]at h ⊢
  rintro _ ⟨u,hu,rfl⟩
  rw[A.frz_isSub (by simpa using h u hu)];simp
 | un=>rfl
theorem O.frz_isSub{r:Nat}{t:Ty}{l:List (den t)}{x:O}(h:x.isSub=false):(x.frz r t l).isSub=false:=by
 cases x with
 | box cs=>
  simp only[O.isSub,O.frz,bXg,bWr]at h ⊢
  rintro _ ⟨u,hu,rfl⟩
  rw[aGh (by simpa using h u hu)];simp
 | row _ _ _ _ _=>rfl
 | win _ _ _=>rfl
theorem aP9(h:f.subFree)(r:Nat):(f.frzRow r).subFree:=by
 cases hr:f.obj r with
 | none=>unfold F.frzRow;rw[hr];exact h
 | some x=>
  cases x with
  | row e k t l deep=>
   have hf:=zL hr;refine⟨λs n x hm=> ?_,λo n x hm=> ?_⟩
   .obtain⟨m,y,hm',rfl⟩:=hf.fr s n x hm;exact S.frz_isSub (h.1 _ _ _ hm')
   .obtain⟨_,m,y,hm',rfl⟩:=hf.ob o n x hm;exact O.frz_isSub (h.2 _ _ _ hm')
  | box _=>unfold F.frzRow;rw[hr];exact h
  | win _ _ _=>unfold F.frzRow;rw[hr];exact h
theorem uH(h:f.subFree)(ids:List Nat):(f.frzAll ids).subFree:=by
 induction ids generalizing f with
 | nil=>exact h
 | cons r rs ih=>exact ih (aP9 h r)
theorem bC9{r o n:Nat}{x:O}(h:(o,n,x)∈(f.frzRow r).ob):∃m y,(o,m,y)∈f.ob:=by
 cases hr:f.obj r with
 | none=>unfold F.frzRow at h;rw[hr]at h;exact⟨n,x,h⟩
 | some z=>
  cases z with
  | row e k t l deep=>obtain⟨_,m,y,hy,_⟩:=(zL hr).ob o n x h;exact⟨m,y,hy⟩
  | box _=>unfold F.frzRow at h;rw[hr]at h;exact⟨n,x,h⟩
  | win _ _ _=>unfold F.frzRow at h;rw[hr]at h;exact⟨n,x,h⟩
theorem bEd{ids:List Nat}{o n:Nat}{x:O}(h:(o,n,x)∈(f.frzAll ids).ob):∃m y,(o,m,y)∈f.ob:=by
 induction ids generalizing f with
 | nil=>exact⟨n,x,h⟩
 | cons r rs ih=>obtain⟨m,y,hy⟩:=ih (f:=f.frzRow r) h;exact bC9 hy
theorem aYv{r b:Nat}(h:live c ow (f.frzRow r).ob b):live c ow f.ob b:=by
 cases hr:f.obj r with
 | none=>unfold F.frzRow at h;rw[hr]at h;exact h
 | some z=>
  cases z with
  | row e k t l deep=>exact (zL hr).live h
  | box _=>unfold F.frzRow at h;rw[hr]at h;exact h
  | win _ _ _=>unfold F.frzRow at h;rw[hr]at h;exact h
theorem aLs{ids:List Nat}{b:Nat}:live c ow (f.frzAll ids).ob b->live c ow f.ob b:=by
 induction ids generalizing f with
 | nil=>exact id
 | cons r rs ih=>exact λh=>aYv (ih (f:=f.frzRow r) h)
theorem aO0(h:aK M src c ow f a w){o n:Nat}{x:O}(hm:(o,n,x)∈f.ob):f.obj o=some x:=by
 unfold F.obj;cases hf:f.ob.find? λe=>e.1==o with
 | none=>have :=List.find?_eq_none.1 hf _ hm;simp at this
 | some p=>
  obtain⟨o',n',y⟩:=p;have h1:=bYn hf;have h2:=bY2 hf;simp at h2;subst h2;rw[h.uniq _ _ _ _ _ h1 hm];rfl
theorem aNk(h:aK M src c ow f a w)(hsrc:∀b,M b->src b){ids:List Nat}{r:Nat}(hr:r∈ids){n e k:Nat}{t:Ty}{l:List (den t)}{deep:Bool}(hm:(r,n,.row e k t l deep)∈f.ob):
  (∀b,(c.rv r).ownBlock=some b->okB src c ow (f.frzAll ids).ob b)/\ ∀n x,(r,n,x)∉(f.frzAll ids).ob:=by
 induction ids generalizing f n with
 | nil=>cases hr
 | cons r1 rs ih=>
  have h1:=h.frzRow hsrc r1
  by_cases he:r=r1
  .subst he;have hobj:=aO0 h hm;have hfz:=zL hobj;have hf:=h.frz hsrc hm hfz;refine⟨λg hg=> ?_,λn x hx=> ?_⟩
   .have :=hf.2 g hg;exact⟨this.1,λhl=>this.2 (aLs (f:=f.frzRow r) (ids:=rs) hl)⟩
   .obtain⟨m,y,hy⟩:=bEd (f:=f.frzRow r) (ids:=rs) hx;exact (hfz.ob _ _ _ hy).1 rfl
  .have hr':r∈rs:=(bWm.1 hr).resolve_left he;have hx:∃m,(r,m,.row e k t l deep)∈(f.frzRow r1).ob:=by
    unfold F.frzRow;split
    .rename_i e1 k1 t1 l1 deep1 hrow;refine⟨n,?_⟩;simp only[bWr,bWy];exact⟨(r,n,.row e k t l deep),⟨hm,by simpa using he⟩,by simp[O.names]⟩
    .exact⟨n,hm⟩
   obtain⟨m,hm'⟩:=hx;exact ih h1 hr' hm'
theorem bC1{d b:Nat}(h:live c ow (f.scrub d).ob b):live c ow f.ob b:=by
 obtain⟨o,n,x,hm,hx⟩:=h;obtain⟨_,m,y,hy,rfl⟩:=dV hm;refine⟨o,m,y,hy,?_⟩;cases y<;>exact hx
theorem bPe{c':Cx}{d:Nat}(hf:∀o n x,(o,n,x)∈f.ob->o≠d)(k:c.but c' d):okB src c' ow f.ob=okB src c ow f.ob:=by
 have hblk:∀o n x,(o,n,x)∈f.ob-> ∀b,x.blk c' ow o b↔x.blk c ow o b:=by
  intro o n x hm b;have hne:=hf o n x hm;cases x with
  | box cs=>simp[O.blk,k.loc o hne]
  | row e kk t l deep=>simp[O.blk,k.rv o hne]
  | win _ _ _=>exact Iff.rfl
 funext b;apply propext;constructor
 .rintro⟨h1,h2⟩
  exact⟨h1,λ⟨o,n,x,hm,hx⟩=>h2 ⟨o,n,x,hm,(hblk o n x hm b).2 hx⟩⟩
 .rintro⟨h1,h2⟩
  exact⟨h1,λ⟨o,n,x,hm,hx⟩=>h2 ⟨o,n,x,hm,(hblk o n x hm b).1 hx⟩⟩
theorem aQ.scrub{vs:List Value}{cs:List C}(h:aQ (aM c ow w ok) vs cs)(hrv:∀r,∃ad n k,c.rv r= .slice ad n k)(d:Nat):aQ (aM c ow w ok) vs (cs.map (pS d)):=h.map_right λu x hr=>by
 unfold pS;split
 .exact aF8 hrv hr
 .exact hr
theorem Ext.add(f:F)(d:Nat)(x:O):Ext f (f.add d x):=by
 refine (Ext.scrub f d).trans ⟨bXi _,λ_ _ _ h _=>h,λo n y hm hn=> ?_⟩;rcases bWm.1 hm with he | hm
 .injection he with _ he;injection he with e _;simp[F.scrub]at hn e;omega
 .exact hm
theorem Ext.newOb(f:F)(d:Nat)(x:O)(y:C):Ext f (f.newOb d x y):=(Ext.add f d x).trans (Ext.put _ _ _)
theorem aJ8(h:aK M src c ow f a w)(hsf:f.subFree){d:Nat}(hd:d<a.tmps.size){vs:List Value}{cs:List C}(ty:TypeId)(hv:aQ (aM c ow w (okB src c ow f.ob)) vs cs)(hcs:∀x∈cs,x.isSub=false)(hM:M w.heap.size):
  ∃ow',aK M src (c.setLoc d w.heap.size) ow' (f.newOb d (.box (cs.map (pS d))) (.ptr d 0)) (a.put (some d) (.pointer (some ⟨w.heap.size,0,none⟩))) (w.alloc (.cells vs.toArray ty (0,0))):=by
 have h1:=h.scrub d;have hf:=bBc f d;have h2:=h1.recx hf (c.but_loc d w.heap.size) h.rvs;have hloc:(c.setLoc d w.heap.size).loc d=w.heap.size:=by simp[Cx.setLoc]
 have hsz:(w.alloc (.cells vs.toArray ty (0,0))).heap.size=w.heap.size+1:=by simp
 have hblk:∀b,b<w.heap.size->(w.alloc (.cells vs.toArray ty (0,0))).heap[b]? =w.heap[b]? :=λb hb=>Below.heap_alloc _ _ _ hb
 let ow':Nat->Option Nat:=λb=>if b=w.heap.size then some d else ow b
 have ho:∀b,b<w.heap.size->ow' b=ow b:=λb hb=>by simp only[ow'];rw[zS (by omega)]
 have hokeq:okB src (c.setLoc d w.heap.size) ow (f.scrub d).ob=okB src c ow (f.scrub d).ob:=bPe (λo n x hm=>(hf.2 o n x hm).1) (c.but_loc d w.heap.size);have h3:=h2.add (aTo hsf d) (w':=w.alloc (.cells vs.toArray ty (0,0))) (ow':=ow') (d:=d) (m:=(f.scrub d).ctr) (n':=(f.scrub d).ctr+1) (x:= .box (cs.map (pS d))) (λo n y hy=>(hf.2 o n y hy).1) (by omega) hblk ho (λb hb=>by have hb:(c.setLoc d w.heap.size).loc d=b:=hb;omega) ?_
 .exact⟨ow',h3.put (d:=d) (v:= .pointer (some ⟨w.heap.size,0,none⟩)) hd (by simp[gQ,cK,aM,Cx.setLoc])⟩
 .refine⟨by rw[hloc];exact hM,by rw[hloc];simp[ow'],vs,ty,by rw[hloc];exact heap_alloc_new w _,?_⟩;have hv1:=hv.scrub h.rvs d;refine hv1.mono λu x hx hr=> ?_
  have hns:x.isSub=false:=by obtain⟨y,hy,rfl⟩:=bWr.1 hx;exact C.isSub_scrub (hcs y hy)
  have hnm:x.names d=false:=by obtain⟨y,hy,rfl⟩:=bWr.1 hx;exact C.names_scrub d y
  refine (hr.but hnm (c.but_loc d w.heap.size)).keep hns ⟨by omega,λb hb _=>hblk b hb,λb hb hok=>⟨hok.1,λhl=> ?_⟩⟩;obtain⟨o,n,y,hy,hyb⟩:=hl;rcases bWm.1 hy with he | hy
  .injection he with e1 he;injection he with _ e2;subst e1 e2;have hyb:(c.setLoc o w.heap.size).loc o=b:=hyb;omega
  .refine hok.2 (bC1 (d:=d) ⟨o,n,y,hy,?_⟩);have hne:=(hf.2 o n y hy).1;cases y with
   | box _=>simpa [O.blk,Cx.setLoc,hne] using hyb
   | row _ _ _ _ _=>exact hyb
   | win _ _ _=>show ow b=some o;rw[<- ho b hb];exact hyb
theorem aPd{P:Program}{t:TypeId}{v:Value}(w:World):(newVar t v).run P w= .ok ⟨w.heap.size,0,none⟩ (w.alloc (.cells v.cells t (0,0))):=by
 simp[newVar,newRow]
end
end Go.V
set_option linter.unusedVariables false
set_option linter.unusedSectionVars false
namespace Go.V
open Go.Ab Go.RowKit
section
variable {P:Program} {w:World} {a:Act} {o:Oper} {B:Nat}
theorem gG:∀{l:List Nat},pC l=true->l.Nodup
 | [],_=>bZj
 | x::xs,h=>by
  simp only[pC,bWj,Bool.not_eq_true']at h;exact bX9.2 ⟨by simpa using h.1,gG h.2⟩
theorem aFo{vs:List Value}{ts:List T}(h:RepL w vs ts []):∀n,RepL w (bXy n vs).flatten (bXy n ts).flatten []
 | 0=> .nil
 | n+1=>by
  rw[List.replicate_succ,List.replicate_succ,bYg,bYg];exact h.append (aFo h n)
theorem aLj(z:Array Value)(hz:0<z.size):∀n,(madeCells z (n * z.size)).toList=(bXy n z.toList).flatten:=by
 intro n;apply List.ext_getElem?;intro j
 induction n generalizing j with
 | zero=>simp[madeCells]
 | succ n ih=>
  rw[List.replicate_succ',List.flatten_append,bYg,List.flatten_nil,bXh];have hlen:(bXy n z.toList).flatten.length=n * z.size:=by simp[List.length_flatten]
  by_cases hj:j<n * z.size
  .rw[List.getElem?_append_left (by omega),<- ih j];simp only[madeCells,bY5,Array.toList_range,bXx];rw[List.getElem?_range hj,List.getElem?_range (by rw[bXk];omega)]
  .rw[List.getElem?_append_right (by omega),hlen];simp only[madeCells,bY5,Array.toList_range,bXx]
   by_cases hj2:j<(n+1) * z.size
   .rw[List.getElem?_range hj2];have hlt:j - n * z.size<z.size:=by rw[bXk]at hj2;omega
    have hmod:j % z.size=j - n * z.size:=by
     have :j=(j - n * z.size)+z.size * n:=by rw[Nat.mul_comm z.size n];omega
     rw[this,Nat.add_mul_mod_self_left,Nat.mod_eq_of_lt (by omega),<- this]
    simp[hmod,hlt]
   .rw[List.getElem?_eq_none (by simpa using hj2)];have : ¬ j - n * z.size<z.size:=by rw[bXk]at hj2;omega
    simp[this]
theorem aLr{e k n:Nat}(cells:List Value)(hB:B<=w.heap.size)(hn:n<=maxLen)(hl:cells.length=n * k):
  (w.alloc (.cells cells.toArray e (0,0))).ownsRow B e k (.slice (some ⟨w.heap.size,0,none⟩) n n) n cells:=
 ⟨hl,.inr ⟨w.heap.size,n,cells.toArray,rfl,hB,heap_alloc_new w _,bWx _,hn,by simpa using hl,by simpa using bZu (bYh hl)⟩⟩
theorem aVo(size:Nat):∀(vs:List Value) (j:Nat) (cells:Array Value),(∀v∈vs,v.cells.size=size)->(j+vs.length) * size<=cells.size->
  Instr.fill (λi=>some (i * size,size)) cells ((List.range' j vs.length).zip vs)=some (cells.toList.take (j * size)++(vs.map λv=>v.cells.toList).flatten++cells.toList.drop ((j+vs.length) * size)).toArray
 | [],j,cells,_,_=>by simp[Instr.fill]
 | v::vs,j,cells,hv,hle=>by
  have hsz:v.cells.size=size:=hv v (bWt ..);have hle':(j+1+vs.length) * size<=cells.size:=by rw[show j+1+vs.length=j+(v::vs).length by simp;omega];exact hle
  have h1:j * size+size<=cells.size:=by
   have :(j+1) * size<=(j+1+vs.length) * size:=bX1 _ (by omega);rw[bXk]at this;omega
  rw[bXp,List.range'_succ,List.zip_cons_cons];unfold Instr.fill;simp only[hsz,ne_eq,not_true_eq_false,decide_false,Bool.false_or];have hif: ¬ (j * size+size>cells.size):=by omega
  simp only[gt_iff_lt,zR];rw[zS (by omega)];have hfold:(v.cells.zipIdx.foldl (λcs (x:Value×Nat)=>cs.setIfInBounds (j * size+x.2) x.1) cells)=(cells.toList.take (j * size)++v.cells.toList++cells.toList.drop (j * size+size)).toArray:=by
   rw[<- Array.foldl_toList,Array.toList_zipIdx];have :=aJd (j * size) v.cells.toList 0 cells (by simpa [hsz] using h1);simpa [hsz] using this
  have hfold':(v.cells.zipIdx.foldl (λcs x=>match x with | (c,j_1)=>cs.setIfInBounds (j * size+j_1) c) cells)=(cells.toList.take (j * size)++v.cells.toList++cells.toList.drop (j * size+size)).toArray:=hfold;rw[hfold'];have hlen1:(cells.toList.take (j * size)++v.cells.toList).length=(j+1) * size:=by
   rw[bW9,bXw,bZv,bZv,hsz,bXk];omega
  rw[aVo size vs (j+1) _ (λu hu=>hv u (bWo _ hu)) (by
   simp only[List.size_toArray,bW9,bXw,bYy,bZv,hsz];omega)]
  congr 2;have e1:(cells.toList.take (j * size)++v.cells.toList++cells.toList.drop (j * size+size)).take ((j+1) * size)=cells.toList.take (j * size)++v.cells.toList:=by
   rw[<- hlen1,bZf]
  have e2:(cells.toList.take (j * size)++v.cells.toList++cells.toList.drop (j * size+size)).drop ((j+1+vs.length) * size)=cells.toList.drop ((j+(vs.length+1)) * size):=by
   rw[List.drop_append,bZe (by rw[hlen1];exact bX1 _ (by omega)),bXc,bY0,hlen1];congr 1;have :(j+1+vs.length) * size=(j+1) * size+vs.length * size:=by rw[Nat.add_mul]
   have :(j+(vs.length+1)) * size=j * size+size+vs.length * size:=by rw[Nat.add_mul,bXk];omega
   have :(j+1) * size=j * size+size:=bXk _ _;omega
  simp only[e1,e2];simp
theorem vP{k:Nat}:∀{es:List (List T)} {i:Nat} {el':List T},(∀x∈es,x.length=k)->i<es.length->el'.length=k->(es.set i el').flatten=sp es.flatten (i * k) el'
 | [],i,el',_,hi,_=>by simp at hi
 | e::es,0,el',hk,_,hl=>by
  have he:e.length=k:=hk e (bWt ..);simp[sp,hl,<- he]
 | e::es,i+1,el',hk,hi,hl=>by
  have he:e.length=k:=hk e (bWt ..);have ih:=vP (es:=es) (i:=i) (el':=el') (λx hx=>hk x (bWo _ hx)) (by simpa using hi) hl;rw[List.set_cons_succ,bYg,ih,bYg];unfold sp;have h1:(i+1) * k=e.length+i * k:=by rw[bXk,he];omega
  rw[h1,List.take_length_add_append,bYe,List.drop_length_add_append];simp
theorem tB{α:Type}{L cs:List α}{off:Nat}(h:off+cs.length<=L.length):(sp L off cs).length=L.length:=by
 unfold sp;simp;omega
theorem aNy{L el ts:List T}{p k off:Nat}(hel:el=(L.drop p).take k)(hp:p+k<=L.length)(ho:off+ts.length<=k):sp L p (sp el off ts)=sp L (p+off) ts:=by
 have hel':el.length=k:=by rw[hel];simp;omega
 have hsl:(sp el off ts).length=k:=by rw[tB (by omega)];exact hel'
 unfold sp at hsl ⊢;rw[hsl];have e1:el.take off=(L.drop p).take off:=by rw[hel,List.take_take];congr 1;omega
 have e2:el.drop (off+ts.length)=((L.drop p).drop (off+ts.length)).take (k - (off+ts.length)):=by rw[hel,List.drop_take]
 rw[e1,e2];have e3:L.take (p+off)=L.take p++(L.drop p).take off:=List.take_add;rw[e3];have e4:L.drop (p+off+ts.length)=((L.drop p).drop (off+ts.length)).take (k - (off+ts.length))++L.drop (p+k):=by
  rw[bY0];have :L.drop (p+k)=(L.drop (p+(off+ts.length))).drop (k - (off+ts.length)):=by
   rw[bY0];congr 1;omega
  rw[this,bX0];congr 1;omega
 rw[e4];simp
theorem aPx{v:Value}{t:T}{F:List Nat}(h:Rep w v t F):v.oneCell'=true:=by
 cases h with
 | lit hp=>cases v<;>simp[plain]at hp<;>rfl
 | nil hc=>rfl
 | cons hn h0 hk0 hk hc hm hx hcell hr=>rfl
theorem aW9{vs:List Value}{ts:List T}{F:List Nat}(h:RepL w vs ts F):∀u∈vs,u.oneCell'=true:=by
 induction vs generalizing ts F with
 | nil=>simp
 | cons v vs ih=>
  cases h with
  | cons h hs=>
   intro u hu;rcases bWm.1 hu with rfl | hu
   .exact aPx h
   .exact ih hs u hu
theorem aYx{t ty e:TypeId}{i:TypeInfo}{k n:Nat}(ht:P.underlying t=some (.slice e))(hi:P.info? e=some i){v:Value}{xs:List Value}(hown:w.ownsRow B e k v n xs)(c:Nat):(Builtin.append_ #[t,t] ty #[v,.slice none 0 c]).run P w= .ok v w:=by
 rcases hown.2 with ⟨rfl,rfl⟩ | ⟨g,cap,cur,rfl,_,_,hnc,_⟩
 .simp[Builtin.append_,run_underlying ht,sizeOf,typeInfo,hi,Builtin.lenOf,Builtin.firstCells]
 .simp[Builtin.append_,run_underlying ht,sizeOf,typeInfo,hi,Builtin.lenOf,Builtin.firstCells,hnc,storeCells]
theorem aZ6{t ty e:TypeId}{i:TypeInfo}{z:Value}{n:Nat}(ht:P.underlying t=some (.slice e))(hi:P.info? e=some i)(hz:i.zero=some z)(hzs:z.cells.size=i.size)(h0:0<i.size){v u:Value}{xs:List Value}{es:List (List T)}{F:List Nat}
  (hown:w.ownsRow B e i.size v n xs) (hu:Rep w u (.sl es) F) (hk:∀x∈es,x.length=i.size) (hle:(n+es.length) * (i.bytes+1)<=140737488355328) (hB:B<=w.heap.size):
  ∃v' w' news G,(Builtin.append_ #[t,t] ty #[v,u]).run P w= .ok v' w'/\w'.ownsRow B e i.size v' (n+es.length) (xs++news)/\w.grownBy w' v.ownBlock/\(v'.ownBlock=v.ownBlock\/v'.ownBlock=some w.heap.size)/\RepL w news es.flatten G/\(∀b∈G,b∈F)/\(F.Nodup->G.Nodup):=by
 have hle1:(n+es.length) * i.bytes<=140737488355328:=bWk (Nat.mul_le_mul_left _ (bXi _)) hle;have hle2:n+es.length<=maxLen:=by
  have :n+es.length<=(n+es.length) * (i.bytes+1):=Nat.le_mul_of_pos_right _ (Nat.succ_pos _);simp only[maxLen];omega
 cases hu with
 | @nil A cc hc=>
  cases A with
  | none=>exact⟨v,w,[],[],aYx ht hi hown cc,by simpa using hown,World.grownBy.refl w _,.inl rfl,by simpa using .nil,by simp,λ_=>bZj⟩
  | some ad=>
   obtain⟨v',w',g1,g2,g3,_,g5⟩:=run_append_own_at (P:=P) w B t ty e i z i.size i.bytes ht hi hz rfl rfl hzs h0 v n xs hown ad 0 cc [] (by simp) (by simp) (by simp) (by simpa using hle2) (by simpa using hle1) hB;exact⟨v',w',[],[],g1,g2,g3,g5,by simpa using .nil,by simp,λ_=>bZj⟩
 | @cons b off m cc k es news F hn hp hk0 hk' hc hm hx hcell hr=>
  subst hn;have hkk:k=i.size:=by
   obtain⟨x,hx⟩:=bZ7 hp;rw[<- hk' x hx,hk x hx]
  subst hkk;obtain⟨v',w',g1,g2,g3,_,g5⟩:=run_append_own_at (P:=P) w B t ty e i z i.size i.bytes ht hi hz rfl rfl hzs h0 v n xs hown ⟨b,off,none⟩ es.length cc news hx (λj u hu=>by rw[aA5];exact hcell j u hu) (aW9 hr) hle2 hle1 hB;exact⟨v',w',news,F,g1,g2,g3,g5,hr,λb hb=>bWo _ hb,λh=>(bX9.1 h).2⟩
def _root_.Go.Ab.T.isSl:T->Bool
 | .sl _=>true
 | _=>false
theorem _root_.Go.Ab.Rep.noSl{t:T}{v:Value}{F:List Nat}(h:Rep w v t F)(ht:t.isSl=false):F=[]:=by
 cases h with
 | lit hp=>rfl
 | nil hc=>cases ht
 | cons hn h0 hk0 hk hc hm hx hcell hr=>cases ht
theorem _root_.Go.Ab.RepL.noSl{ts:List T}{vs:List Value}{F:List Nat}(h:RepL w vs ts F)(ht:ts.any T.isSl=false):F=[]:=by
 induction vs generalizing ts F with
 | nil=>cases h;rfl
 | cons v vs ih=>
  cases h with
  | cons h hs=>
   simp only[bZi,bYo]at ht;rw[h.noSl ht.1,ih hs ht.2];rfl
theorem bH0{es:List (List T)}(h:∀x∈es,x.any T.isSl=false):es.flatten.any T.isSl=false:=by
 rw[bXg];intro t ht;obtain⟨x,hx,hm⟩:=List.mem_flatten.1 ht;have :=bXg.1 (h x hx) t hm;exact this
theorem _root_.Go.Ab.RepL.sp{xs us:List Value}{ts ts':List T}{F G:List Nat}(h:RepL w xs ts F)(h':RepL w us ts' G)(off:Nat):∃F1 F3,RepL w (sp xs off us) (sp ts off ts') (F1++G++F3)/\(∀b∈F1++F3,b∈F)/\(F.Nodup->(F1++F3).Nodup):=by
 unfold Go.V.sp;rw[h'.length];obtain⟨F1,F2,F3,a1,a2,a3,a4⟩:=h.parts off ts'.length;refine⟨F1,F3,(a1.append h').append a3,?_,?_⟩
 .intro b hb;rw[a4];rcases bWq.1 hb with hb | hb
  .exact bXn _ hb
  .exact bXq _ (bXq _ hb)
 .intro hnd;rw[a4]at hnd;obtain⟨n1,n2,n3⟩:=bXr.1 hnd;exact bXr.2 ⟨n1,(bXr.1 n2).2.1,λx hx y hy=>n3 x hx y (bXq _ hy)⟩
end
end Go.V
set_option linter.unusedVariables false
set_option linter.unusedSectionVars false
namespace Go.V
open Go.Ab Go.RowKit
section
variable {M src:Nat->Prop} {c:Cx} {ow:Nat->Option Nat} {f:F} {a:Act} {w:World} {P:Program} {o:Oper} {ok:Nat->Prop}
theorem O.blk_but{c':Cx}{d:Nat}(k:c.but c' d){o b:Nat}(hne:o≠d)(x:O):x.blk c' ow o b↔x.blk c ow o b:=by
 cases x with
 | box cs=>simp[O.blk,k.loc o hne]
 | row e kk t l deep=>simp[O.blk,k.rv o hne]
 | win _ _ _=>exact Iff.rfl
theorem qN.but{c':Cx}{d o:Nat}{x:O}(h:qN M c ow w ok o x)(hne:o≠d)(hn:x.names d=false)(k:c.but c' d):qN M c' ow w ok o x:=by
 cases x with
 | box cs=>
  obtain⟨b1,b2,vs,ty,b3,b4⟩:=h;simp only[O.names,bXg]at hn;exact⟨by rw[k.loc o hne];exact b1,by rw[k.loc o hne];exact b2,vs,ty,by rw[k.loc o hne];exact b3,b4.mono λu t ht hr=>hr.but (by simpa using hn t ht) k⟩
 | row e kk t l deep=>
  obtain⟨r0,r1,r2,xs,G,r3,r4,r5,r6⟩:=h;exact⟨r0,r1,by rw[k.rv o hne];exact r2,xs,G,by rw[k.rv o hne];exact r3,r4,r5,by rw[k.rv o hne];exact r6⟩
 | win kk t l=>
  obtain⟨r0,r1,G,r2,r3,r4⟩:=h;exact⟨r0,r1,G,by rw[k.rv o hne];exact r2,r3,r4⟩
theorem qN.le{o:Nat}{x y:O}(h:qN M c ow w ok o y)(hrv:∀r,∃ad n k,c.rv r= .slice ad n k)(hle:x.le y):qN M c ow w ok o x:=by
 cases hle with
 | box hall=>
  obtain⟨b1,b2,vs,ty,b3,b4⟩:=h;exact⟨b1,b2,vs,ty,b3,b4.comp hall λu t t' hr ht=>by
   rcases ht with rfl | rfl
   .exact hr
   .exact aF8 hrv hr⟩
 | row hd=>
  obtain⟨r0,r1,r2,xs,G,r3,r4,r5,r6⟩:=h;exact⟨r0,r1,r2,xs,G,r3,r4,r5,λhd'=>r6 (hd hd')⟩
 | win=>exact h
theorem O.scrub_blk(d o b:Nat)(y:O):(y.scrub d).blk c ow o b↔y.blk c ow o b:=by cases y<;>exact Iff.rfl
theorem O.scrub_isSub{d:Nat}{y:O}(h:y.isSub=false):(y.scrub d).isSub=false:=by
 cases y with
 | box cs=>
  simp only[O.isSub,O.scrub,bXg,bWr]at h ⊢
  rintro t ⟨u,hu,rfl⟩
  have :=C.isSub_scrub (d:=d) (by simpa using h u hu);simp[this]
 | row _ _ _ _ _=>rfl
 | win _ _ _=>rfl
theorem aK.putRow(h:aK M src c ow f a w)(hsf:f.subFree){w':World}{d:Nat}{was:Option Nat}(hwas:∀b,was=some b->ow b=some d/\live c ow f.ob b){v:Value}{e k:Nat}{t:Ty}{l:List (den t)}{xs:List Value}{G:List Nat}{deep:Bool}
  (hs:w.heap.size<=w'.heap.size) (hb:∀b,b<w.heap.size->some b≠was->w'.heap[b]? =w.heap[b]?) (hv:v.ownBlock=none\/v.ownBlock=was\/v.ownBlock=some w.heap.size) (hM:∀b,v.ownBlock=some b->M b) (hown:w'.ownsRow 0 e k v l.length xs) (hk0:0<k) (hk:tyLen t=k)
  (hrep:RepL w' xs (l.map (cells t)).flatten G) (hG:∀b∈G,b<w.heap.size/\okB src c ow f.ob b) (hdeep:deep=true->G.Nodup/\ ∀b∈G,M b/\Unf w' b/\ ∃r,ow b=some r/\(r=d\/ ∀n x,(r,n,x)∉f.ob)):
  ∃ow',aK M src (c.setRv d v) ow' (f.add d (.row e k t l deep)) a w':=by
 obtain⟨ad,cap,hve,_⟩:=aE2 hown;have hrvs:∀q,∃ad n k,(c.setRv d v).rv q= .slice ad n k:=by
  intro q;simp only[Cx.setRv];split
  .exact⟨_,_,_,hve⟩
  .exact h.rvs q
 have kb:=c.but_rv d v;have hrv:(c.setRv d v).rv d=v:=by simp[Cx.setRv]
 let ow':Nat->Option Nat:=λb=>if v.ownBlock=some b\/(deep=true/\b∈G) then some d else ow b
 have how:∀b o,b<w.heap.size->(∃n x,(o,n,x)∈f.ob)->o≠d->(ow' b=some o↔ow b=some o):=by
  intro b o hlt ⟨n,x,hm⟩ hne;show (if v.ownBlock=some b\/(deep=true/\b∈G) then some d else ow b)=some o↔_;split
  .rename_i hc;constructor
   .intro e;injection e with e;exact absurd e.symm hne
   .intro e;exfalso;rcases hc with hc | ⟨hd,hbG⟩
    .rcases hv with hv | hv | hv
     .rw[hv]at hc;cases hc
     .rw[hv]at hc;rw[(hwas b hc).1]at e;injection e with e;exact hne e.symm
     .rw[hv]at hc;injection hc with hc;omega
    .obtain⟨_,_,r,q1,q2⟩:=(hdeep hd).2 b hbG;rw[q1]at e;injection e with e;subst e;rcases q2 with q2 | q2
     .exact hne q2
     .exact q2 n x hm
  .exact Iff.rfl
 have hnw:∀b,okB src c ow f.ob b->some b≠was:=λb hok e=>hok.2 (hwas b e.symm).2
 have hlv:∀b,b<w.heap.size->live (c.setRv d v) ow' (f.add d (.row e k t l deep)).ob b->live c ow f.ob b:=by
  rintro b hlt ⟨o,n,x,hm,hx⟩
  rcases bWm.1 hm with he | hm
  .injection he with e1 he;injection he with _ e2;subst e1 e2;have hx:((c.setRv o v).rv o).ownBlock=some b:=hx;rw[hrv]at hx;rcases hv with hv | hv | hv
   .rw[hv]at hx;cases hx
   .rw[hv]at hx;exact (hwas b hx).2
   .rw[hv]at hx;injection hx with hx;omega
  .obtain⟨hne,m,y,hy,rfl⟩:=dV hm;refine⟨o,m,y,hy,?_⟩;rw[O.scrub_blk]at hx;cases y with
   | box _=>exact (O.blk_but kb hne (.box _)).1 hx
   | row _ _ _ _ _=>exact (O.blk_but (ow:=ow') kb hne _).1 hx
   | win _ _ _=>exact (how b o hlt ⟨m,_,hy⟩ hne).1 hx
 have kp:aA2 w w' (okB src c ow f.ob) (okB src (c.setRv d v) ow' (f.add d (.row e k t l deep)).ob):=⟨hs,λb hlt hok=>hb b hlt (hnw b hok),λb hlt hok=>⟨hok.1,λhl=>hok.2 (hlv b hlt hl)⟩⟩
 refine⟨ow',h.defers,λs n x hm=> ?_,λo n x hm=> ?_,λo n x m y hx hy=> ?_,hrvs⟩
 .have hm1:=(bWy.1 hm).1;have hm2:x.names d=false:=by simpa using (bWy.1 hm).2
  obtain⟨u,hu,h1⟩:=h.fr s n x hm1;exact⟨u,hu,(h1.but hm2 kb).keep (hsf.1 s n x hm1) kp⟩
 .rcases bWm.1 hm with he | hm
  .injection he with e1 he;injection he with _ e2;subst e1 e2;refine⟨hk0,hk,λg hg=> ?_,xs,G,by rw[hrv];exact hown,hrep,λb hbG=>kp.good b (hG b hbG).1 (hG b hbG).2,λhd=> ?_⟩
   .rw[hrv]at hg;exact⟨hM g hg,by simp[ow',hg]⟩
   .obtain⟨hnd,hall⟩:=hdeep hd;refine⟨hnd,λb hbG=> ?_⟩;obtain⟨q1,q2,_⟩:=hall b hbG;refine⟨q1,by simp[ow',hd,hbG],?_,q2⟩;rw[hrv];intro hvb;obtain⟨hlt,hok⟩:=hG b hbG;rcases hv with hv | hv | hv
    .rw[hv]at hvb;cases hvb
    .rw[hv]at hvb;exact hnw b hok hvb.symm
    .rw[hv]at hvb;injection hvb with hvb;omega
  .obtain⟨hne,m,y,hy,rfl⟩:=dV hm;have h1:=((h.ob o m y hy).le h.rvs (O.scrub_le d y)).but hne (O.scrub_names y d) kb;refine h1.keep (O.scrub_isSub (hsf.2 o m y hy)) kp (λb hlt how' hbb=>hb b hlt λe=> ?_) (λb hlt how'=>(how b o hlt ⟨m,y,hy⟩ hne).2 how');rw[(hwas b e.symm).1]at how';injection how' with how';exact hne how'.symm
 .rcases bWm.1 hx with he | hx1
  .injection he with e1 e2;injection e2 with _ e2;rcases bWm.1 hy with he' | hy1
   .injection he' with e3 e4;injection e4 with _ e4;rw[e2,e4]
   .exact absurd e1 (dV hy1).1
  .rcases bWm.1 hy with he' | hy1
   .injection he' with e3 e4;exact absurd e3 (dV hx1).1
   .obtain⟨_,_,x',hx',rfl⟩:=dV hx1;obtain⟨_,_,y',hy',rfl⟩:=dV hy1;rw[h.uniq _ _ _ _ _ hx' hy']
def vX(M:Nat->Prop)(c:Cx)(ow:Nat->Option Nat)(w:World)(ok:Nat->Prop)(ids:List Nat)(dp:Bool)(G:List Nat):Prop:=
 (∀b∈G,ok b\/ ∃r∈ids,(c.rv r).ownBlock=some b)/\(dp=true->G.Nodup/\ ∀b∈G,M b/\Unf w b/\ ∃r∈ids,ow b=some r)
theorem vX.append{i1 i2:List Nat}{d1 d2:Bool}{G H:List Nat}(h1:vX M c ow w ok i1 d1 G)(h2:vX M c ow w ok i2 d2 H)(hn:(i1++i2).Nodup):vX M c ow w ok (i1++i2) (d1&&d2) (G++H):=by
 refine⟨λb hb=> ?_,λhd=> ?_⟩
 .rcases bWq.1 hb with hb | hb
  .exact (h1.1 b hb).imp id λ⟨r,hr,he⟩=>⟨r,bXn _ hr,he⟩
  .exact (h2.1 b hb).imp id λ⟨r,hr,he⟩=>⟨r,bXq _ hr,he⟩
 .simp only[bWj]at hd;obtain⟨n1,a1⟩:=h1.2 hd.1;obtain⟨n2,a2⟩:=h2.2 hd.2;refine⟨bXr.2 ⟨n1,n2,λx hx y hy hxy=> ?_⟩,λb hb=> ?_⟩
  .subst hxy;obtain⟨_,_,r1,hr1,e1⟩:=a1 x hx;obtain⟨_,_,r2,hr2,e2⟩:=a2 x hy;rw[e1]at e2;injection e2 with e2;subst e2;exact (bXr.1 hn).2.2 r1 hr1 r1 hr2 rfl
  .rcases bWq.1 hb with hb | hb
   .obtain⟨p1,p2,r,hr,he⟩:=a1 b hb;exact⟨p1,p2,r,bXn _ hr,he⟩
   .obtain⟨p1,p2,r,hr,he⟩:=a2 b hb;exact⟨p1,p2,r,bXq _ hr,he⟩
theorem aI9(h:aK M src c ow f a w){r e k:Nat}{t:Ty}{l:List (den t)}{deep:Bool}(hr:f.obj r=some (.row e k t l deep)):∃G,Rep w (c.rv r) (dW (.sl t) l) G/\vX M c ow w (okB src c ow f.ob) [r] deep G:=by
 obtain⟨r0,r1,r2,xs,G,r3,r4,r5,r6⟩:=h.obj hr;have hkk:∀z∈l.map (cells t),z.length=k:=λz hz=>by obtain⟨y,_,rfl⟩:=bWr.1 hz;rw[cE,r1]
 obtain⟨hl,hform⟩:=r3;rcases hform with ⟨hnil,h0⟩ | ⟨g,cap,cur,hrv,hB,hh,h1,h2,h3,h4⟩
 .have :l=[]:=bYx.1 h0;subst this;rw[hnil];exact⟨[],.nil (bW3 _),by simp,λ_=>by simp⟩
 .rcases bZ0 l.length with h0 | h0
  .have :l=[]:=bYx.1 h0;subst this;rw[hrv];exact⟨[],.nil h2,by simp,λ_=>by simp⟩
  .have hob:(c.rv r).ownBlock=some g:=by simp[hrv,Value.ownBlock]
   refine⟨g::G,?_,λb hb=> ?_,λhd=> ?_⟩
   .rw[hrv];refine .cons (k:=k) (by simp) h0 r0 hkk h1 h2 hl (λj u hu=> ?_) r4;rw[bXm];rw[<- h4,bXv]at hu;split at hu
    .simp only[World.cell?,hh];simpa using hu
    .cases hu
   .rcases bWm.1 hb with rfl | hb
    .exact .inr ⟨r,bWp.2 rfl,hob⟩
    .exact .inl (r5 b hb)
   .obtain⟨n1,n2⟩:=r6 hd;refine⟨bX9.2 ⟨λhg=>(n2 g hg).2.2.1 hob,n1⟩,λb hb=> ?_⟩;rcases bWm.1 hb with rfl | hb
    .exact⟨(r2 _ hob).1,⟨cur,e,hh⟩,r,bWp.2 rfl,(r2 _ hob).2⟩
    .obtain⟨m1,m2,m3,m4⟩:=n2 b hb;exact⟨m1,m4,r,bWp.2 rfl,m2⟩
theorem bGd:∀{t:Ty} {x:den t} {v:Value} {G:List Nat},Rep w v (dW t x) G->(∀t',t≠ .sl t')->G=[]
 | .int _,_,_,_,h,_=>by cases h;rfl
 | .bool,_,_,_,h,_=>by cases h;rfl
 | .str,_,_,_,h,_=>by cases h;rfl
 | .sl t,_,_,_,h,hn=>absurd rfl (hn t)
 | .pair _ _,_,_,_,h,_=>by cases h
theorem bFi(h:aK M src c ow f a w){t:Ty}{x:C}{y:den t}{v:Value}{ids:List Nat}{dp:Bool}(hm:mvC f x=some (ids,dp))(hd:f.data t x=some y)(hv:aM c ow w (okB src c ow f.ob) v x):∃G,Rep w v (dW t y) G/\vX M c ow w (okB src c ow f.ob) ids dp G:=by
 unfold F.data at hd;split at hd
 .rename_i t' z;obtain⟨rfl,rfl⟩:=eI hd;obtain⟨G,hr,hG⟩:=hv;cases t' with
  | sl t'=>
   injection hm with hm;injection hm with e1 e2;subst e1 e2;exact⟨G,hr,λb hb=> .inl (hG b hb),λh=>by cases h⟩
  | _=>
   injection hm with hm;injection hm with e1 e2;subst e1 e2;have hG0:=bGd hr (by simp);subst hG0;exact⟨[],hr,by simp,λ_=>by simp⟩
 .split at hd
  .injection hm with hm;injection hm with e1 e2;subst e1 e2;injection hd with hd;subst hd;have hv:v= .slice none 0 0:=hv;subst hv;exact⟨[],.nil (bW3 _),by simp,λ_=>by simp⟩
  .cases hd
 .rename_i r;have hv:v=c.rv r:=hv;subst hv;simp only[mvC]at hm;split at hd
  .rename_i e k t' l deep hrow;obtain⟨rfl,rfl⟩:=eI hd;rw[hrow]at hm;injection hm with hm;injection hm with e1 e2;subst e1 e2;exact aI9 h hrow
  .rename_i k t' l hrow;rw[hrow]at hm;cases hm
  .cases hd
 .cases hm
 .cases hd
theorem bQk{x:C}{ids:List Nat}{dp:Bool}(hm:mvC f x=some (ids,dp)):∀r∈ids,∃n e k,∃(t:Ty) (l:List (den t)),∃deep,(r,n,O.row e k t l deep)∈f.ob:=by
 cases x with
 | row r=>
  simp only[mvC]at hm;split at hm
  .rename_i e k t l deep hrow;injection hm with hm;injection hm with e1 e2;subst e1 e2;obtain⟨n,hm⟩:=oC hrow;intro r' hr';rw[bWp.1 hr'];exact⟨n,e,k,t,l,deep,hm⟩
  .cases hm
 | v t y=>cases t<;>(injection hm with hm;injection hm with e1 e2;subst e1;simp)
 | nil=>injection hm with hm;injection hm with e1 e2;subst e1;simp
 | ptr _ _=>cases hm
 | ep _ _ _=>cases hm
 | rp _ _ _ _=>cases hm
 | sub _ _ _ _ _ _=>cases hm
 | ip _ _ _ _ _ _ _=>cases hm
 | clo _ _=>cases hm
 | any=>cases hm
theorem aUt:∀{cs:List C} {ids:List Nat} {dp:Bool},aE5 f cs=some (ids,dp)-> ∀r∈ids,∃n e k,∃(t:Ty) (l:List (den t)),∃deep,(r,n,O.row e k t l deep)∈f.ob:=by
 intro cs
 induction cs with
 | nil=>intro ids dp hm;injection hm with hm;injection hm with e1 e2;subst e1;simp
 | cons x xs ih=>
  intro ids dp hm;unfold aE5 at hm;split at hm
  .rename_i i1 d1 i2 d2 h1 h2;injection hm with hm;injection hm with e1 e2;subst e1;intro r hr;exact (bWq.1 hr).elim (bQk h1 r) (ih h2 r)
  .cases hm
theorem vD{α β:Type}{x:Option α}{cs r:β}{y:α}(h:x.map (λz=>(z,cs))=some (y,r)):x=some y/\cs=r:=by
 obtain⟨z,hz,he⟩:=bXd.1 h;injection he with e1 e2;subst e1 e2;exact⟨hz,rfl⟩
theorem aH1:∀{t:Ty} {us r:List C} {y:den t} (rest:List C),f.dataL t us=some (y,r)->f.dataL t (us++rest)=some (y,r++rest)
 | .int k,[],r,y,rest,h=>by cases h
 | .bool,[],r,y,rest,h=>by cases h
 | .str,[],r,y,rest,h=>by cases h
 | .sl t,[],r,y,rest,h=>by cases h
 | .int k,c::cs,r,y,rest,h=>by obtain⟨h1,rfl⟩:=vD h;show (f.data _ c).map (λz=>(z,cs++rest))=_;rw[h1];rfl
 | .bool,c::cs,r,y,rest,h=>by obtain⟨h1,rfl⟩:=vD h;show (f.data _ c).map (λz=>(z,cs++rest))=_;rw[h1];rfl
 | .str,c::cs,r,y,rest,h=>by obtain⟨h1,rfl⟩:=vD h;show (f.data _ c).map (λz=>(z,cs++rest))=_;rw[h1];rfl
 | .sl t,c::cs,r,y,rest,h=>by obtain⟨h1,rfl⟩:=vD h;show (f.data _ c).map (λz=>(z,cs++rest))=_;rw[h1];rfl
 | .pair a b,us,r,y,rest,h=>by
  simp only[F.dataL]at h ⊢;split at h
  .rename_i x cs1 h1;split at h
   .rename_i z cs2 h2;injection h with h;injection h with e1 e2;subst e1 e2;rw[aH1 rest h1];simp only;rw[aH1 rest h2]
   .cases h
  .cases h
theorem aJs:∀{t:Ty} {cs rest:List C} {y:den t},f.dataL t cs=some (y,rest)-> ∃us,cs=us++rest/\us.length=tyLen t/\f.dataL t us=some (y,[])
 | .int k,[],rest,y,h=>by cases h
 | .bool,[],rest,y,h=>by cases h
 | .str,[],rest,y,h=>by cases h
 | .sl t,[],rest,y,h=>by cases h
 | .int k,c::cs,rest,y,h=>by obtain⟨h1,rfl⟩:=vD h;exact⟨[c],rfl,rfl,by show (f.data _ c).map (λz=>(z,[]))=_;rw[h1];rfl⟩
 | .bool,c::cs,rest,y,h=>by obtain⟨h1,rfl⟩:=vD h;exact⟨[c],rfl,rfl,by show (f.data _ c).map (λz=>(z,[]))=_;rw[h1];rfl⟩
 | .str,c::cs,rest,y,h=>by obtain⟨h1,rfl⟩:=vD h;exact⟨[c],rfl,rfl,by show (f.data _ c).map (λz=>(z,[]))=_;rw[h1];rfl⟩
 | .sl t,c::cs,rest,y,h=>by obtain⟨h1,rfl⟩:=vD h;exact⟨[c],rfl,rfl,by show (f.data _ c).map (λz=>(z,[]))=_;rw[h1];rfl⟩
 | .pair a b,cs,rest,y,h=>by
  simp only[F.dataL]at h;split at h
  .rename_i x cs1 h1;split at h
   .rename_i z cs2 h2;injection h with h;injection h with e1 e2;subst e1 e2;obtain⟨u1,rfl,l1,g1⟩:=aJs h1;obtain⟨u2,rfl,l2,g2⟩:=aJs h2;refine⟨u1++u2,by simp,by simp[tyLen,l1,l2],?_⟩;simp only[F.dataL];rw[aH1 u2 g1];simp only[bXc];rw[g2]
   .cases h
  .cases h
theorem bEk{a b:Ty}{cs:List C}{y:den (.pair a b)}(h:f.dataL (.pair a b) cs=some (y,[])):∃u1 u2,cs=u1++u2/\u1.length=tyLen a/\f.dataL a u1=some (y.1,[])/\f.dataL b u2=some (y.2,[]):=by
 simp only[F.dataL]at h;split at h
 .rename_i x cs1 h1;split at h
  .rename_i z cs2 h2;injection h with h;injection h with e1 e2;subst e1 e2;obtain⟨u1,rfl,l1,g1⟩:=aJs h1;exact⟨u1,cs1,rfl,l1,g1,h2⟩
  .cases h
 .cases h
theorem aDz{t:Ty}(ht:∀a b,t≠ .pair a b){cs:List C}{y:den t}(h:f.dataL t cs=some (y,[])):∃x,cs=[x]/\f.data t x=some y:=by
 cases t with
 | pair a b=>exact absurd rfl (ht a b)
 | _=>
  cases cs with
  | nil=>cases h
  | cons x xs=>obtain⟨h1,h2⟩:=vD h;subst h2;exact⟨x,rfl,h1⟩
theorem aN2:∀{cs:List C} {ids:List Nat} {dp:Bool},aE5 f cs=some (ids,dp)->cs.all C.solid=true/\cs.any C.isSub=false:=by
 intro cs
 induction cs with
 | nil=>intros;exact⟨rfl,rfl⟩
 | cons x xs ih=>
  intro ids dp h;unfold aE5 at h;split at h
  .rename_i i1 d1 i2 d2 h1 h2;obtain⟨g1,g2⟩:=ih h2;refine⟨?_,?_⟩
   .simp only[bY4,bWj];exact⟨by cases x<;>first | rfl | (cases h1;done),g1⟩
   .simp only[bZi,bYo];exact⟨by cases x<;>first | rfl | (cases h1;done),g2⟩
  .cases h
theorem vX.frozen(h:aK M src c ow f a w)(hsrc:∀b,M b->src b){ids all:List Nat}{dp:Bool}{G:List Nat}(hsub:∀r∈ids,r∈all)(hids:∀r∈ids,∃n e k,∃(t:Ty) (l:List (den t)),∃deep,(r,n,O.row e k t l deep)∈f.ob)(ht:vX M c ow w (okB src c ow f.ob) ids dp G):
  (∀b∈G,okB src c ow (f.frzAll all).ob b)/\(dp=true->G.Nodup/\ ∀b∈G,M b/\Unf w b/\ ∃r,ow b=some r/\ ∀n x,(r,n,x)∉(f.frzAll all).ob):=by
 refine⟨λb hb=> ?_,λhd=> ?_⟩
 .rcases ht.1 b hb with hok | ⟨r,hr,he⟩
  .exact⟨hok.1,λhl=>hok.2 (aLs hl)⟩
  .obtain⟨n,e,k,t,l,deep,hm⟩:=hids r hr;exact (aNk h hsrc (hsub r hr) hm).1 b he
 .obtain⟨n1,n2⟩:=ht.2 hd;refine⟨n1,λb hb=> ?_⟩;obtain⟨m1,m2,r,hr,he⟩:=n2 b hb;obtain⟨n,e,k,t,l,deep,hm⟩:=hids r hr;exact⟨m1,m2,r,he,(aNk h hsrc (hsub r hr) hm).2⟩
end
end Go.V
set_option linter.unusedVariables false
set_option linter.unusedSectionVars false
namespace Go.V
open Go.Ab Go.RowKit
theorem lK.alloc{M:Nat->Prop}{a w:World}(h:lK M a w)(o:Obj):lK M a (w.alloc o):=
 h.trans ⟨rfl,rfl,rfl,by simp,λk hk _=>Below.heap_alloc _ _ _ hk⟩
theorem lK.grown{M:Nat->Prop}{a w w':World}{row:Option Nat}(h:lK M a w)(hg:w.grownBy w' row)(hr:∀k,row=some k->M k):lK M a w':=
 h.trans ⟨hg.os,hg.tape,hg.output,hg.size,λk hk hm=>hg.block k hk (λe=>hm (hr k e.symm))⟩
def sS:Value->Option Nat
 | .slice (some ad) _ _=>some ad.block
 | .pointer (some ad)=>some ad.block
 | _=>none
structure Rec (E:List Con) (o:Oper) (a:Act) (w:World) (a':Act) (w':World):Prop where
 stays:tE E o.op=false->xJ w w'
 put:∃u,a'=a.put o.dst u/\(aBk o.op=true-> ∀b,sS u=some b->w.heap.size<=b)/\(uE o.op=true-> ∀x,nI o.op=some x-> ∀b,sS u=some b->w.heap.size<=b\/sS (a.eval x)=some b)
 app:∀x,nI o.op=some x-> ∀b,b<w.heap.size->(∀b',sS (a.eval x)=some b'->b≠b')->w'.heap[b]? =w.heap[b]?
 size:w.heap.size<=w'.heap.size
theorem aKx{E:List Con}{o:Oper}{a:Act}{w w':World}{d:Nat}{v:Value}(hdst:o.dst=some d)(hst:xJ w w')(hsz:w.heap.size<=w'.heap.size)(hna:nI o.op=none)(hal:aBk o.op=true-> ∀b,sS v=some b->w.heap.size<=b):Rec E o a w (a.put (some d) v) w':=
 ⟨λ_=>hst,⟨v,by rw[hdst],hal,λ_ x hx=>by rw[hna]at hx;cases hx⟩,(λx hx=>by rw[hna]at hx;cases hx),hsz⟩
theorem aEc{E:List Con}{o:Oper}{a:Act}{w w':World}{t:TypeId}{p x:Operand}(hop:o.op= .store t p x)(hdst:o.dst=none)(hsz:w.heap.size<=w'.heap.size)(hb:∀b,b<w.heap.size->(∀b',sS (a.eval p)=some b'->b≠b')->w'.heap[b]? =w.heap[b]?):Rec E o a w a w':=
 ⟨(λhw=>by rw[hop]at hw;cases hw),⟨undef,by rw[hdst];rfl,(λha=>by rw[hop]at ha;cases ha),λha=>by rw[hop]at ha;cases ha⟩,(λy hy=>by rw[hop]at hy;injection hy with hy;subst hy;exact hb),hsz⟩
def uY{R:Type}(X:Ctx)(E:List Con)(o:Oper)(a:Act)(w:World)(f:F)(K:F->Option R)(r:R):Prop:=
 ∃g,K g=some r/\Ext f g/\ ∀(Kp:Act->World->Prop) (Q:Exit->Act->World->Prop),(∀a' w',At X g a' w'->Rec E o a w a' w'->Kp a' w')->o.wp X.P a w Kp Q
section
variable {X:Ctx} {E:List Con} {f:F} {a:Act} {w:World} {o:Oper} {R:Type} {K:F->Option R} {r:R}
theorem At.hM(h:At X f a w):X.M w.heap.size:=X.hM _ h.2.1.size
theorem bHe{cs:List C}(h:cs.any C.isSub=false):∀x∈cs,x.isSub=false:=λx hx=>by simpa using bXg.1 h x hx
theorem aQe(hsf:f.subFree){x:Operand}{s:S}(h:f.get x=some s):s.isSub=false:=by
 cases x with
 | tmp t=>obtain⟨n,hm⟩:=xX h;exact hsf.1 _ _ _ hm
 | const v=>
  simp only[F.get]at h;unfold aPh at h;split at h
  .split at h
   .injection h with h;subst h;rfl
   .cases h
  .injection h with h;subst h;rfl
  .split at h
   .injection h with h;subst h;rfl
   .cases h
  .injection h with h;subst h;rfl
  .injection h with h;subst h;rfl
  .cases h
 | global g=>cases h
 | func f=>cases h
theorem aIn{y:A}(h:(S.val y).isSub=false):∀x∈y.cells,x.isSub=false:=by
 cases y with
 | one c=>intro x hx;rw[bWp.1 hx];exact h
 | agg cs=>exact bHe h
theorem bUv(v:Value):(zC v).isSub=false:=by
 unfold zC
 repeat' split
 all_goals rfl
theorem bDs(h:At X f a w)(hsf:f.subFree){t:TypeId}{d:Nat}{i:TypeInfo}{z:Value}(hop:o.op= .alloc t)(hdst:o.dst=some d)(hd:jD X.n o.dst=true)(hi:X.P.info? t=some i)(hz:i.zero=some z)(hz1:z.cells.toList.all Value.oneCell'=true)(hp:pinned d=false)
  (hk:K (f.newOb d (.box ((z.cells.toList.map zC).map (pS d))) (.ptr d 0))=some r):uY X E o a w f K r:=by
 refine⟨_,hk,Ext.newOb f d _ _,λKp Q hK=> ?_⟩;obtain⟨⟨c,ow,hs,hpin⟩,hb,hn⟩:=id h;have hlt:d<a.tmps.size:=by rw[hn];rw[hdst]at hd;exact vJ hd
 obtain⟨ow',h1⟩:=aJ8 hs hsf hlt t (aKe (c:=c) (ow:=ow) (w:=w) (ok:=okB X.src c ow f.ob) z.cells.toList hz1) (λx hx=>by obtain⟨v,_,rfl⟩:=bWr.1 hx;exact bUv v) h.hM;unfold Oper.wp;have hrun:(execOp a.eval o).run X.P w= .ok (.value (.pointer (some ⟨w.heap.size,0,none⟩))) (w.alloc (.cells z.cells t (0,0))):=by
  simp[execOp,hop,Instr.alloc,zeroValue,typeInfo,hi,hz,aPd]
 rw[hrun];simp only[Oper.upon,hdst];refine hK _ _ ⟨⟨_,ow',by simpa using h1,hpin.loc hp _⟩,hb.alloc _,by rw[wP];exact hn⟩ (aKx hdst (λb hb'=>Below.heap_alloc _ _ _ hb') (by simp) (by rw[hop];rfl) (λ_ b hb0=>by injection hb0 with hb0;exact bYh hb0))
theorem bJ5(h:At X f a w)(hsf:f.subFree){t:TypeId}{x:Operand}{d:Nat}{y:A}(hop:o.op= .box t x)(hdst:o.dst=some d)(hd:jD X.n o.dst=true)(hx:f.get x=some (.val y))(hsol:y.cells.all C.solid=true)(hp:pinned d=false)
  (hk:K (f.newOb d (.box (y.cells.map (pS d))) (.ptr d 0))=some r):uY X E o a w f K r:=by
 refine⟨_,hk,Ext.newOb f d _ _,λKp Q hK=> ?_⟩;obtain⟨⟨c,ow,hs,hpin⟩,hb,hn⟩:=id h;have hlt:d<a.tmps.size:=by rw[hn];rw[hdst]at hd;exact vJ hd
 obtain⟨vs,hvs,hall,_⟩:=vQ hs.rvs (hs.get hx) hsol;obtain⟨ow',h1⟩:=aJ8 hs hsf hlt t hall (aIn (aQe hsf hx)) h.hM;unfold Oper.wp;have hrun:(execOp a.eval o).run X.P w= .ok (.value (.pointer (some ⟨w.heap.size,0,none⟩))) (w.alloc (.cells vs.toArray t (0,0))):=by
  simp[execOp,hop,Instr.box,aPd,hvs]
 rw[hrun];simp only[Oper.upon,hdst];exact hK _ _ ⟨⟨_,ow',h1,hpin.loc hp _⟩,hb.alloc _,by rw[wP];exact hn⟩ (aKx hdst (λb hb'=>Below.heap_alloc _ _ _ hb') (by simp) (by rw[hop];rfl) (λ_ b hb0=>by injection hb0 with hb0;exact bYh hb0))
theorem fL{i:Nat}{x:O}{o' n:Nat}{y:O}(h:(o',n,y)∈(f.setOb i x).ob):(o'≠i/\(o',n,y)∈f.ob)\/(o'=i/\y=x):=by
 simp only[F.setOb,bWr]at h;obtain⟨⟨o1,m,z⟩,hz,he⟩:=h;split at he
 .injection he with e1 he;injection he with _ e2;exact .inr ⟨e1.symm,e2.symm⟩
 .rename_i hne;injection he with e1 he;injection he with e2 e3;subst e1 e2 e3;exact .inl ⟨hne,hz⟩
theorem Ext.setOb(f:F)(i:Nat)(x:O):Ext f (f.setOb i x):=by
 refine⟨bXi _,λ_ _ _ h _=>h,λo n y hm hn=> ?_⟩;simp only[F.setOb,bWr]at hm;obtain⟨⟨o1,m,z⟩,hz,he⟩:=hm;split at he
 .injection he with _ he;injection he with e _;omega
 .rw[<- he];exact hz
theorem aK.turn{M src:Nat->Prop}{c:Cx}{ow ow':Nat->Option Nat}(h:aK M src c ow f a w)(hsf:f.subFree){i n:Nat}{x y:O}{w':World}(hx:(i,n,x)∈f.ob)(hs:w.heap.size<=w'.heap.size)(hb:∀b,b<w.heap.size-> ¬ x.blk c ow i b->w'.heap[b]? =w.heap[b]?)
  (hbl:∀b,b<w.heap.size->y.blk c ow' i b->x.blk c ow i b) (how:∀b o,b<w.heap.size->o≠i->(∃m z,(o,m,z)∈f.ob)->(ow' b=some o↔ow b=some o))
  (hy:∀ok',(∀b,b<w.heap.size->okB src c ow f.ob b->ok' b)->(ok'=okB src c ow' (f.setOb i y).ob)->qN M c ow' w' ok' i y):aK M src c ow' (f.setOb i y) a w':=by
 have hl:∀b,b<w.heap.size->live c ow' (f.setOb i y).ob b->live c ow f.ob b:=by
  rintro b hlt ⟨o,m,z,hm,hz⟩
  rcases fL hm with ⟨hne,hm⟩ | ⟨rfl,rfl⟩
  .refine⟨o,m,z,hm,?_⟩;cases z with
   | box _=>exact hz
   | row _ _ _ _ _=>exact hz
   | win _ _ _=>exact (how b o hlt hne ⟨m,_,hm⟩).1 hz
  .exact⟨o,n,x,hx,hbl b hlt hz⟩
 refine h.step hsf hs (λb hlt hnl=>hb b hlt λhxb=>hnl ⟨i,n,x,hx,hxb⟩) hl (λo m z hm=> ?_) (λo m z m' z' hm hm'=> ?_)
 .rcases fL hm with ⟨hne,hm⟩ | ⟨rfl,rfl⟩
  .exact .inl ⟨⟨m,hm⟩,λb hlt hown hzb=>hb b hlt λhxb=>hne (h.apart hm hx hzb hxb),λb hlt hown=>(how b o hlt hne ⟨m,z,hm⟩).2 hown⟩
  .exact .inr (hy _ (λb hlt hok=>⟨hok.1,λhl'=>hok.2 (hl b hlt hl')⟩) rfl)
 .rcases fL hm with ⟨hne,hm⟩ | ⟨e1,rfl⟩
  .rcases fL hm' with ⟨_,hm'⟩ | ⟨e2,_⟩
   .exact h.uniq _ _ _ _ _ hm hm'
   .exact absurd e2 hne
  .rcases fL hm' with ⟨hne,_⟩ | ⟨_,rfl⟩
   .exact absurd e1 hne
   .rfl
theorem aTm(h:At X f a w)(hsf:f.subFree){t:TypeId}{p x:Operand}{i off:Nat}{y:A}{inf:TypeInfo}{cs:List C}(hop:o.op= .store t p x)(hdst:o.dst=none)(hp:f.getC p=some (.ptr i off))(hx:f.get x=some (.val y))(hi:X.P.info? t=some inf)(hbx:f.obj i=some (.box cs))
  (c1:y.cells.length=inf.size) (c2:off+y.cells.length<=cs.length) (c3:y.cells.all C.solid=true) (hk:K (f.setOb i (.box (sp cs off y.cells)))=some r):uY X E o a w f K r:=by
 refine⟨_,hk,Ext.setOb f i _,λKp Q hK=> ?_⟩;obtain⟨⟨c,ow,hs,hpin⟩,hb,hn⟩:=id h;have hpv:a.eval p= .pointer (some ⟨c.loc i,off,none⟩):=hs.getC hp;obtain⟨us,hvs,hall,hone⟩:=vQ hs.rvs (hs.get hx) c3;obtain⟨n,hmem⟩:=oC hbx;have hbxo:zA X.M c ow w (okB X.src c ow f.ob) i cs:=hs.ob _ _ _ hmem;have hlt:=hbxo.lt;obtain⟨b1,b2,vs,ty,hh,ha⟩:=hbxo;have hlen:us.length=y.cells.length:=hall.length;have hvl:vs.length=cs.length:=ha.length;have hrun:=run_storeCells_at (P:=X.P) (c.loc i) off ty us 0 vs.toArray w hh (by simp;omega) hone;simp only[bY8]at hrun;have hother:∀b,b≠c.loc i->(w.setRow (c.loc i) (vs.take off++us++vs.drop (off+us.length)).toArray).heap[b]? =w.heap[b]? :=by
  intro b hne;simp only[World.setRow,bZ9];rw[zS (Ne.symm hne)]
 have hsz:(w.setRow (c.loc i) (vs.take off++us++vs.drop (off+us.length)).toArray).heap.size=w.heap.size:=by simp[World.setRow]
 have h1:=hs.turn hsf (ow':=ow) (y:= .box (sp cs off y.cells)) (w':=w.setRow (c.loc i) (vs.take off++us++vs.drop (off+us.length)).toArray) hmem (by omega) (λb hlt hnb=>hother b λe=>hnb e.symm) (λb _ hy=>hy) (λb o _ _ _=>Iff.rfl) (λok' hok' hokeq=>by
  refine⟨b1,b2,_,ty,setRow_heap w _ _ _ ty _ hh,?_⟩;have hal:=ha.sp hall off;unfold sp at hal ⊢;have hsub1:=hsf.2 _ _ _ hmem;have hsub2:=aIn (aQe hsf hx);simp only[O.isSub,bXg]at hsub1;refine hal.mono λu z hz hr=>hr.keep ?_ ⟨by omega,λb hlt' hok=>hother b λe=>hok.2 ⟨i,n,_,hmem,e.symm⟩,hok'⟩
  rcases bWq.1 hz with hz | hz
  .rcases bWq.1 hz with hz | hz
   .simpa using hsub1 z (bX8 hz)
   .exact hsub2 z hz
  .simpa using hsub1 z (bYa hz))
 unfold Oper.wp;have hlen':us.length=inf.size:=by omega
 have hrun':(execOp a.eval o).run X.P w= .ok .skip (w.setRow (c.loc i) (vs.take off++us++vs.drop (off+us.length)).toArray):=by
  simp[execOp,hop,Instr.storeAt,hpv,Instr.sureAddr,storeVar,jA hi,hvs,hlen',hrun]
 rw[hrun'];simp only[Oper.upon,hdst];exact hK _ _ ⟨⟨c,ow,h1,hpin⟩,hb.trans ⟨rfl,rfl,rfl,by omega,λk hk hm=>hother k λe=>hm (e▸b1)⟩,hn⟩ (aEc hop hdst (by omega) λb _ hne=>hother b (hne _ (by rw[hpv];rfl)))
end
end Go.V
set_option linter.unusedVariables false
set_option linter.unusedSectionVars false
namespace Go.V
open Go.Ab Go.RowKit
section
variable {X:Ctx} {E:List Con} {f:F} {a:Act} {w:World} {o:Oper} {R:Type} {K:F->Option R} {r:R}
theorem aFw{ids:List Nat}{q n e k:Nat}{t:Ty}{l:List (den t)}{deep:Bool}(hr:ids.contains q=false)(hm:(q,n,O.row e k t l deep)∈f.ob):∃m,(q,m,O.row e k t l deep)∈(f.frzAll ids).ob:=by
 induction ids generalizing f n with
 | nil=>exact⟨n,hm⟩
 | cons i is ih=>
  simp only[List.contains_cons,bYo]at hr;have hx:∃m,(q,m,O.row e k t l deep)∈(f.frzRow i).ob:=by
   unfold F.frzRow;split
   .refine⟨n,?_⟩;simp only[bWr,bWy];exact⟨(q,n,.row e k t l deep),⟨hm,by simpa using hr.1⟩,by simp[O.names]⟩
   .exact⟨n,hm⟩
  obtain⟨m,hm'⟩:=hx;exact ih (f:=f.frzRow i) hr.2 hm'
theorem aBq{t:Ty}{l:List (den t)}(i:Nat)(z:den t):(l.set i z).map (cells t)=(l.map (cells t)).set i (cells t z):=by rw[List.map_set]
theorem aQh{M src:Nat->Prop}{c:Cx}{ow:Nat->Option Nat}{P:Program}(h:aK M src c ow f a w)(hsf:f.subFree){q n e k:Nat}{t:Ty}{l:List (den t)}{deep:Bool}(hr:(q,n,.row e k t l deep)∈f.ob){i off:Nat}{z:den t}{ts:List T}{us:List Value}{G:List Nat}{dp:Bool}(hi:i<l.length)(ho:off+ts.length<=k)
  (hz:(cells t z)=sp (cells t l[i]) off ts) (hu:RepL w us ts G) (hG:∀b∈G,okB src c ow f.ob b) (hdp:dp=true->G.Nodup/\ ∀b∈G,M b/\Unf w b/\ ∃r',ow b=some r'/\ ∀n x,(r',n,x)∉f.ob) {g b0 nn cap:Nat} (hrv:c.rv q= .slice (some ⟨g,b0,none⟩) nn cap):
  ∃w' ow',(storeCells ⟨g,b0+(i * k+off),none⟩ us).run P w= .ok () w'/\aK M src c ow' (f.setOb q (.row e k t (l.set i z) (deep&&dp))) a w'/\lK M w w'/\ ∀b,b≠g->w'.heap[b]? =w.heap[b]? :=by
 obtain⟨r0,r1,r2,xs,F1,r3,r4,r5,r6⟩:=h.ob _ _ _ hr;have hkk:∀y∈l.map (cells t),y.length=k:=λy hy=>by obtain⟨y',_,rfl⟩:=bWr.1 hy;rw[cE,r1]
 have hob:(c.rv q).ownBlock=some g:=by simp[hrv,Value.ownBlock]
 have hglt:=(xE r3 hob).1;obtain⟨hMg,howg⟩:=r2 g hob;have r3':=r3;obtain⟨hxl,hform⟩:=r3;rcases hform with ⟨hn,_⟩ | ⟨g',cap',cur,hrv',_,hh,h1,h2,h3,h4⟩
 .rw[hrv]at hn;cases hn
 .rw[hrv]at hrv';injection hrv' with e1 e2 e3;injection e1 with e1;injection e1 with e1 e0 _;subst e1 e0 e2 e3;rw[bXm];have hul:us.length=ts.length:=hu.length;have hik:i * k+k<=l.length * k:=by rw[<- bXk];exact bX1 _ hi
  have hnc:l.length * k<=cap * k:=bX1 _ h1;have s1:((l.set i z).map (cells t)).flatten=sp (l.map (cells t)).flatten (i * k+off) ts:=by
   rw[aBq,vP hkk (by simpa using hi) (by rw[cE,r1]),hz];refine aNy (lH hkk (by simp[hi])).symm ?_ ho;rw[mG hkk,bXe];exact hik
  have hrun:=run_storeCells_at (P:=P) g (i * k+off) e us 0 cur w hh (by omega) (aW9 hu);simp only[bY8]at hrun;have hother:∀b,b≠g->(w.setRow g (cur.toList.take (i * k+off)++us++cur.toList.drop (i * k+off+us.length)).toArray).heap[b]? =w.heap[b]? :=by
   intro b hne;simp only[World.setRow,bZ9];rw[zS (Ne.symm hne)]
  have hsz:(w.setRow g (cur.toList.take (i * k+off)++us++cur.toList.drop (i * k+off+us.length)).toArray).heap.size=w.heap.size:=by simp[World.setRow]
  have hokb:∀b,okB src c ow f.ob b->b≠g:=λb hok e=>hok.2 ⟨q,n,_,hr,e▸hob⟩
  refine⟨_,λb=>if dp=true/\b∈G then some q else ow b,hrun,?_,⟨rfl,rfl,rfl,by omega,λb hlt hnm=>hother b λe=>hnm (e▸hMg)⟩,hother⟩;refine h.turn hsf (y:= .row e k t (l.set i z) (deep&&dp)) hr (by omega) (λb hlt hnb=>hother b λe=>hnb (by rw[e];exact hob)) (λb _ hy=>hy) (λb o' hlt hne hm=> ?_) (λok' hok' _=> ?_)
  .obtain⟨m,x,hm⟩:=hm;show (if dp=true/\b∈G then some q else ow b)=some o'↔ow b=some o';split
   .rename_i hc;constructor
    .intro e;injection e with e;exact absurd e.symm hne
    .intro how;obtain⟨_,_,r',q1,q2⟩:=(hdp hc.1).2 b hc.2;rw[q1]at how;injection how with how;subst how;exact absurd hm (q2 m x)
   .exact Iff.rfl
  .obtain⟨F2,F3,t1,t2,t3⟩:=r4.sp hu (i * k+off);rw[<- s1]at t1;have hFF:∀b∈F2++G++F3,okB src c ow f.ob b:=by
    intro b hb;rcases bWq.1 hb with hb | hb
    .rcases bWq.1 hb with hb | hb
     .exact r5 b (t2 b (bXn _ hb))
     .exact hG b hb
    .exact r5 b (t2 b (bXq _ hb))
   refine⟨r0,r1,λb hbo=>⟨(r2 b hbo).1,?_⟩,sp xs (i * k+off) us,F2++G++F3,?_,t1.frame λb hb=>hother b (hokb b (hFF b hb)),λb hb=>hok' b (t1.lt b hb) (hFF b hb),λhd=> ?_⟩
   .show (if dp=true/\b∈G then some q else ow b)=some q;split
    .rfl
    .exact (r2 b hbo).2
   .rw[List.length_set];refine⟨by rw[tB (by rw[hxl,hul];omega)];exact hxl,.inr ⟨g,cap,_,hrv,bW3 _,setRow_heap w g cur _ e (0,0) hh,h1,h2,?_,?_⟩⟩
    .simp[hul];omega
    .show (cur.toList.take (i * k+off)++us++cur.toList.drop (i * k+off+us.length)).take (l.length * k)=sp xs (i * k+off) us;unfold sp;rw[<- h4,List.take_append,List.take_append,List.take_take,List.take_take,List.drop_take];have a1:min (l.length * k) (i * k+off)=i * k+off:=by omega
     have a2:min (i * k+off) (l.length * k)=i * k+off:=by omega
     have a3:(cur.toList.take (i * k+off)).length=i * k+off:=by simp;omega
     rw[a1,a2,bW9,a3,bZu (l:=us) (by omega)]
   .simp only[bWj]at hd;obtain⟨n1,n2⟩:=r6 hd.1;obtain⟨n3,n4⟩:=hdp hd.2;have hap:∀b,b∈F2++F3->b∈G->False:=by
     intro b hb hbG;obtain⟨_,q2,_⟩:=n2 b (t2 b hb);obtain⟨_,_,r',q3,q4⟩:=n4 b hbG;rw[q2]at q3;injection q3 with q3;subst q3;exact q4 _ _ hr
    have hnd13:=t3 n1;refine⟨?_,λb hb=> ?_⟩
    .obtain⟨m1,m2,m3⟩:=bXr.1 hnd13;refine bXr.2 ⟨bXr.2 ⟨m1,n3,λx hx y hy hxy=>hap x (bXn _ hx) (hxy▸hy)⟩,m2,λx hx y hy hxy=> ?_⟩;rcases bWq.1 hx with hx | hx
     .exact m3 x hx y hy hxy
     .exact hap x (bXq _ (hxy▸hy)) hx
    .have hne:=hokb b (hFF b hb)
     by_cases hbG:b∈G
     .obtain⟨q1,q2,_⟩:=n4 b hbG;exact⟨q1,by simp[hd.2,hbG],by rw[hob];intro e;injection e with e;exact hne e.symm,q2.keep (hother b hne)⟩
     .have hb13:b∈F2++F3:=by
       rcases bWq.1 hb with hb | hb
       .rcases bWq.1 hb with hb | hb
        .exact bXn _ hb
        .exact absurd hb hbG
       .exact bXq _ hb
      obtain⟨q1,q2,q3,q4⟩:=n2 b (t2 b hb13);exact⟨q1,by simp[hbG,q2],q3,q4.keep (hother b hne)⟩
end
end Go.V
set_option linter.unusedVariables false
set_option linter.unusedSectionVars false
namespace Go.V
open Go.Ab Go.RowKit
section
variable {M src:Nat->Prop} {c:Cx} {ow:Nat->Option Nat} {f:F} {a:Act} {w:World} {P:Program} {ok:Nat->Prop}
def DT(f:F)(x:C)(τ:T):Prop:= ∃(t:Ty) (y:den t),f.data t x=some y/\τ=dW t y
theorem xA:∀{t:Ty} {cs:List C} {z:den t},f.dataL t cs=some (z,[])->aQ (DT f) cs (cells t z)
 | .int k,cs,z,h=>by obtain⟨x,rfl,hx⟩:=aDz (by simp) h;exact .cons ⟨_,z,hx,rfl⟩ .nil
 | .bool,cs,z,h=>by obtain⟨x,rfl,hx⟩:=aDz (by simp) h;exact .cons ⟨_,z,hx,rfl⟩ .nil
 | .str,cs,z,h=>by obtain⟨x,rfl,hx⟩:=aDz (by simp) h;exact .cons ⟨_,z,hx,rfl⟩ .nil
 | .sl t,cs,z,h=>by obtain⟨x,rfl,hx⟩:=aDz (by simp) h;exact .cons ⟨_,z,hx,rfl⟩ .nil
 | .pair a b,cs,z,h=>by
  obtain⟨u1,u2,rfl,_,h1,h2⟩:=bEk h;exact (xA h1).append (xA h2)
theorem gN{t:Ty}(x:den t):fO t t x=some x:=by simp[fO]
theorem aGd(f:F):∀(t:Ty) (x:den t),aQ (DT f) (split t x) (cells t x)
 | .int k,x=> .cons ⟨.int k,x,gN (t:= .int k) x,rfl⟩ .nil
 | .bool,x=> .cons ⟨.bool,x,gN (t:= .bool) x,rfl⟩ .nil
 | .str,x=> .cons ⟨.str,x,gN (t:= .str) x,rfl⟩ .nil
 | .sl t,x=> .cons ⟨.sl t,x,gN (t:= .sl t) x,rfl⟩ .nil
 | .pair a b,x=>(aGd f a x.1).append (aGd f b x.2)
theorem aKy:∀(t:Ty) (x:den t),∀y∈split t x,∃(t':Ty) (z:den t'),y= .v t' z
 | .int k,x,y,h=>⟨_,_,bWp.1 h⟩
 | .bool,x,y,h=>⟨_,_,bWp.1 h⟩
 | .str,x,y,h=>⟨_,_,bWp.1 h⟩
 | .sl t,x,y,h=>⟨_,_,bWp.1 h⟩
 | .pair a b,x,y,h=>(bWq.1 h).elim (aKy a x.1 y) (aKy b x.2 y)
theorem aHw{t:Ty}{z:den t}{τ:T}(h:DT f (.v t z) τ):τ=dW t z:=by
 obtain⟨t',y,hy,rfl⟩:=h;obtain⟨rfl,rfl⟩:=eI hy;rfl
theorem bId:∀{cs:List C} {xs ys:List T},(∀y∈cs,∃(t':Ty) (z:den t'),y= .v t' z)->aQ (DT f) cs xs->aQ (DT f) cs ys->xs=ys:=by
 intro cs
 induction cs with
 | nil=>intro xs ys _ h1 h2;cases h1;cases h2;rfl
 | cons x cs ih=>
  intro xs ys hv h1 h2;cases h1 with
  | cons a1 b1=>
   cases h2 with
   | cons a2 b2=>
    obtain⟨t,z,rfl⟩:=hv x (bWt ..);rw[aHw a1,aHw a2,ih (λy hy=>hv y (bWo _ hy)) b1 b2]
theorem aDu{t:Ty}{el z:den t}{off:Nat}{ys:List C}(hle:off+ys.length<=tyLen t)(h:f.dataL t (sp (split t el) off ys)=some (z,[])):∃ts,aQ (DT f) ys ts/\cells t z=sp (cells t el) off ts:=by
 have h1:=xA h;have h2:=aGd f t el;have hl:(split t el).length=tyLen t:=yL t el;unfold sp at h1;have ht:((split t el).take off).length=off:=by simp;omega
 refine⟨((cells t z).drop off).take ys.length,?_,?_⟩
 .have :=((h1.drop off).take ys.length)
  rw[bW6,List.drop_append,ht,Nat.sub_self,List.drop_zero,bZe (by omega),bXc,bZf]at this;exact this
 .have hlz:(cells t z).length=tyLen t:=cE t z;have hle2:(cells t el).length=tyLen t:=cE t el;have e1:(cells t z).take off=(cells t el).take off:=by
   have a1:=h1.take off;rw[bW6,List.take_append,ht,Nat.sub_self,List.take_zero,bXh,List.take_take,Nat.min_self]at a1;exact bId (f:=f) (λy hy=>aKy t el y (bX8 hy)) a1 (h2.take off)
  have e2:(cells t z).drop (off+ys.length)=(cells t el).drop (off+ys.length):=by
   have a1:=h1.drop (off+ys.length);rw[List.drop_append,bW9,ht,Nat.sub_self,List.drop_zero,bZe (by simp;omega),bXc]at a1;exact bId (f:=f) (λy hy=>aKy t el y (bYa hy)) a1 (h2.drop (off+ys.length))
  unfold sp;have hll:(((cells t z).drop off).take ys.length).length=ys.length:=by simp;omega
  rw[hll,<- e1,<- e2,<- bY0];rw[bW6,bX0,bX0]
theorem aR8(h:aK M src c ow f a w):∀{cs:List C} {ts:List T} {vs:List Value} {ids:List Nat} {dp:Bool},aQ (DT f) cs ts->aE5 f cs=some (ids,dp)->aQ (aM c ow w (okB src c ow f.ob)) vs cs->ids.Nodup-> ∃G,RepL w vs ts G/\vX M c ow w (okB src c ow f.ob) ids dp G:=by
 intro cs
 induction cs with
 | nil=>
  intro ts vs ids dp hd hm hv _;cases hd;cases hv;injection hm with hm;injection hm with e1 e2;subst e1 e2;exact⟨[],.nil,by simp,λ_=>by simp⟩
 | cons x cs ih=>
  intro ts vs ids dp hd hm hv hn;unfold aE5 at hm;split at hm
  .rename_i i1 d1 i2 d2 h1 h2;injection hm with hm;injection hm with e1 e2;subst e1 e2;cases hd with
   | cons hdx hds=>
    cases hv with
    | cons hr hrs=>
     obtain⟨t,y,hy,rfl⟩:=hdx;obtain⟨G,g1,g2⟩:=bFi h h1 hy hr;obtain⟨H,g3,g4⟩:=ih hds h2 hrs (bXr.1 hn).2.1;exact⟨G++H,.cons g1 g3,g2.append g4 hn⟩
  .cases hm
end
section
variable {X:Ctx} {E:List Con} {f:F} {a:Act} {w:World} {o:Oper} {R:Type} {K:F->Option R} {r:R}
theorem aIl(h:At X f a w)(hsf:f.subFree){t:TypeId}{p x:Operand}{q k i off n e:Nat}{y:A}{inf:TypeInfo}{ty:Ty}{l:List (den ty)}{deep dp:Bool}{ids:List Nat}{z:den ty}(hop:o.op= .store t p x)(hdst:o.dst=none)(hp:f.getC p=some (.rp q k i off))(hx:f.get x=some (.val y))(hi:X.P.info? t=some inf)(hrow:f.obj q=some (.row e k ty l deep))
  (hmv:aE5 f y.cells=some (ids,dp)) (c1:y.cells.length=inf.size) (c2:off+y.cells.length<=k) (c3:pC ids=true) (c4:ids.contains q=false) (hil:i<l.length) (hz:∃ts,aQ (DT f) y.cells ts/\cells ty z=sp (cells ty l[i]) off ts)
  (hk:K ((f.frzAll ids).setOb q (.row e k ty (l.set i z) (deep&&dp)))=some r):uY X E o a w f K r:=by
 refine⟨_,hk,(Ext.frzAll f ids).trans (Ext.setOb _ q _),λKp Q hK=> ?_⟩;obtain⟨⟨c,ow,hs,hpin⟩,hb,hn⟩:=id h;obtain⟨g,b0,nn,cap,hrv,hpv⟩:=hs.getC hp;obtain⟨hsol,hnsub⟩:=aN2 hmv;obtain⟨us,hvs,hall,hone⟩:=vQ hs.rvs (hs.get hx) hsol;obtain⟨ts,hts,hzz⟩:=hz;have hnd:=gG c3;obtain⟨G,g1,g2⟩:=aR8 hs hts hmv hall hnd;obtain⟨t1,t2⟩:=g2.frozen hs X.hsrc (λr hr=>hr) (aUt hmv);obtain⟨m,hmem⟩:=oC hrow;obtain⟨m',hmem'⟩:=aFw c4 hmem;have htl:ts.length=y.cells.length:=hts.length.symm;obtain⟨w',ow',hrun,hsim,hbel,hoth⟩:=aQh (P:=X.P) (hs.frzAll X.hsrc ids) (uH hsf ids) hmem' hil (by rw[htl];exact c2) hzz g1 t1 t2 hrv;unfold Oper.wp;have hlen':us.length=inf.size:=by rw[hall.length];exact c1
 have hrun':(execOp a.eval o).run X.P w= .ok .skip w':=by
  simp[execOp,hop,Instr.storeAt,hpv,Instr.sureAddr,storeVar,jA hi,hvs,hlen',hrun]
 rw[hrun'];simp only[Oper.upon,hdst];exact hK _ _ ⟨⟨c,ow',hsim,hpin⟩,hb.trans hbel,hn⟩ (aEc hop hdst hbel.size λb _ hne=>hoth b (hne g (by rw[hpv];rfl)))
theorem bIn{M:Nat->Prop}{c:Cx}{ow:Nat->Option Nat}{P:Program}{q k i off:Nat}{t:Ty}{l:List (den t)}{z:den t}(h:aCf M c ow w q k t l)(hi:i<l.length){τ:T}{u v0:Value}(ho:off<k)(hold:(cells t l[i])[off]? =some (.lit v0))(hz:cells t z=sp (cells t l[i]) off [τ])(hu:Rep w u τ []){g b0 n cap:Nat}(hrv:c.rv q= .slice (some ⟨g,b0,none⟩) n cap):
  ∃w',(storeCells ⟨g,b0+(i * k+off),none⟩ [u]).run P w= .ok () w'/\aCf M c ow w' q k t (l.set i z)/\(∀b,b≠g->w'.heap[b]? =w.heap[b]?)/\w'.heap.size=w.heap.size/\w'.os=w.os/\w'.tape=w.tape/\w'.output=w.output/\M g/\ow g=some q:=by
 obtain⟨h0,h1,G,h2,h3,h4⟩:=h;have hkk:∀y∈l.map (cells t),y.length=k:=λy hy=>by obtain⟨y',_,rfl⟩:=bWr.1 hy;rw[cE,h1]
 rw[hrv]at h2;simp only[dW]at h2;generalize hes:l.map (cells t)=es at h2;cases h2 with
 | nil hc=>
  have :l=[]:=by simpa using hes
  subst this;simp at hi
 | @cons b off' n' cap' k' es xs G' hnn hp0 hk0 hk' hc hm hxl hcell hr=>
  subst hes;have hkk':k'=k:=by
   obtain⟨y,hy⟩:=bZ7 (l:=l.map (cells t)) (by simp;omega);rw[<- hk' y hy,hkk y hy]
  subst hkk';obtain⟨hMg,howg,cs,e,hh⟩:=h4 g (bWt ..);rw[bXe]at hnn;subst hnn;have hik:i * k'+k'<=l.length * k':=by rw[<- bXk];exact bX1 _ hi
  have hlt:i * k'+off<xs.length:=by omega
  have hcell':=hcell (i * k'+off) _ (bWl hlt);have hbound:b0+(i * k'+off)<cs.size:=by
   simp only[World.cell?,hh]at hcell';exact (bYl.1 hcell').1
  have hrun:=run_storeCells_at (P:=P) g (b0+(i * k'+off)) e [u] 0 cs w hh (by simp;omega) (by intro x hx;rw[bWp.1 hx];exact aPx hu);simp only[bY8,List.length_singleton]at hrun;have hother:∀b,b≠g->(w.setRow g (cs.toList.take (b0+(i * k'+off))++[u]++cs.toList.drop (b0+(i * k'+off)+1)).toArray).heap[b]? =w.heap[b]? :=by
   intro b hne;simp only[World.setRow,bZ9];rw[zS (Ne.symm hne)]
  have hgG:∀b∈G',b≠g:=λb hb e=>(bX9.1 h3).1 (e▸hb)
  have hnew:=setRow_heap w g cs (cs.toList.take (b0+(i * k'+off))++[u]++cs.toList.drop (b0+(i * k'+off)+1)).toArray e (0,0) hh;refine⟨_,hrun,?_,hother,by simp[World.setRow],rfl,rfl,rfl,hMg,howg⟩;have s1:((l.set i z).map (cells t)).flatten=sp (l.map (cells t)).flatten (i * k'+off) [τ]:=by
   rw[aBq,vP hkk (by simpa using hi) (by rw[cE,h1]),hz];refine aNy (lH hkk (by simp[hi])).symm ?_ (by simp;omega);rw[mG hkk,bXe];exact hik
  obtain⟨F1,F2,F3,a1,a2,a3,a4⟩:=hr.parts (i * k'+off) 1;have hmid:((l.map (cells t)).flatten.drop (i * k'+off)).take 1=[.lit v0]:=by
   have hfg:=lH hkk (i:=i) (e:=cells t l[i]) (by simp[hi]);have :((l.map (cells t)).flatten)[i * k'+off]? =some (.lit v0):=by
    have h5:(((l.map (cells t)).flatten.drop (i * k')).take k')[off]? =some (.lit v0):=by rw[hfg];exact hold
    rw[bXv,zT ho,bYd]at h5;exact h5
   rw[List.take_one,List.head?_drop,this];rfl
  rw[hmid]at a2;have hF2:F2=[]:=by
   generalize hxs:(xs.drop (i * k'+off)).take 1=ys at a2;cases a2 with
   | cons p1 p2=>cases p1;cases p2;rfl
  subst hF2;rw[bXc]at a4;have hrep:RepL w (sp xs (i * k'+off) [u]) (sp (l.map (cells t)).flatten (i * k'+off) [τ]) G':=by
   have :=(a1.append (RepL.cons hu RepL.nil)).append a3;rw[a4];simpa [sp] using this
  rw[<- s1]at hrep;refine⟨h0,h1,g::G',?_,h3,λb hb=>⟨(h4 b hb).1,(h4 b hb).2.1,?_⟩⟩
  .rw[hrv];simp only[dW];refine .cons (k:=k') (by simp) hp0 hk0 (λy hy=>by obtain⟨y',_,rfl⟩:=bWr.1 hy;rw[cE,h1]) hc hm (by rw[tB (by simp;omega)];exact hxl) (λj x hx=> ?_) (hrep.frame λb hb=>hother b (hgG b hb));simp only[World.cell?,hnew];have hjlt:j<xs.length:=by have :=(bWn.1 hx).1;rw[tB (by simp;omega)]at this;exact this
   have hold':=hcell j _ (bWl hjlt);simp only[World.cell?,hh]at hold';have hcs:(cs.toList.take (b0+(i * k'+off))++[u]++cs.toList.drop (b0+(i * k'+off)+1))=cs.toList.set (b0+(i * k'+off)) u:=by
    rw[cAa,zT (by simpa using hbound)];simp
   have hsp:sp xs (i * k'+off) [u]=xs.set (i * k'+off) u:=by
    unfold sp;rw[cAa,zT hlt];simp
   rw[hsp]at hx;rw[hcs];rw[bYp]at hx;have hgoal:(cs.toList.set (b0+(i * k'+off)) u)[b0+j]? =some x:=by
    rw[bYp];split at hx
    .rename_i e1;rw[zT (by omega)];rw[zT (by simpa using hbound)];exact hx
    .rename_i e1;rw[zS (by omega)];rw[bWl hjlt]at hx;rw[<- hx];simpa using hold'
   simpa using hgoal
  .by_cases hbg:b=g
   .subst hbg;exact⟨_,e,hnew⟩
   .exact (h4 b hb).2.2.keep (hother b hbg)
theorem aIh:∀{t:Ty} {x:den t} {v:Value} {G:List Nat},Rep w v (dW t x) G->flat t=true->G=[]/\ ∃u,dW t x= .lit u
 | .int _,_,_,_,h,_=>by cases h;exact⟨rfl,_,rfl⟩
 | .bool,_,_,_,h,_=>by cases h;exact⟨rfl,_,rfl⟩
 | .str,_,_,_,h,_=>by cases h;exact⟨rfl,_,rfl⟩
 | .sl t,_,_,_,h,hn=>by cases hn
 | .pair _ _,_,_,_,h,_=>by cases h
theorem yC:∀(t:Ty) (x:den t) {i:Nat} {t':Ty} {y:den t'},(split t x)[i]? =some (.v t' y)->(cells t x)[i]? =some (dW t' y)/\ ∀a b,t'≠ .pair a b
 | .int k,x,i,t',y,h=>by cases i with | zero=>simp[split]at h;obtain⟨rfl,h⟩:=h;subst h;exact⟨rfl,by simp⟩ | succ i=>simp[split]at h
 | .bool,x,i,t',y,h=>by cases i with | zero=>simp[split]at h;obtain⟨rfl,h⟩:=h;subst h;exact⟨rfl,by simp⟩ | succ i=>simp[split]at h
 | .str,x,i,t',y,h=>by cases i with | zero=>simp[split]at h;obtain⟨rfl,h⟩:=h;subst h;exact⟨rfl,by simp⟩ | succ i=>simp[split]at h
 | .sl t,x,i,t',y,h=>by cases i with | zero=>simp[split]at h;obtain⟨rfl,h⟩:=h;subst h;exact⟨rfl,by simp⟩ | succ i=>simp[split]at h
 | .pair a b,x,i,t',y,h=>by
  simp only[split,cells]at h ⊢;rw[List.getElem?_append]at h ⊢;rw[yL]at h;rw[cE];split at h
  .rename_i hlt;rw[zT hlt];exact yC a x.1 h
  .rename_i hlt;rw[zS hlt];exact yC b x.2 h
theorem aTn(h:At X f a w)(hsf:f.subFree){t:TypeId}{p x:Operand}{q k i off:Nat}{y:A}{inf:TypeInfo}{ty tz ty':Ty}{l:List (den ty)}{el el':den ty}{z:den tz}{z':den ty'}(hop:o.op= .store t p x)(hdst:o.dst=none)(hp:f.getC p=some (.rp q k i off))(hx:f.get x=some (.val y))(hi:X.P.info? t=some inf)(hrow:f.obj q=some (.win k ty l))
  (c1:y.cells.length=inf.size) (c2:inf.size=1) (c3:off<k) (hel:l[i]? =some el) (hy:y.cells=[.v tz z]) (hold:(split ty el)[off]? =some (.v ty' z')) (hf1:flat tz=true) (hf2:flat ty'=true) (hd:f.dataL ty (sp (split ty el) off [.v tz z])=some (el',[]))
  (hk:K (f.setOb q (.win k ty (l.set i el')))=some r):uY X E o a w f K r:=by
 refine⟨_,hk,Ext.setOb f q _,λKp Q hK=> ?_⟩;obtain⟨⟨c,ow,hs,hpin⟩,hb,hn⟩:=id h;obtain⟨g,b0,nn,cap,hrv,hpv⟩:=hs.getC hp;obtain⟨m,hmem⟩:=oC hrow;have hwin:aCf X.M c ow w q k ty l:=hs.ob _ _ _ hmem;have hsol:y.cells.all C.solid=true:=by rw[hy];rfl
 obtain⟨us,hvs,hall,hone⟩:=vQ hs.rvs (hs.get hx) hsol;rw[hy]at hall;have hil:i<l.length:=(bWn.1 hel).1;have hele:l[i]=el:=(bWn.1 hel).2;obtain⟨ts,hts,hzz⟩:=aDu (f:=f) (by simp;rw[hwin.2.1];exact c3) hd;cases hts with
 | @cons _ τ _ _ hτ hnil=>
  cases hnil;have hτe:=aHw hτ;subst hτe;generalize hus:us=us' at hall;cases hall with
  | @cons u _ _ _ hru hnil=>
   cases hnil;obtain⟨G,hrep,_⟩:=hru;obtain⟨rfl,_⟩:=aIh hrep hf1;obtain⟨hcell,hnp⟩:=yC ty el hold;have hv0:∃v0,dW ty' z'= .lit v0:=by
    cases ty' with
    | int k=>exact⟨_,rfl⟩
    | bool=>exact⟨_,rfl⟩
    | str=>exact⟨_,rfl⟩
    | sl t=>cases hf2
    | pair a b=>exact absurd rfl (hnp a b)
   obtain⟨v0,hv0⟩:=hv0;rw[hv0,<- hele]at hcell;rw[<- hele]at hzz;obtain⟨w',hrun,hwin',hoth,hsz,e1,e2,e3,hMg,howg⟩:=bIn (P:=X.P) hwin hil c3 hcell hzz hrep hrv;have h1:=hs.turn hsf (ow':=ow) (y:= .win k ty (l.set i el')) (w':=w') hmem (by omega) (λb hlt hnb=>hoth b λe=>hnb (e▸howg)) (λb _ hy=>hy) (λb o _ _ _=>Iff.rfl) (λok' _ _=>hwin');unfold Oper.wp;have hrun':(execOp a.eval o).run X.P w= .ok .skip w':=by
    simp[execOp,hop,Instr.storeAt,hpv,Instr.sureAddr,storeVar,jA hi,hvs,hus,c2,hrun]
   rw[hrun'];simp only[Oper.upon,hdst];exact hK _ _ ⟨⟨c,ow,h1,hpin⟩,hb.trans ⟨e1,e2,e3,by omega,λb hlt hnm=>hoth b λe=>hnm (e▸hMg)⟩,hn⟩ (aEc hop hdst (by omega) λb _ hne=>hoth b (hne g (by rw[hpv];rfl)))
end
end Go.V
set_option linter.unusedVariables false
set_option linter.unusedSectionVars false
namespace Go.V
open Go.Ab Go.RowKit
section
variable {X:Ctx} {E:List Con} {f:F} {a:Act} {w:World} {o:Oper} {R:Type} {K:F->Option R} {r:R}
theorem bU2{v:Value}{τ:T}(h:DT f (zC v) τ):Rep w v τ []:=by
 unfold zC at h;split at h
 .split at h
  .rename_i hp;rw[aHw h];exact .lit hp
  .obtain⟨t,y,hy,_⟩:=h;cases hy
 .rw[aHw h];exact .lit rfl
 .split at h
  .rename_i hp;rw[aHw h];exact .lit hp
  .obtain⟨t,y,hy,_⟩:=h;cases hy
 .obtain⟨t,y,hy,rfl⟩:=h;simp only[F.data]at hy;split at hy
  .injection hy with hy;subst hy;exact .nil (bW3 _)
  .cases hy
 .obtain⟨t,y,hy,_⟩:=h;cases hy
theorem bIf:∀{vs:List Value} {ts:List T},aQ (DT f) (vs.map zC) ts->RepL w vs ts []
 | [],_,h=>by cases h;exact .nil
 | v::vs,_,h=>by
  rw[bW2]at h;cases h with
  | cons h hs=>exact .cons (bU2 h) (bIf hs)
theorem aIp{c:Cx}{ow':Nat->Option Nat}{w':World}{d e k:Nat}{t:Ty}{l:List (den t)}{deep:Bool}{v:Value}(h:aK X.M X.src (c.setRv d v) ow' (f.add d (.row e k t l deep)) a w')(hd:d<a.tmps.size):aK X.M X.src (c.setRv d v) ow' (f.newOb d (.row e k t l deep) (.row d)) (a.put (some d) v) w':=
 h.put hd (by simp[gQ,cK,aM,Cx.setRv])
theorem aQr{t:Ty}(n:Nat)(z:den t):(bXy n z).map (cells t)=bXy n (cells t z):=by simp
theorem bGe(h:At X f a w)(hsf:f.subFree){d:Nat}(hdst:o.dst=some d)(hd:jD X.n o.dst=true){t e:TypeId}{x y:Operand}{k1 k2:IntKind}{n m:Int}{i:TypeInfo}{z:Value}{ty:Ty}{z0:den ty}(hop:o.op= .makeSlice t x y)(ht:X.P.underlying t=some (.slice e))(hx:f.getC x=some (.v (.int k1) n))(hy:f.getC y=some (.v (.int k2) m))
  (hi:X.P.info? e=some i) (hz:i.zero=some z) (hz0:f.dataL ty (z.cells.toList.map zC)=some (z0,[])) (c1:i.size=z.cells.size) (c2:0<i.size) (hp:pinned d=false) (hok:bM4 i.bytes n m=true) (hk:K (f.newOb d (.row e i.size ty (bXy n.toNat z0) true) (.row d))=some r):uY X E o a w f K r:=by
 refine⟨_,hk,Ext.newOb f d _ _,λKp Q hK=> ?_⟩;obtain⟨⟨c,ow,hs,hpin⟩,hb,hn⟩:=id h;have hlt:d<a.tmps.size:=by rw[hn];rw[hdst]at hd;exact vJ hd
 simp only[bM4,bWj,zR]at hok;obtain⟨p1,p2,p3,p4⟩:=hok;subst p1;obtain⟨ex,_⟩:=jI (hs.getC hx);obtain⟨ey,_⟩:=jI (hs.getC hy);have hrun:=run_make (P:=X.P) w t e i z ht hi hz k1 k2 m m p2 (Int.le_refl _) p3 (by omega);have hzp:0<z.cells.size:=by omega
 have hcells:madeCells z.cells (m.toNat * i.size)=(bXy m.toNat z.cells.toList).flatten.toArray:=by
  rw[c1];apply Array.toList_inj.1;rw[aLj z.cells hzp]
 have hzz:RepL w z.cells.toList (cells ty z0) []:=bIf (xA hz0);have hlen0:tyLen ty=i.size:=by rw[<- cE ty z0,<- hzz.length,c1];simp
 have hflat:((bXy m.toNat z0).map (cells ty)).flatten=(bXy m.toNat (cells ty z0)).flatten:=by rw[aQr]
 have hrepl:RepL w (bXy m.toNat z.cells.toList).flatten ((bXy m.toNat z0).map (cells ty)).flatten []:=by rw[hflat];exact aFo hzz m.toNat
 have hln:(bXy m.toNat z.cells.toList).flatten.length=m.toNat * i.size:=by simp[List.length_flatten,c1]
 have hrun':(execOp a.eval o).run X.P w= .ok (.value (.slice (some ⟨w.heap.size,0,none⟩) m.toNat m.toNat)) (w.alloc (.cells (bXy m.toNat z.cells.toList).flatten.toArray e (0,0))):=by
  simp only[execOp,hop,ex,ey];rw[hcells]at hrun;simp[hrun]
 have hblk:∀b,b<w.heap.size->(w.alloc (.cells (bXy m.toNat z.cells.toList).flatten.toArray e (0,0))).heap[b]? =w.heap[b]? :=λb hb=>Below.heap_alloc _ _ _ hb
 have hown:=aLr (B:=0) (w:=w) (e:=e) (k:=i.size) (n:=m.toNat) (bXy m.toNat z.cells.toList).flatten (bW3 _) (by simp[maxLen];omega) hln;obtain⟨ow',h1⟩:=hs.putRow hsf (d:=d) (was:=none) (by simp) (deep:=true) (l:=bXy m.toNat z0) (t:=ty) (v:= .slice (some ⟨w.heap.size,0,none⟩) m.toNat m.toNat) (by simp) (λb hb _=>hblk b hb) (.inr (.inr rfl)) (λb hb=>by simp[Value.ownBlock]at hb;subst hb;exact h.hM) (by simpa using hown) c2 hlen0 (hrepl.frame (by simp)) (by simp) (λ_=>by simp);unfold Oper.wp;rw[hrun'];simp only[Oper.upon,hdst];exact hK _ _ ⟨⟨_,ow',aIp h1 hlt,hpin.rv hp _⟩,hb.alloc _,by rw[wP];exact hn⟩ (aKx hdst (λb hb'=>hblk b hb') (by simp) (by rw[hop];rfl) (λ_ b hb0=>by injection hb0 with hb0;exact bYh hb0))
theorem aV0{M src:Nat->Prop}{c:Cx}{ow:Nat->Option Nat}(h:aK M src c ow f a w){k:Nat}{t:Ty}:∀{ps:List (Nat×Operand)} {es:List (den t)} {ids:List Nat} {dp:Bool},aKh f k t ps=some (es,ids,dp)->ids.Nodup->
  ∃(vss:List (List Value)) (G:List Nat),ps.map (λp=>(a.eval p.2).cells)=vss.map List.toArray/\(∀x∈vss,x.length=k)/\es.length=ps.length/\RepL w vss.flatten (es.map (cells t)).flatten G/\vX M c ow w (okB src c ow f.ob) ids dp G/\
   ∀r∈ids,∃n e k,∃(t:Ty) (l:List (den t)),∃deep,(r,n,O.row e k t l deep)∈f.ob:=by
 intro ps
 induction ps with
 | nil=>
  intro es ids dp hl _;injection hl with hl;injection hl with e1 hl;injection hl with e2 e3;subst e1 e2 e3;exact⟨[],[],rfl,by simp,rfl,.nil,⟨by simp,λ_=>by simp⟩,by simp⟩
 | cons p ps ih=>
  intro es ids dp hl hn;obtain⟨i,x⟩:=p;unfold aKh at hl;split at hl
  .rename_i y es' i2 d2 hg hrest;split at hl
   .rename_i hk;split at hl
    .rename_i e i1 d1 hdat hmv;injection hl with hl;injection hl with e1 hl;injection hl with e2 e3;subst e1 e2 e3;obtain⟨vss,G,q1,q3,q4,q5,q6,q7⟩:=ih hrest (bXr.1 hn).2.1;obtain⟨hsol,_⟩:=aN2 hmv;obtain⟨vs,hvs,hall,_⟩:=vQ h.rvs (h.get hg) hsol;obtain⟨H,g1,g2⟩:=aR8 h (xA hdat) hmv hall (bXr.1 hn).1;refine⟨vs::vss,H++G,by simp[q1,hvs],?_,by simp[q4],?_,g2.append q6 hn,λr hr=>(bWq.1 hr).elim (aUt hmv r) (q7 r)⟩
     .intro z hz;rcases bWm.1 hz with rfl | hz
      .rw[hall.length];exact hk
      .exact q3 z hz
     .simpa using g1.append q5
    .cases hl
   .cases hl
  .cases hl
theorem bL4(h:At X f a w)(hsf:f.subFree){d:Nat}(hdst:o.dst=some d)(hd:jD X.n o.dst=true){t e:TypeId}{len:Nat}{ps:Array (Nat×Operand)}{i:TypeInfo}{ty:Ty}{es:List (den ty)}{ids:List Nat}{dp:Bool}(hop:o.op= .buildSlice t len ps)(ht:X.P.underlying t=some (.slice e))(hi:X.P.info? e=some i)
  (hl:aKh f i.size ty ps.toList=some (es,ids,dp)) (c1:0<i.size) (c0:yJ.tyLen ty=i.size) (c2:ps.toList.map (·.1)=bXz len) (c3:len * i.size<=1000) (c4:i.zero.isSome=true) (c5:pC ids=true) (hp:pinned d=false) (hk:K ((f.frzAll ids).newOb d (.row e i.size ty es dp) (.row d))=some r):uY X E o a w f K r:=by
 refine⟨_,hk,(Ext.frzAll f ids).trans (Ext.newOb _ d _ _),λKp Q hK=> ?_⟩;obtain⟨⟨c,ow,hs,hpin⟩,hb,hn⟩:=id h;have hlt:d<a.tmps.size:=by rw[hn];rw[hdst]at hd;exact vJ hd
 have hnd:=gG c5;obtain⟨vss,G,q1,q3,q4,q5,q6,q7⟩:=aV0 hs hl hnd;have hplen:ps.toList.length=len:=by have :=congrArg List.length c2;simpa using this
 obtain⟨z,hz⟩:=Option.isSome_iff_exists.1 c4;obtain⟨t1,t2⟩:=q6.frozen hs X.hsrc (λr hr=>hr) q7;have hes:es.length=len:=by rw[q4,hplen]
 have hkk:∀y∈es.map (cells ty),y.length=i.size:=λy hy=>by obtain⟨y',_,rfl⟩:=bWr.1 hy;rw[cE,<- aAl,c0]
 have hlenv:vss.flatten.length=len * i.size:=by rw[q5.length,mG hkk,bXe,hes]
 have hlenm:len<=maxLen:=by
  have :len<=len * i.size:=Nat.le_mul_of_pos_right _ c1;simp[maxLen];omega
 have hblk:∀b,b<w.heap.size->(w.alloc (.cells vss.flatten.toArray e (0,0))).heap[b]? =w.heap[b]? :=λb hb=>Below.heap_alloc _ _ _ hb
 have hown:=aLr (B:=0) (w:=w) (e:=e) (k:=i.size) (n:=len) vss.flatten (bW3 _) hlenm hlenv;obtain⟨ow',h1⟩:=(hs.frzAll X.hsrc ids).putRow (uH hsf ids) (d:=d) (was:=none) (by simp) (deep:=dp) (l:=es) (t:=ty) (v:= .slice (some ⟨w.heap.size,0,none⟩) len len) (by simp) (λb hb _=>hblk b hb) (.inr (.inr rfl)) (λb hb=>by simp[Value.ownBlock]at hb;subst hb;exact h.hM) (by rw[hes];exact hown) c1 (by rw[<- aAl,c0])
  (q5.frame λb hb=>hblk b (q5.lt b hb)) (λb hb=>⟨q5.lt b hb,t1 b hb⟩) (λhd'=>by
   obtain⟨n1,n2⟩:=t2 hd';refine⟨n1,λb hb=> ?_⟩;obtain⟨m1,m2,r',m3,m4⟩:=n2 b hb;exact⟨m1,m2.keep (hblk b (q5.lt b hb)),r',m3,.inr m4⟩)
 have hvals:(ps.toList.map λp=>(p.1,a.eval p.2))=(List.range' 0 (ps.toList.map λp=>a.eval p.2).length).zip (ps.toList.map λp=>a.eval p.2):=by
  rw[bXe,hplen,<- List.range_eq_range',<- c2];rw[List.zip_map']
 have hfill:=aVo i.size (ps.toList.map λp=>a.eval p.2) 0 ((Array.range (len * i.size)).map λx=>(if len * i.size=0 then #[] else z.cells)[x % (if len * i.size=0 then #[] else z.cells).size]!) (by
  intro v hv;have h1:v.cells∈(ps.toList.map λp=>a.eval p.2).map Value.cells:=bWr.2 ⟨v,hv,rfl⟩;rw[bY6]at h1;have h2:v.cells∈vss.map List.toArray:=by rw[<- q1];exact h1
  obtain⟨us,hus,he⟩:=bWr.1 h2;rw[<- he];simpa using q3 us hus) (by simp[hplen])
 rw[<- hvals]at hfill;have hflat:((ps.toList.map λp=>a.eval p.2).map λv=>v.cells.toList).flatten=vss.flatten:=by
  congr 1;have :(ps.toList.map λp=>a.eval p.2).map (λv=>v.cells.toList)=(ps.toList.map λp=>(a.eval p.2).cells).map Array.toList:=by simp[bY6,Function.comp_def]
  rw[this,q1,bY6];exact List.map_id vss
 rw[hflat]at hfill;have hdrop:((Array.range (len * i.size)).map λx=>(if len * i.size=0 then #[] else z.cells)[x % (if len * i.size=0 then #[] else z.cells).size]!).toList.drop ((0+(ps.toList.map λp=>a.eval p.2).length) * i.size)=[]:=by
  apply bZe;simp[hplen]
 rw[hdrop]at hfill;simp only[Nat.zero_mul,List.take_zero,bXc,bXh]at hfill;unfold Oper.wp;have hrun:(execOp a.eval o).run X.P w= .ok (.value (.slice (some ⟨w.heap.size,0,none⟩) len len)) (w.alloc (.cells vss.flatten.toArray e (0,0))):=by
  simp only[execOp,hop,Instr.buildSlice,Sem.run_bind,run_underlying ht,Result.andThen_ok,jA hi]
  by_cases h0:len * i.size=0
  .have hps:ps.toList=[]:=bYx.1 (by rcases Nat.mul_eq_zero.1 h0 with h | h<;>omega);have hvs:vss=[]:=by
    rw[hps]at q1;simpa using q1.symm
   have hl0:len=0:=by rw[hps]at hplen;simpa using hplen.symm
   subst hvs;simp[hl0,hps,Instr.fill,newRow,Array.range_zero']
  .simp only[h0,zU]at hfill ⊢;simp only[bY5,zeroValue,typeInfo];have h24: ¬ 16777216<len * i.size:=by omega
   simp[hi,hz,h24,hfill,newRow]
 rw[hrun];simp only[Oper.upon,hdst];exact hK _ _ ⟨⟨_,ow',aIp h1 hlt,hpin.rv hp _⟩,hb.alloc _,by rw[wP];exact hn⟩ (aKx hdst (λb hb'=>hblk b hb') (by simp) (by rw[hop];rfl) (λ_ b hb0=>by injection hb0 with hb0;exact bYh hb0))
theorem aG6:∀{t:Ty},flat t=true-> ∀x:den t,(cells t x).any T.isSl=false
 | .int _,_,_=>rfl
 | .bool,_,_=>rfl
 | .str,_,_=>rfl
 | .sl _,h,_=>by cases h
 | .pair a b,h,x=>by
  simp only[flat,bWj]at h;simp only[cells,List.any_append,bYo];exact⟨aG6 h.1 x.1,aG6 h.2 x.2⟩
theorem aX7{M src:Nat->Prop}{c:Cx}{ow:Nat->Option Nat}(h:aK M src c ow f a w){k:Nat}{t:Ty}{x:C}{u:Value}{es:List (den t)}{ids:List Nat}{dp:Bool}(hs:bCw f k t x=some (es,ids,dp))(hv:aM c ow w (okB src c ow f.ob) u x):
  ∃G,Rep w u (dW (.sl t) es) G/\(∀r∈ids,∃n e k,∃(t:Ty) (l:List (den t)),∃deep,(r,n,O.row e k t l deep)∈f.ob)/\ids.Nodup/\(vX M c ow w (okB src c ow f.ob) ids dp G\/(flat t=true/\vX M c ow w (okB src c ow f.ob) ids false G)):=by
 unfold bCw at hs;split at hs
 .injection hs with hs;injection hs with e1 hs;injection hs with e2 e3;subst e1 e2 e3;have :u= .slice none 0 0:=hv;subst this;exact⟨[],.nil (bW3 _),by simp,bZj,.inl ⟨by simp,λ_=>by simp⟩⟩
 .rename_i t' y;obtain⟨l,hl,he⟩:=bXd.1 hs;injection he with e1 he;injection he with e2 e3;subst e1 e2 e3;obtain⟨rfl,rfl⟩:=eI hl;obtain⟨G,hr,hG⟩:=hv;refine⟨G,hr,by simp,bZj,?_⟩;cases hf:flat t with
  | true=>exact .inr ⟨rfl,λb hb=> .inl (hG b hb),λh=>by cases h⟩
  | false=>exact .inl ⟨λb hb=> .inl (hG b hb),λh=>by cases h⟩
 .rename_i q;split at hs
  .rename_i e k' t' l deep hrow;split at hs
   .obtain⟨l',hl,he⟩:=bXd.1 hs;injection he with e1 he;injection he with e2 e3;subst e1 e2 e3;obtain⟨e0,rfl⟩:=eI hl;injection e0 with e0;subst e0;have hv:u=c.rv q:=hv;subst hv;obtain⟨G,g1,g2⟩:=aI9 h hrow;obtain⟨n,hm⟩:=oC hrow;exact⟨G,g1,λr' hr'=>by rw[bWp.1 hr'];exact⟨n,e,k',_,_,deep,hm⟩,by simp,.inl g2⟩
   .cases hs
  .cases hs
 .cases hs
theorem aPt{M src:Nat->Prop}{c:Cx}{ow:Nat->Option Nat}(h:aK M src c ow f a w)(hsrc:∀b,M b->src b){ids:List Nat}{dp:Bool}{G H:List Nat}{t:Ty}{es:List (den t)}{news:List Value}(hids:∀r∈ids,∃n e k,∃(t:Ty) (l:List (den t)),∃deep,(r,n,O.row e k t l deep)∈f.ob)
  (ht:vX M c ow w (okB src c ow f.ob) ids dp G\/(flat t=true/\vX M c ow w (okB src c ow f.ob) ids false G)) (hr:RepL w news (es.map (cells t)).flatten H) (hsub:∀b∈H,b∈G) (hnd:G.Nodup->H.Nodup):
  (∀b∈H,okB src c ow (f.frzAll ids).ob b)/\(dp=true->H.Nodup/\ ∀b∈H,M b/\Unf w b/\ ∃r,ow b=some r/\ ∀n x,(r,n,x)∉(f.frzAll ids).ob):=by
 rcases ht with ht | ⟨hno,ht⟩
 .obtain⟨t1,t2⟩:=ht.frozen h hsrc (λr hr=>hr) hids;refine⟨λb hb=>t1 b (hsub b hb),λhd=> ?_⟩;obtain⟨n1,n2⟩:=t2 hd;exact⟨hnd n1,λb hb=>n2 b (hsub b hb)⟩
 .rw[hr.noSl (bH0 λx hx=>by obtain⟨y,_,rfl⟩:=bWr.1 hx;exact aG6 hno y)];exact⟨by simp,λ_=>by simp⟩
theorem bAp{w:World}{B e k:Nat}{v:Value}{n:Nat}{xs:List Value}(h:w.ownsRow B e k v n xs){b:Nat}(hb:sS v=some b):v.ownBlock=some b:=by
 rcases h.2 with ⟨h,_⟩ | ⟨g,cap,cur,h,_⟩
 .rw[h]at hb;cases hb
 .rw[h]at hb ⊢;exact hb
theorem bJy(h:At X f a w)(hsf:f.subFree){d:Nat}(hdst:o.dst=some d)(hd:jD X.n o.dst=true){t:TypeId}{s x:Operand}(hop:o.op= .call {callee:= .builtin .append,args:= #[s,x],argTypes:= #[t,t]})(hv:bEh X.P f d t s x K=some r):uY X E o a w f K r:=by
 unfold bEh at hv;split at hv
 .rename_i e ht;split at hv
  .rename_i i ty hi hty;split at hv
   .rename_i z hz;split at hv
    .rename_i hcond;obtain⟨c1,c2,c3,hp⟩:=hcond;rw[aAl]at c3;split at hv
     .rename_i cs cx hs' hx;split at hv
      .rename_i es2 ids dp hsr;obtain⟨⟨c,ow,hs,hpin⟩,hb,hn⟩:=id h;have hlt:d<a.tmps.size:=by rw[hn];rw[hdst]at hd;exact vJ hd
       have hexec:∀(v u v':Value) (w':World),a.eval s=v->a.eval x=u->(∀ty,(Builtin.append_ #[t,t] ty #[v,u]).run X.P w= .ok v' w')->(execOp a.eval o).run X.P w= .ok (.value v') w':=by
        intro v u v' w' hv1 hu1 hr;simp[execOp,hop,resolve,invoke,builtin,hv1,hu1,hr]
       obtain⟨F0,f1,f3,f4,f5⟩:=aX7 hs hsr (hs.getC hx);have hk2:∀y∈es2.map (cells ty),y.length=i.size:=λy hy=>by obtain⟨y',_,rfl⟩:=bWr.1 hy;rw[cE,c3]
       split at hv
       .rcases aY hv with ⟨p1,hv⟩ | ⟨_,hv⟩
        .have p1:(0+es2.length) * (i.bytes+1)<=140737488355328:=by simpa [aP] using p1
         refine⟨_,hv,(Ext.frzAll f ids).trans (Ext.newOb _ d _ _),λKp Q hK=> ?_⟩;have hvs:a.eval s= .slice none 0 0:=hs.getC hs';have hown:w.ownsRow 0 e i.size (.slice none 0 0) 0 []:=⟨by simp,.inl ⟨rfl,rfl⟩⟩
         obtain⟨v',w',news,G,g1,g2,g3,g4,g5,g6,g7⟩:=aZ6 (P:=X.P) (ty:=0) (es:=es2.map (cells ty)) ht hi hz c1 c2 hown f1 hk2 (by rw[bXe];exact p1) (bW3 _);have hsame:∀ty,(Builtin.append_ #[t,t] ty #[.slice none 0 0,a.eval x]).run X.P w= .ok v' w':=λty=>g1
         have hG:=aPt hs X.hsrc f3 f5 g5 g6 g7;have hbk:∀b,b<w.heap.size->w'.heap[b]? =w.heap[b]? :=λb hlt=>g3.block b hlt (by simp[Value.ownBlock])
         rw[bXm,bXc,bXe]at g2;obtain⟨ow',h1⟩:=(hs.frzAll X.hsrc ids).putRow (uH hsf ids) (d:=d) (was:=none) (by simp) (deep:=dp) (l:=es2) (t:=ty) (v:=v') g3.size (λb hb _=>hbk b hb) (by
           rcases g4 with g4 | g4
           .exact .inl g4
           .exact .inr (.inr g4)) (λb hb=>by
           rcases g4 with g4 | g4
           .rw[g4]at hb;cases hb
           .rw[g4]at hb;injection hb with hb;subst hb;exact h.hM) g2 c2 c3
          (g5.frame λb hb=>hbk b (g5.lt b hb)) (λb hb=>⟨g5.lt b hb,hG.1 b hb⟩) (λhdp=>by
           obtain⟨n1,n2⟩:=hG.2 hdp;refine⟨n1,λb hb=> ?_⟩;obtain⟨m1,m2,r',m3,m4⟩:=n2 b hb;exact⟨m1,m2.keep (hbk b (g5.lt b hb)),r',m3,.inr m4⟩)
         unfold Oper.wp;rw[hexec _ _ v' w' hvs rfl hsame];simp only[Oper.upon,hdst];exact hK _ _ ⟨⟨_,ow',aIp h1 hlt,hpin.rv hp _⟩,hb.grown g3 (by simp[Value.ownBlock]),by rw[wP];exact hn⟩ ⟨(λhw=>by rw[hop]at hw;simp[tE]at hw),⟨v',by rw[hdst],(λha=>by rw[hop]at ha;cases ha),λ_ _ _ b hb0=> .inl (by
          have hbo:=bAp g2 hb0;rcases g4 with g4 | g4
          .rw[g4]at hbo;cases hbo
          .rw[g4]at hbo;injection hbo with hbo;omega)⟩,λ_ _ b hlt _=>hbk b hlt,g3.size⟩
        .cases hv
       .rename_i q;split at hv
        .rename_i e1 k1 t1 l1 deep1 hrow;split at hv
         .rename_i es1 hcast;obtain⟨e0,he0⟩:=eI hcast;injection e0 with e0;subst e0;have he0:l1=es1:=he0;subst he0;split at hv
          .rename_i hc2;obtain⟨rfl,rfl,hrd,hrids,hpq⟩:=hc2;rcases aY hv with ⟨p1,hv⟩ | ⟨_,hv⟩
           .have p1:(l1.length+es2.length) * (i.bytes+1)<=140737488355328:=by simpa [aP] using p1
            refine⟨_,hv,((Ext.frzAll f ids).trans (Ext.add _ q _)).trans (Ext.put _ _ _),λKp Q hK=> ?_⟩;have hvs:a.eval s=c.rv q:=hs.getC hs';obtain⟨m,hmem⟩:=oC hrow;obtain⟨m1,hm1⟩:=aFw hrids hmem;have h0:=hs.frzAll X.hsrc ids;obtain⟨r0,r1,r2,xs,F1,r3,r4,r5,r6⟩:=h0.ob _ _ _ hm1;obtain⟨v',w',news,G,g1,g2,g3,g4,g5,g6,g7⟩:=aZ6 (P:=X.P) (ty:=0) (es:=es2.map (cells t1)) ht hi hz c1 c2 r3 f1 hk2 (by rw[bXe];exact p1) (bW3 _);have hsame:∀ty,(Builtin.append_ #[t,t] ty #[c.rv q,a.eval x]).run X.P w= .ok v' w':=λty=>g1
            have hG:=aPt hs X.hsrc f3 f5 g5 g6 g7;have hnl:∀b,okB X.src c ow (f.frzAll ids).ob b->some b≠(c.rv q).ownBlock:=λb hok e=>hok.2 ⟨q,m1,_,hm1,e.symm⟩
            have hbk:∀b,b<w.heap.size->okB X.src c ow (f.frzAll ids).ob b->w'.heap[b]? =w.heap[b]? :=λb hlt hok=>g3.block b hlt (hnl b hok)
            have hrep:RepL w' (xs++news) ((l1++es2).map (cells t1)).flatten (F1++G):=by
             rw[List.map_append,List.flatten_append];exact (r4.frame λb hb=>hbk b (r4.lt b hb) (r5 b hb)).append (g5.frame λb hb=>hbk b (g5.lt b hb) (hG.1 b hb))
            rw[bXe]at g2;obtain⟨ow',h1⟩:=h0.putRow (uH hsf ids) (d:=q) (was:=(c.rv q).ownBlock) (λb hb=>⟨(r2 b hb).2,⟨q,m1,_,hm1,hb⟩⟩) (deep:=deep1&&dp) (l:=l1++es2) (t:=t1) (v:=v') g3.size (λb hlt hne=>g3.block b hlt hne) (.inr g4) (λb hb=>by
              rcases g4 with g4 | g4
              .rw[g4]at hb;exact (r2 b hb).1
              .rw[g4]at hb;injection hb with hb;subst hb;exact h.hM) (by rw[bW9];exact g2) c2 c3 hrep (λb hb=>by
              rcases bWq.1 hb with hb | hb
              .exact⟨r4.lt b hb,r5 b hb⟩
              .exact⟨g5.lt b hb,hG.1 b hb⟩)
             (λhdp=>by
              simp only[bWj]at hdp;obtain⟨n1,n2⟩:=r6 hdp.1;obtain⟨n3,n4⟩:=hG.2 hdp.2;refine⟨bXr.2 ⟨n1,n3,λz hz z' hz' hzz=> ?_⟩,λb hb=> ?_⟩
              .subst hzz;obtain⟨_,m2,_⟩:=n2 z hz;obtain⟨_,_,r',m3,m4⟩:=n4 z hz';rw[m2]at m3;injection m3 with m3;subst m3;exact m4 _ _ hm1
              .rcases bWq.1 hb with hb | hb
               .obtain⟨m1,m2,m3,m4⟩:=n2 b hb;exact⟨m1,m4.keep (hbk b (r4.lt b hb) (r5 b hb)),q,m2,.inl rfl⟩
               .obtain⟨m1,m2,r',m3,m4⟩:=n4 b hb;exact⟨m1,m2.keep (hbk b (g5.lt b hb) (hG.1 b hb)),r',m3,.inr m4⟩)
            unfold Oper.wp;rw[hexec _ _ v' w' hvs rfl hsame];simp only[Oper.upon,hdst];exact hK _ _ ⟨⟨_,ow',h1.put hlt (by simp[gQ,cK,aM,Cx.setRv]),hpin.rv hpq _⟩,hb.grown g3 (λb hb=>(r2 b hb).1),by rw[wP];exact hn⟩ ⟨(λhw=>by rw[hop]at hw;simp[tE]at hw),⟨v',by rw[hdst],(λha=>by rw[hop]at ha;cases ha),λ_ y hy b hb0=>by
             rw[hop]at hy;injection hy with hy;subst hy;have hbo:=bAp g2 hb0;rcases g4 with g4 | g4
             .rw[g4]at hbo;refine .inr ?_;rw[hvs];obtain⟨ad,nn,cc,hrv⟩:=hs.rvs q;rw[hrv]at hbo ⊢;cases ad with
              | none=>cases hbo
              | some ad=>exact hbo
             .rw[g4]at hbo;injection hbo with hbo;exact .inl (bYh hbo)⟩,λy hy b hlt hne=>g3.block b hlt (λe=>by
             rw[hop]at hy;injection hy with hy;subst hy;obtain⟨ad,nn,cc,hrv⟩:=hs.rvs q;rw[hrv]at e;cases ad with
             | none=>cases e
             | some ad=>injection e with e;exact hne ad.block (by rw[hvs,hrv];rfl) e),g3.size⟩
           .cases hv
          .cases hv
         .cases hv
        .cases hv
       .cases hv
      .cases hv
     .cases hv
    .cases hv
   .cases hv
  .cases hv
 .cases hv
end
end Go.V
set_option linter.unusedVariables false
set_option linter.unusedSectionVars false
namespace Go.V
open Go.Ab Go.RowKit
section
variable {P:Program} {w:World} {a:Act} {o:Oper} {B:Nat}
def aNi(v:Value):List Value->Prop
 | [u]=>v=u
 | us=>v= .tuple us.toArray
def aI1(P:Program)(f:FuncId):Prop:= ∀(args:Array Value) (w:World),(callFunc f args).run P w= .ok (.enter f args) w
theorem bGo{P:Program}{f:FuncId}{fn:Func}(hf:P.funcs[f]? =some fn)(hn:(fn.name=="runtime.NumGoroutine")=false)(hb:fn.body.isNone=false):aI1 P f:=by
 intro args w;have h1:fn.name≠"runtime.NumGoroutine":=by simpa using hn
 have h2:fn.body≠none:=by intro h;rw[h]at hb;cases hb
 simp[callFunc,hf,h1,h2]
theorem aJ3{cl:Call}{f:FuncId}(hop:o.op= .call cl)(hf:cl.callee= .value (.func f))(he:aI1 P f)(w:World):(execOp a.eval o).run P w= .ok (.enter f (cl.args.map a.eval)) w:=by
 have h1:=he (cl.args.map a.eval++ #[]) w;simp only[execOp,hop,resolve,hf,Act.eval,Sem.run_bind];simp[Deferred.ofValue,invoke];simpa using h1
def aK8(tmps:Array Value):ResultVar->Sem Value
 | .tmp t=>pure (tmps.getD t undef)
 | .cell ad t=>do loadVar t (<- asAddr (tmps.getD ad undef))
theorem bEq(fn:Func)(tmps:Array Value):results fn tmps=(do let vs <- fn.results.mapM (aK8 tmps);pure (if h:vs.size=1 then vs[0] else .tuple vs)):=by
 have :(aK8 tmps)=(fun | .tmp t=>pure (tmps.getD t undef) | .cell a t=>do loadVar t (<- asAddr (tmps.getD a undef))):=by
  funext r;cases r<;>rfl
 rw[this];rfl
end
section
variable {X:Ctx} {E:List Con} {f:F} {a:Act} {w:World} {o:Oper} {R:Type} {K:F->Option R} {r:R}
theorem aFa(h:At X f a w)(hsf:f.subFree)(hd:jD X.n o.dst=true)(hv:aPs X.P f o.dst K o.op=some r):uY X E o a w f K r:=by
 unfold aPs at hv;split at hv
 .rename_i t hop;split at hv
  .rename_i d i hdst hi;split at hv
   .rename_i z hz;split at hv
    .rename_i hp;exact bDs h hsf hop hdst hd hi hz hp.1 hp.2 hv
    .cases hv
   .cases hv
  .cases hv
 .rename_i t x hop;split at hv
  .rename_i d y hdst hx;split at hv
   .rename_i hp;exact bJ5 h hsf hop hdst hd hx hp.1 hp.2 hv
   .cases hv
  .cases hv
 .rename_i t p x hop;split at hv
  .rename_i hdst;unfold bAu at hv;split at hv
   .rename_i i off y inf hp hx hi;split at hv
    .rename_i cs hbx;split at hv
     .rename_i hc;exact aTm h hsf hop hdst hp hx hi hbx hc.1 hc.2.1 hc.2.2 hv
     .cases hv
    .cases hv
   .rename_i q k i off y inf hp hx hi;split at hv
    .rename_i e k' ty l deep hrow;split at hv
     .rename_i ids dp hmv;split at hv
      .rename_i hc;obtain⟨rfl,c1,c2,c3,c4⟩:=hc;obtain⟨_,rlen,_⟩:=id (show aCm X.M _ _ w _ q e k ty l deep from (h.1.choose_spec.choose_spec.1).obj hrow);split at hv
       .rename_i hfull;split at hv
        .rename_i z hdat;rcases aY hv with ⟨hil,hv⟩ | ⟨_,hv⟩
         .have hil:i<l.length:=by simpa using hil
          refine aIl (n:=0) h hsf hop hdst hp hx hi hrow hmv c1 c2 c3 c4 hil ⟨cells ty z,xA hdat,?_⟩ hv;rw[hfull.1];unfold sp;simp[cE]
         .cases hv
        .cases hv
       .obtain⟨el,hel,hv⟩:=bind_some hv;have hil:i<l.length:=(bWn.1 hel).1;have hele:l[i]=el:=(bWn.1 hel).2;split at hv
        .rename_i z hdat;refine aIl (n:=0) h hsf hop hdst hp hx hi hrow hmv c1 c2 c3 c4 hil ?_ hv;obtain⟨ts,h1,h2⟩:=aDu (f:=f) (by rw[rlen];exact c2) hdat;exact⟨ts,h1,by rw[hele];exact h2⟩
        .cases hv
      .cases hv
     .cases hv
    .rename_i k' ty l hrow;split at hv
     .rename_i hc;obtain⟨rfl,c1,c2,c3⟩:=hc;obtain⟨el,hel,hv⟩:=bind_some hv;split at hv
      .rename_i tz z ty' z' hy hold;split at hv
       .rename_i hf;split at hv
        .rename_i el' hdat;exact aTn h hsf hop hdst hp hx hi hrow c1 c2 c3 hel hy hold hf.1 hf.2 hdat hv
        .cases hv
       .cases hv
      .cases hv
     .cases hv
    .cases hv
   .cases hv
  .cases hv
 .rename_i t x y hop;split at hv
  .rename_i d e k1 n k2 m hdst ht hx hy;split at hv
   .rename_i i ty hi hty;split at hv
    .rename_i z hz;split at hv
     .rename_i z0 hz0;split at hv
      .rename_i hc;rcases aY hv with ⟨hok,hv⟩ | ⟨_,hv⟩
       .exact bGe h hsf hdst hd hop ht hx hy hi hz hz0 hc.1 hc.2.1 hc.2.2 hok hv
       .cases hv
      .cases hv
     .cases hv
    .cases hv
   .cases hv
  .cases hv
 .rename_i t len ps hop;split at hv
  .rename_i d e hdst ht;split at hv
   .rename_i i ty hi hty;split at hv
    .rename_i es ids dp hl;split at hv
     .rename_i hc;obtain⟨c1,c0,c2,c3,c4,c5,c6⟩:=hc;exact bL4 h hsf hdst hd hop ht hi hl c1 c0 c2 c3 c4 c5 c6 hv
     .cases hv
    .cases hv
   .cases hv
  .cases hv
 .rename_i cl hop;split at hv
  .rename_i d s x t t' hdst hcal hargs htys;split at hv
   .rename_i htt;subst htt;refine bJy h hsf hdst hd ?_ hv;rw[hop];congr 1;obtain⟨cal,ar,ty⟩:=cl;simp only at hcal hargs htys;obtain⟨ar⟩:=ar;obtain⟨ty⟩:=ty;simp only at hargs htys;subst hcal hargs htys;rfl
   .cases hv
  .cases hv
 .cases hv
def vL(vs:List Value):Act:={tmps:=vs.toArray,defers:=[]}
def bVc(P:Program)(fid:FuncId)(pre post:F):Prop:=
 aI1 P fid/\ ∀(w:World) (M src:Nat->Prop) (c:Cx) (ow:Nat->Option Nat) (vs:List Value),
  (∀b,w.heap.size<=b->M b)->(∀b,M b->src b)->aK M src c ow pre (vL vs) w->vs.length=pre.fr.length->
  Calls P fid vs.toArray w λe w'=> ∃v us c' ow',e= .returned v/\aNi v us/\lK M w w'/\aK M src c' ow' post (vL us) w'/\us.length=post.fr.length/\ ∀o,pinned o=true->c'.loc o=c.loc o/\c'.rv o=c.rv o
def Con.Ok(P:Program)(c:Con):Prop:= ∀x y f g,c.sem x=some y->F0.inj c.pre x=some f->F0.inj c.post y=some g->bVc P c.f f g
theorem aDh:∀{ts:List Ty} {xs:List TV} {y:sC ts},aHd ts xs=some y->aNw ts y=xs
 | [],[],y,h=>rfl
 | [],_::_,y,h=>by cases h
 | [t],[],y,h=>by cases h
 | [t],[x],y,h=>by
  obtain⟨e,he⟩:=eI h;obtain⟨tx,vx⟩:=x;subst e;subst he;rfl
 | [t],_::_::_,y,h=>by cases h
 | t::t'::ts,[],y,h=>by cases h
 | t::t'::ts,x::xs,y,h=>by
  simp only[aHd]at h;split at h
  .rename_i z zs h1 h2;injection h with h;subst h;obtain⟨e,he⟩:=eI h1;obtain⟨tx,vx⟩:=x;subst e;subst he;show _::aNw (t'::ts) zs=_;rw[aDh h2]
  .cases h
def aP7(f:F)(d x:C):Prop:= ∃(t:Ty) (y:den t),d= .v t y/\f.data t x=some y
theorem aXi{ct:CT}{x:C}{tvs:List TV}(h:bJv f ct x=some tvs)(rest:List TV):∃d,ct.inj (tvs++rest)=some (d,rest)/\aP7 f d x:=by
 cases ct with
 | var t=>
  obtain⟨y,hy,rfl⟩:=bXd.1 h;exact⟨.v t y,by show (fO t t y).map _=_;rw[gN];rfl,t,y,rfl,hy⟩
 | _=>cases h
theorem aWo:∀{cts:List CT} {cs:List C} {tvs:List TV},bB9 f cts cs=some tvs-> ∀rest,∃ds,aC5 cts (tvs++rest)=some (ds,rest)/\aQ (aP7 f) ds cs
 | [],[],tvs,h,rest=>by injection h with h;subst h;exact⟨[],rfl,.nil⟩
 | [],_::_,tvs,h,rest=>by cases h
 | _::_,[],tvs,h,rest=>by cases h
 | ct::cts,x::xs,tvs,h,rest=>by
  simp only[bB9]at h;split at h
  .rename_i a b h1 h2;injection h with h;subst h;obtain⟨ds,g1,g2⟩:=aWo h2 rest;obtain⟨d,g3,g4⟩:=aXi h1 (b++rest);refine⟨d::ds,?_,.cons g4 g2⟩;rw[bW6];simp[aC5,g3,g1]
  .cases h
def bS7(f:F):A->A->Prop
 | .one d,.one x=>aP7 f d x
 | .agg ds,.agg xs=>aQ (aP7 f) ds xs
 | _,_=>False
inductive aCl (f:F):Nat->List (Nat×Nat×S)->List Operand->Prop
 | nil {i:Nat}:aCl f i [] []
 | cons {i:Nat} {d y:A} {x:Operand} {fr:List (Nat×Nat×S)} {xs:List Operand} (hx:f.get x=some (.val y)) (h:bS7 f d y) (hs:aCl f (i+1) fr xs):aCl f i ((i,0,.val d)::fr) (x::xs)
theorem aXz:∀{i:Nat} {hs:List (Nat×ST)} {xs:List Operand} {tvs:List TV},aOj f i hs xs=some tvs-> ∀rest,∃fr,nZ F0 hs (tvs++rest)=some (fr,rest)/\aCl f i fr xs
 | i,[],[],tvs,h,rest=>by injection h with h;subst h;exact⟨[],rfl,.nil⟩
 | i,[],_::_,tvs,h,rest=>by cases h
 | i,_::_,[],tvs,h,rest=>by cases h
 | i,(j,st)::hs,x::xs,tvs,h,rest=>by
  simp only[aOj]at h;split at h
  .rename_i hij;subst hij;split at h
   .rename_i a b h1 h2;injection h with h;subst h;obtain⟨fr,g1,g2⟩:=aXz h2 rest;unfold bUd at h1;split at h1
    .rename_i ct y hg;obtain⟨d,g3,g4⟩:=aXi h1 (b++rest);refine⟨(i,0,.val (.one d))::fr,?_,.cons hg g4 g2⟩;rw[bW6,nZ,g3];simp only[g1];rfl
    .rename_i cts ys hg;obtain⟨ds,g3,g4⟩:=aWo h1 (b++rest);refine⟨(i,0,.val (.agg ds))::fr,?_,.cons hg g4 g2⟩;rw[bW6,nZ,g3];simp only[g1];rfl
    .cases h1
   .cases h
  .cases h
theorem bRg{M src:Nat->Prop}{c:Cx}{ow:Nat->Option Nat}(h:aK M src c ow f a w){t:Ty}{x:C}{y:den t}{v:Value}(hd:f.data t x=some y)(hv:aM c ow w (okB src c ow f.ob) v x)(hr:∀r,x≠ .row r)(hs:x.isSub=false):∃G,Rep w v (dW t y) G/\ ∀b∈G,okB src c ow f.ob b:=by
 unfold F.data at hd;split at hd
 .obtain⟨rfl,rfl⟩:=eI hd;exact hv
 .split at hd
  .injection hd with hd;subst hd;have hv:v= .slice none 0 0:=hv;subst hv;exact⟨[],.nil (bW3 _),by simp⟩
  .cases hd
 .rename_i r;exact absurd rfl (hr r)
 .cases hs
 .cases hd
end
end Go.V
