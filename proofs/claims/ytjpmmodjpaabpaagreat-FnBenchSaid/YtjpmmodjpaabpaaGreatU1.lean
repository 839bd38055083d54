/-
  Typed frames and what code makes of them, over any program: part 1. Conditions: none.
-/
import Derived.WalkKit
import Derived.Below
import Derived.Maps.AppendAt
import Derived.Deep.Draws
import Derived.OrdersHeld
open Array renaming getElem?_eq_some_iff->GG,toList_map->Kj,length_toList->N9,getElem?_modify->ZF
open List renaming mem_cons->Cl,getElem?_eq_getElem->Cs,mem_append->C0,mem_cons_self->CC,mem_cons_of_mem->C1,mem_append_left->Ds,mem_append_right->D5,append_assoc->CY,flatten_cons->Fu,drop_eq_nil_of_le->Mm,nil_append->CH,length_append->C7,length_cons->C6,replicate->Dx,range->Es,any_eq_false->Da,mem_filter->C2,mem_map->Ch,map_cons->CA,getElem?_eq_some_iff->Cu,getElem?_take->Ft,getElem?_drop->Ex,drop_drop->R0,exists_mem_of_length_pos->ZD,mem_of_mem_drop->IH,mem_of_mem_take->IE,foldl_cons->EX,length_eq_zero_iff->P8,take_left->Mn,take_append_drop->FW,cons_append->ZA,mem_of_find?_eq_some->H4,find?_some->Ki,length_take->Dy,length_drop->IJ,length_map->CF,all_cons->Mk,any_cons->UP,nodup_nil->Rz,nodup_cons->EW,flatten_append->R3,append_nil->CU,getElem?_map->FV,take_of_length_le->cQt,take_take->UN,nodup_append->DB,mem_singleton->Cy,set_eq_take_append_cons_drop->R4
open Nat renaming succ_mul->CZ,lt_of_lt_of_le->N8,le_refl->Cz,le_trans->B5,le_succ->Et,add_assoc->GJ,zero_le->C3,eq_zero_or_pos->P7,mul_le_mul_right->DA,zero_add->Dc,le_of_eq->ID,add_zero->ZB
open Bool renaming and_eq_true->Ck,false_eq_true->Cg,or_eq_false_iff->Kf
open Option renaming map_some->Kg,map_eq_some_iff->CX,map_none->Kh
open Int renaming toNat_of_nonneg->Mo
theorem zZ {α:Type _} (a b:α):cond true a b=a:=rfl
theorem zY {α:Type _} (a b:α):cond false a b=b:=rfl
theorem zX {p:Prop} [Decidable p] (h:p):decide p=true:=_root_.decide_eq_true h
theorem zW {p:Prop} [Decidable p] (h:¬p):decide p=false:=_root_.decide_eq_false h
theorem zV {α:Sort _} {_:Decidable True} (t e:α):ite True t e=t:=_root_.if_true t e
theorem zU {α:Sort _} {_:Decidable False} (t e:α):ite False t e=e:=_root_.if_false t e
theorem zT {c:Prop} {h:Decidable c} (hc:c) {α:Sort _} {t e:α}:ite c t e=t:=_root_.if_pos hc
theorem zS {c:Prop} {h:Decidable c} (hc:¬c) {α:Sort _} {t e:α}:ite c t e=e:=_root_.if_neg hc
theorem zR {p:Prop} [Decidable p]:(decide p=true)=p:=_root_.decide_eq_true_eq
open Option renaming some→U
open Option renaming none→N
open Decidable renaming decide→W
open Bool renaming true→Y
open Bool renaming false→Z
namespace Go.Ab
open Go.RowKit
inductive T where
 | lit (v:Value)
 | sl (es:List (List T))
 | nil
 | row (r:Nat)
 | ptr (o off:Nat)
 | ep (e:List T) (off:Nat)
 | rp (r k i off:Nat)
 | any
 deriving Inhabited
def plain:Value->Bool
 | .int k n=>W (k.min<=n)&&W (n<=k.max)
 | .bool _=>Y
 | .string s=>W (s.size<=maxLen)
 | _=>Z
mutual
inductive Rep (w:World):Value->T->List Nat->Prop
 | lit {v:Value} (h:plain v=Y):Rep w v (.lit v) []
 | nil {a:Option Addr} {c:Nat} (hc:c<=maxLen):Rep w (.slice a 0 c) (.sl []) []
 | cons {b off n c k:Nat} {es:List (List T)} {xs:List Value} {F:List Nat} (hn:es.length=n) (h0:0<n) (hk0:0<k) (hk:∀e∈es,e.length=k) (hc:n<=c) (hm:c<=maxLen)
   (hx:xs.length=n * k) (hcell:∀j u,xs[j]? =U u->w.cell? ⟨b,off+j,N⟩=U u) (hr:RepL w xs es.flatten F):Rep w (.slice (U ⟨b,off,N⟩) n c) (.sl es) (b::F)
inductive RepL (w:World):List Value->List T->List Nat->Prop
 | nil:RepL w [] [] []
 | cons {v:Value} {t:T} {F:List Nat} {vs:List Value} {ts:List T} {G:List Nat} (h:Rep w v t F) (hs:RepL w vs ts G):RepL w (v::vs) (t::ts) (F++G)
end
theorem RepL.length{w:World}{vs:List Value}{ts:List T}{F:List Nat}(h:RepL w vs ts F):vs.length=ts.length:=
 RepL.rec (motive_1:=λ_ _ _ _=>True) (motive_2:=λvs ts _ _=>vs.length=ts.length) (λ_=>trivial) (λ_=>trivial) (λ_ _ _ _ _ _ _ _ _ _=>trivial) rfl
  (λ_ _ _ ih=>by simp[ih]) h
theorem cell?_lt{w:World}{a:Addr}{u:Value}(h:w.cell? a=U u):a.block<w.heap.size:=by
 unfold World.cell? at h;split at h
 .rename_i c _ _ hb;exact (GG.1 hb).1
 .cases h
theorem Rep.lt{w:World}{v:Value}{t:T}{F:List Nat}(h:Rep w v t F):∀b∈F,b<w.heap.size:=
 Rep.rec (motive_1:=λ_ _ F _=> ∀b∈F,b<w.heap.size) (motive_2:=λ_ _ F _=> ∀b∈F,b<w.heap.size) (λ_=>by simp) (λ_=>by simp)
  (λ{b off n c k es xs F} hn h0 hk0 hk hc hm hx hcell hr ih=>by
   intro x hx';rcases Cl.1 hx' with rfl | hx'
   .have hp:0<xs.length:=by rw[hx];exact Nat.mul_pos h0 hk0
    exact cell?_lt (hcell 0 xs[0] (Cs hp))
   .exact ih x hx')
  (by simp) (λ_ _ ih1 ih2 b hb=>(C0.1 hb).elim (ih1 b) (ih2 b)) h
theorem RepL.lt{w:World}{vs:List Value}{ts:List T}{F:List Nat}(h:RepL w vs ts F):∀b∈F,b<w.heap.size:=
 RepL.rec (motive_1:=λ_ _ F _=> ∀b∈F,b<w.heap.size) (motive_2:=λ_ _ F _=> ∀b∈F,b<w.heap.size) (λ_=>by simp) (λ_=>by simp)
  (λ{b off n c k es xs F} hn h0 hk0 hk hc hm hx hcell hr ih=>by
   intro x hx';rcases Cl.1 hx' with rfl | hx'
   .have hp:0<xs.length:=by rw[hx];exact Nat.mul_pos h0 hk0
    exact cell?_lt (hcell 0 xs[0] (Cs hp))
   .exact ih x hx')
  (by simp) (λ_ _ ih1 ih2 b hb=>(C0.1 hb).elim (ih1 b) (ih2 b)) h
theorem Rep.frame{w w':World}{v:Value}{t:T}{F:List Nat}(h:Rep w v t F)(hF:∀b∈F,w'.heap[b]? =w.heap[b]?):Rep w' v t F:=
 Rep.rec (motive_1:=λv t F _=>(∀b∈F,w'.heap[b]? =w.heap[b]?)->Rep w' v t F) (motive_2:=λvs ts F _=>(∀b∈F,w'.heap[b]? =w.heap[b]?)->RepL w' vs ts F)
  (λh _=> .lit h) (λh _=> .nil h)
  (λhn h0 hk0 hk hc hm hx hcell _ ih hF=> .cons hn h0 hk0 hk hc hm hx (λj u hu=>(World.cell?_of_block (hF _ (CC ..))).trans (hcell j u hu)) (ih λb hb=>hF b (C1 _ hb)))
  (λ_=> .nil) (λ_ _ ih1 ih2 hF=> .cons (ih1 λb hb=>hF b (Ds _ hb)) (ih2 λb hb=>hF b (D5 _ hb))) h hF
theorem RepL.frame{w w':World}{vs:List Value}{ts:List T}{F:List Nat}(h:RepL w vs ts F)(hF:∀b∈F,w'.heap[b]? =w.heap[b]?):RepL w' vs ts F:=
 RepL.rec (motive_1:=λv t F _=>(∀b∈F,w'.heap[b]? =w.heap[b]?)->Rep w' v t F) (motive_2:=λvs ts F _=>(∀b∈F,w'.heap[b]? =w.heap[b]?)->RepL w' vs ts F)
  (λh _=> .lit h) (λh _=> .nil h)
  (λhn h0 hk0 hk hc hm hx hcell _ ih hF=> .cons hn h0 hk0 hk hc hm hx (λj u hu=>(World.cell?_of_block (hF _ (CC ..))).trans (hcell j u hu)) (ih λb hb=>hF b (C1 _ hb)))
  (λ_=> .nil) (λ_ _ ih1 ih2 hF=> .cons (ih1 λb hb=>hF b (Ds _ hb)) (ih2 λb hb=>hF b (D5 _ hb))) h hF
theorem RepL.append{w:World}{vs vs':List Value}{ts ts':List T}{F G:List Nat}(h:RepL w vs ts F)(h':RepL w vs' ts' G):RepL w (vs++vs') (ts++ts') (F++G):=
 RepL.rec (motive_1:=λ_ _ _ _=>True) (motive_2:=λvs ts F _=>RepL w (vs++vs') (ts++ts') (F++G)) (λ_=>trivial) (λ_=>trivial) (λ_ _ _ _ _ _ _ _ _ _=>trivial)
  h' (λhv _ _ ih=>by simpa using RepL.cons hv ih) h
theorem RepL.get{w:World}:∀{vs:List Value} {ts:List T} {F:List Nat},RepL w vs ts F-> ∀{j:Nat} {t:T},ts[j]? =U t-> ∃v G,vs[j]? =U v/\Rep w v t G/\ ∀b∈G,b∈F:=by
 intro vs
 induction vs with
 | nil=>intro ts F h j t ht;cases h;simp at ht
 | cons v vs ih=>
  intro ts F h j t ht;cases h with
  | cons h hs=>
   cases j with
   | zero=>simp at ht;subst ht;exact⟨v,_,rfl,h,λb hb=>Ds _ hb⟩
   | succ j=>
    obtain⟨u,G,h1,h2,h3⟩:=ih hs (j:=j) (t:=t) (by simpa using ht);exact⟨u,G,by simpa using h1,h2,λb hb=>D5 _ (h3 b hb)⟩
theorem RepL.take{w:World}:∀{vs:List Value} {ts:List T} {F:List Nat},RepL w vs ts F-> ∀n,∃G H,RepL w (vs.take n) (ts.take n) G/\RepL w (vs.drop n) (ts.drop n) H/\F=G++H:=by
 intro vs
 induction vs with
 | nil=>intro ts F h n;cases h;exact⟨[],[],by simpa using .nil,by simpa using .nil,rfl⟩
 | cons v vs ih=>
  intro ts F h n;cases h with
  | cons h hs=>
   cases n with
   | zero=>exact⟨[],_,.nil,.cons h hs,rfl⟩
   | succ n=>
    obtain⟨G,H,h1,h2,h3⟩:=ih hs n;exact⟨_,H,.cons h h1,h2,by rw[h3,CY]⟩
theorem rU{es:List (List T)}{k:Nat}(hk:∀e∈es,e.length=k){i:Nat}{e:List T}(he:es[i]? =U e):(es.flatten.drop (i * k)).take k=e:=by
 induction es generalizing i with
 | nil=>simp at he
 | cons x xs ih=>
  have hx:x.length=k:=hk x (CC ..);cases i with
  | zero=>simp at he;subst he;simp[hx]
  | succ i=>
   have he':xs[i]? =U e:=by simpa using he
   have :=ih (λe he=>hk e (C1 _ he)) he';have h1:(i+1) * k=i * k+k:=CZ i k;have h2:(i+1) * k - x.length=i * k:=by rw[h1,hx];omega
   rw[Fu,List.drop_append,h2,Mm (by rw[hx,h1];omega),CH];exact this
theorem sY{es:List (List T)}{k:Nat}(hk:∀e∈es,e.length=k):es.flatten.length=es.length * k:=by
 induction es with
 | nil=>simp
 | cons x xs ih=>
  rw[Fu,C7,ih (λe he=>hk e (C1 _ he)),hk x (CC ..),C6,CZ,Nat.add_comm]
end Go.Ab
set_option linter.unusedVariables false
namespace Go.V
open Go.Ab Go.RowKit
inductive Ty where
 | int (k:IntKind)
 | bool
 | str
 | sl (t:Ty)
 | pair (a b:Ty)
 deriving DecidableEq
@[reducible] def den:Ty->Type
 | .int _=>Int
 | .bool=>Bool
 | .str=>ByteArray
 | .sl t=>List (den t)
 | .pair a b=>den a×den b
def cells:(t:Ty)->den t->List T
 | .int k,x=>[.lit (.int k x)]
 | .bool,x=>[.lit (.bool x)]
 | .str,x=>[.lit (.string x)]
 | .sl t,x=>[.sl (List.map (cells t) x)]
 | .pair a b,x=>cells a x.1++cells b x.2
def fX:(t:Ty)->den t->T
 | .int k,x=> .lit (.int k x)
 | .bool,x=> .lit (.bool x)
 | .str,x=> .lit (.string x)
 | .sl t,x=> .sl (List.map (cells t) x)
 | .pair _ _,_=> .any
def iK(a b:Ty)(x:den a):Option (den b):=if h:a=b then U (h▸x) else N
inductive C where
 | v (t:Ty) (x:den t)
 | nil
 | row (r:Nat)
 | ptr (o off:Nat)
 | ep (t:Ty) (x:den t) (off:Nat)
 | rp (r k i off:Nat)
 | sub (r k i off:Nat) (t:Ty) (x:List (den t))
 | ip (r k i off m j p:Nat)
 | clo (g o:Nat)
 | rc (r k:Nat) (lo hi:Int)
 | any
inductive A where
 | one (c:C)
 | agg (cs:List C)
inductive S where
 | val (x:A)
 | tup (xs:List A)
 | un
inductive O where
 | box (cs:List C)
 | row (e k:Nat) (t:Ty) (l:List (den t)) (deep:Bool)
 | win (k:Nat) (t:Ty) (l:List (den t))
structure F where
 ctr:Nat
 fr:List (Nat×Nat×S)
 ob:List (Nat×Nat×O)
def split:(t:Ty)->den t->List C
 | .int k,x=>[.v (.int k) x]
 | .bool,x=>[.v .bool x]
 | .str,x=>[.v .str x]
 | .sl t,x=>[.v (.sl t) x]
 | .pair a b,x=>split a x.1++split b x.2
def A.cells:A->List C
 | .one c=>[c]
 | .agg cs=>cs
def F.look(f:F)(s:Nat):Option S:=(f.fr.find? λe=>e.1==s).map (·.2.2)
def F.obj(f:F)(o:Nat):Option O:=(f.ob.find? λe=>e.1==o).map (·.2.2)
def F.put(f:F)(d:Option Nat)(x:S):F:=
 match d with
 | some d=>⟨f.ctr+1,(d,f.ctr,x)::f.fr.filter (λe=>e.1 != d),f.ob⟩
 | none=>f
def Tc:Value->Option S
 | .int k n=>if plain (.int k n) then U (.val (.one (.v (.int k) n))) else N
 | .bool b=>U (.val (.one (.v .bool b)))
 | .string s=>if plain (.string s) then U (.val (.one (.v .str s))) else N
 | .slice N 0 0=>U (.val (.one .nil))
 | .pointer N=>U (.val (.one .any))
 | _=>N
def F.get(f:F):Operand->Option S
 | .tmp t=>f.look t
 | .const v=>Tc v
 | _=>N
def F.getC(f:F)(x:Operand):Option C:=
 match f.get x with
 | some (.val (.one c))=>U c
 | _=>N
def F.data(f:F)(t:Ty):C->Option (den t)
 | .v t' x=>iK t' t x
 | .nil=>match t with
  | .sl _=>U []
  | _=>N
 | .row r=>match f.obj r with
  | some (.row _ _ t' l _)=>iK (.sl t') t l
  | some (.win _ t' l)=>iK (.sl t') t l
  | _=>N
 | .sub _ _ _ _ t' l=>iK (.sl t') t l
 | _=>N
def F.dataL(f:F):(t:Ty)->List C->Option (den t×List C)
 | .pair a b,cs=>match F.dataL f a cs with
  | some (x,cs1)=>match F.dataL f b cs1 with
   | some (y,cs2)=>U ((x,y),cs2)
   | none=>N
  | none=>N
 | .int k,c::cs=>(f.data (.int k) c).map λx=>(x,cs)
 | .bool,c::cs=>(f.data .bool c).map λx=>(x,cs)
 | .str,c::cs=>(f.data .str c).map λx=>(x,cs)
 | .sl t,c::cs=>(f.data (.sl t) c).map λx=>(x,cs)
 | _,[]=>N
def C.names(d:Nat):C->Bool
 | .row r=>r==d
 | .ptr o _=>o==d
 | .rp r _ _ _=>r==d
 | .sub r _ _ _ _ _=>r==d
 | .ip r _ _ _ _ _ _=>r==d
 | .clo _ o=>o==d
 | .rc r _ _ _=>r==d
 | _=>Z
def A.names(d:Nat):A->Bool
 | .one c=>c.names d
 | .agg cs=>cs.any (C.names d)
def S.names(d:Nat):S->Bool
 | .val x=>x.names d
 | .tup xs=>xs.any (A.names d)
 | .un=>Z
def O.names(d:Nat):O->Bool
 | .box cs=>cs.any (C.names d)
 | _=>Z
def wR(d:Nat)(c:C):C:=if c.names d then .any else c
def O.scrub(d:Nat):O->O
 | .box cs=> .box (cs.map (wR d))
 | x=>x
def F.scrub(f:F)(d:Nat):F:=
 ⟨f.ctr+1,f.fr.filter (λe=> !e.2.2.names d),(f.ob.filter λe=>e.1 != d).map λe=>if e.2.2.names d then (e.1,f.ctr,e.2.2.scrub d) else e⟩
def F.add(f:F)(d:Nat)(o:O):F:=⟨(f.scrub d).ctr+1,(f.scrub d).fr,(d,(f.scrub d).ctr,o)::(f.scrub d).ob⟩
def F.newOb(f:F)(d:Nat)(o:O)(c:C):F:=(f.add d o).put (U d) (.val (.one c))
def DC(r:Nat)(t:Ty)(l:List (den t)):C->C
 | .row r'=>if r'=r then .v (.sl t) l else .row r'
 | .rp r' k i off=>if r'=r then .any else .rp r' k i off
 | .sub r' k i off t' x=>if r'=r then .any else .sub r' k i off t' x
 | .ip r' k i off m j p=>if r'=r then .any else .ip r' k i off m j p
 | .rc r' k lo hi=>if r'=r then .any else .rc r' k lo hi
 | c=>c
def A.frz(r:Nat)(t:Ty)(l:List (den t)):A->A
 | .one c=> .one (DC r t l c)
 | .agg cs=> .agg (cs.map (DC r t l))
def S.frz(r:Nat)(t:Ty)(l:List (den t)):S->S
 | .val x=> .val (x.frz r t l)
 | .tup xs=> .tup (xs.map (A.frz r t l))
 | .un=> .un
def O.frz(r:Nat)(t:Ty)(l:List (den t)):O->O
 | .box cs=> .box (cs.map (DC r t l))
 | x=>x
def F.frzRow(f:F)(r:Nat):F:=
 match f.obj r with
 | some (.row _ _ t l _)=>
  ⟨f.ctr+1,f.fr.map (λe=>if e.2.2.names r then (e.1,f.ctr,e.2.2.frz r t l) else e),(f.ob.filter λe=>e.1 != r).map λe=>if e.2.2.names r then (e.1,f.ctr,e.2.2.frz r t l) else e⟩
 | _=>f
def F.frzAll(f:F)(ids:List Nat):F:=ids.foldl F.frzRow f
def F.setOb(f:F)(o:Nat)(x:O):F:=⟨f.ctr+1,f.fr,f.ob.map λe=>if e.1=o then (o,f.ctr,x) else e⟩
def R5(f:F):C->Option (List Nat×Bool)
 | .v (.sl _) _=>U ([],Z)
 | .v _ _=>U ([],Y)
 | .nil=>U ([],Y)
 | .row r=>match f.obj r with
  | some (.row _ _ _ _ deep)=>U ([r],deep)
  | _=>N
 | _=>N
def I9(f:F):List C->Option (List Nat×Bool)
 | []=>U ([],Y)
 | c::cs=>match R5 f c,I9 f cs with
  | some (i1,d1),U (i2,d2)=>U (i1++i2,d1&&d2)
  | _,_=>N
def cA9(g:TypeId->Option Ty):List Field->Option Ty
 | []=>N
 | f::fs=>match g f.type with
  | some a=>match fs with
   | []=>U a
   | _::_=>match cA9 g fs with
    | some b=>U (.pair a b)
    | none=>N
  | none=>N
def Rc(P:Program):Nat->TypeId->Option Ty
 | 0=>λ_=>N
 | n+1=>λt=>
  match P.underlying t with
  | some (.int k)=>U (.int k)
  | some .bool=>U .bool
  | some .string=>U .str
  | some (.slice e)=>(Rc P n e).map .sl
  | some (.struct fs)=>cA9 (Rc P n) fs.toList
  | _=>N
def flat:Ty->Bool
 | .sl _=>Z
 | .pair a b=>flat a&&flat b
 | _=>Y
def zC:Value->C
 | .int k n=>if plain (.int k n) then .v (.int k) n else .any
 | .bool b=> .v .bool b
 | .string s=>if plain (.string s) then .v .str s else .any
 | .slice N 0 0=> .nil
 | _=> .any
def C.solid:C->Bool
 | .clo _ _=>Z
 | _=>Y
def C.isSub:C->Bool
 | .sub _ _ _ _ _ _=>Y
 | .ip _ _ _ _ _ _ _=>Y
 | _=>Z
def A.isSub:A->Bool
 | .one c=>c.isSub
 | .agg cs=>cs.any C.isSub
def S.isSub:S->Bool
 | .val x=>x.isSub
 | .tup xs=>xs.any A.isSub
 | .un=>Z
def O.isSub:O->Bool
 | .box cs=>cs.any C.isSub
 | _=>Z
def Qz(c:C):C:=if c.isSub then .any else c
def O.noSub:O->O
 | .box cs=> .box (cs.map Qz)
 | x=>x
def F.noSubs(f:F):F:=⟨f.ctr+1,f.fr.filter (λe=> !e.2.2.isSub),f.ob.map λe=>if e.2.2.isSub then (e.1,f.ctr,e.2.2.noSub) else e⟩
inductive CT where
 | var (t:Ty)
 | nil
 | row (r:Nat)
 | ptr (o off:Nat)
 | any
inductive ST where
 | keep
 | one (c:CT)
 | agg (cs:List CT)
inductive OT where
 | keep
 | box (cs:List CT)
 | row (e k:Nat) (t:Ty) (deep:Bool)
 | win (k:Nat) (t:Ty)
structure Sh where
 fr:List (Nat×ST)
 ob:List (Nat×OT)
def CT.tys:CT->List Ty
 | .var t=>[t]
 | _=>[]
def ST.tys:ST->List Ty
 | .keep=>[]
 | .one c=>c.tys
 | .agg cs=>cs.flatMap CT.tys
def OT.tys:OT->List Ty
 | .keep=>[]
 | .box cs=>cs.flatMap CT.tys
 | .row _ _ t _=>[.sl t]
 | .win _ t=>[.sl t]
def Sh.tys(h:Sh):List Ty:=h.fr.flatMap (·.2.tys)++h.ob.flatMap (·.2.tys)
@[reducible] def D4:List Ty->Type
 | []=>Unit
 | [t]=>den t
 | t::t'::ts=>den t×D4 (t'::ts)
def TV:Type:=(t:Ty)×den t
def Q7:(ts:List Ty)->D4 ts->List TV
 | [],_=>[]
 | [t],x=>[⟨t,x⟩]
 | t::t'::ts,x=>⟨t,x.1⟩::Q7 (t'::ts) x.2
def MT:(ts:List Ty)->List TV->Option (D4 ts)
 | [],[]=>U ()
 | [t],[x]=>iK x.1 t x.2
 | t::t'::ts,x::xs=>match iK x.1 t x.2,MT (t'::ts) xs with
  | some y,U ys=>U (y,ys)
  | _,_=>N
 | _,_=>N
def CT.inj:CT->List TV->Option (C×List TV)
 | .var t,x::xs=>(iK x.1 t x.2).map λy=>(.v t y,xs)
 | .var _,[]=>N
 | .nil,xs=>U (.nil,xs)
 | .row r,xs=>U (.row r,xs)
 | .ptr o off,xs=>U (.ptr o off,xs)
 | .any,xs=>U (.any,xs)
def Ht:List CT->List TV->Option (List C×List TV)
 | [],xs=>U ([],xs)
 | c::cs,xs=>match c.inj xs with
  | some (y,ys)=>match Ht cs ys with
   | some (zs,us)=>U (y::zs,us)
   | none=>N
  | none=>N
def vY(f:F):List (Nat×ST)->List TV->Option (List (Nat×Nat×S)×List TV)
 | [],xs=>U ([],xs)
 | (s,.keep)::hs,xs=>match f.fr.find? λe=>e.1==s with
  | some e=>match vY f hs xs with
   | some (r,ys)=>U (e::r,ys)
   | none=>N
  | none=>N
 | (s,.one c)::hs,xs=>match c.inj xs with
  | some (y,ys)=>match vY f hs ys with
   | some (r,zs)=>U ((s,f.ctr,.val (.one y))::r,zs)
   | none=>N
  | none=>N
 | (s,.agg cs)::hs,xs=>match Ht cs xs with
  | some (y,ys)=>match vY f hs ys with
   | some (r,zs)=>U ((s,f.ctr,.val (.agg y))::r,zs)
   | none=>N
  | none=>N
def Eg(f:F):List (Nat×OT)->List TV->Option (List (Nat×Nat×O)×List TV)
 | [],xs=>U ([],xs)
 | (o,.keep)::hs,xs=>match f.ob.find? λe=>e.1==o with
  | some e=>match Eg f hs xs with
   | some (r,ys)=>U (e::r,ys)
   | none=>N
  | none=>N
 | (o,.box cs)::hs,xs=>match Ht cs xs with
  | some (y,ys)=>match Eg f hs ys with
   | some (r,zs)=>U ((o,f.ctr,.box y)::r,zs)
   | none=>N
  | none=>N
 | (o,.row e k t deep)::hs,x::xs=>match iK x.1 (.sl t) x.2,Eg f hs xs with
  | some l,U (r,zs)=>U ((o,f.ctr,.row e k t l deep)::r,zs)
  | _,_=>N
 | (o,.win k t)::hs,x::xs=>match iK x.1 (.sl t) x.2,Eg f hs xs with
  | some l,U (r,zs)=>U ((o,f.ctr,.win k t l)::r,zs)
  | _,_=>N
 | _,_=>N
def F.inj(f:F)(h:Sh)(x:D4 h.tys):Option F:=
 match vY f h.fr (Q7 h.tys x) with
 | some (fr,xs)=>match Eg f h.ob xs with
  | some (ob,[])=>U ⟨f.ctr+1,fr,ob⟩
  | _=>N
 | none=>N
def CT.prj:CT->C->Option (List TV)
 | .var t,.v t' x=>(iK t' t x).map λy=>[⟨t,y⟩]
 | .var (.sl t),.nil=>U [⟨.sl t,[]⟩]
 | .nil,.nil=>U []
 | .row r,.row r'=>if r=r' then U [] else N
 | .ptr o off,.ptr o' off'=>if o=o'/\off=off' then U [] else N
 | .any,_=>U []
 | _,_=>N
def Ry:List CT->List C->Option (List TV)
 | [],[]=>U []
 | c::cs,x::xs=>match c.prj x,Ry cs xs with
  | some a,U b=>U (a++b)
  | _,_=>N
 | _,_=>N
def TL(f g:F):List (Nat×ST)->Option (List TV)
 | []=>U []
 | (s,h)::hs=>
  match g.fr.find? (λe=>e.1==s),TL f g hs with
  | some (_,n,x),U ys=>
   match h,x with
   | .keep,_=>match f.fr.find? λe=>e.1==s with
    | some (_,m,_)=>if m=n/\n<f.ctr then U ys else N
    | none=>N
   | .one c,.val (.one y)=>(c.prj y).map (· ++ys)
   | .agg cs,.val (.agg zs)=>(Ry cs zs).map (· ++ys)
   | _,_=>N
  | _,_=>N
def TN(f g:F):List (Nat×OT)->Option (List TV)
 | []=>U []
 | (o,h)::hs=>
  match g.ob.find? (λe=>e.1==o),TN f g hs with
  | some (_,n,x),U ys=>
   match h,x with
   | .keep,_=>match f.ob.find? λe=>e.1==o with
    | some (_,m,_)=>if m=n/\n<f.ctr then U ys else N
    | none=>N
   | .box cs,.box zs=>(Ry cs zs).map (· ++ys)
   | .row e k t deep,.row e' k' t' l deep'=>if e=e'/\k=k'/\t=t'/\(deep=Y->(deep'||flat t')=Y) then U (⟨.sl t',l⟩::ys) else N
   | .win k t,.win k' t' l=>if k=k'/\t=t' then U (⟨.sl t',l⟩::ys) else N
   | _,_=>N
  | _,_=>N
def F.prj(f g:F)(h:Sh):Option (D4 h.tys):=
 match TL f g h.fr,TN f g h.ob with
 | some xs,U ys=>MT h.tys (xs++ys)
 | _,_=>N
inductive Wk where
 | pick (ss os:List Nat)
 | frz (r:Nat)
 | ren (d e:Nat)
 | nilS (s j a e k:Nat) (t:Ty)
 | nilB (o j a e k:Nat) (t:Ty)
def GF(d e:Nat):C->C
 | .row r=> .row (if r=d then e else r)
 | .ptr o off=> .ptr (if o=d then e else o) off
 | .rp r k i off=> .rp (if r=d then e else r) k i off
 | .sub r k i off t x=> .sub (if r=d then e else r) k i off t x
 | .ip r k i off m j p=> .ip (if r=d then e else r) k i off m j p
 | .clo g o=> .clo g (if o=d then e else o)
 | .rc r k lo hi=> .rc (if r=d then e else r) k lo hi
 | c=>c
def A.ren(d e:Nat):A->A
 | .one c=> .one (GF d e c)
 | .agg cs=> .agg (cs.map (GF d e))
def S.ren(d e:Nat):S->S
 | .val x=> .val (x.ren d e)
 | .tup xs=> .tup (xs.map (A.ren d e))
 | .un=> .un
def O.ren(d e:Nat):O->O
 | .box cs=> .box (cs.map (GF d e))
 | x=>x
def F.unused(f:F)(e:Nat):Bool:=(f.fr.all λx=> !x.2.2.names e)&&f.ob.all λx=>x.1 != e&& !x.2.2.names e
def pinned(o:Nat):Bool:=Nat.ble 1000000 o
def A.setC(x:A)(j:Nat)(c:C):A:=
 match x with
 | .one d=>if j=0 then .one c else .one d
 | .agg cs=> .agg (cs.set j c)
def G4:Ty->Nat
 | .pair a b=>G4 a+G4 b
 | _=>1
def F.wk(f:F):Wk->Option F
 | .pick ss os=>U ⟨f.ctr,f.fr.filter (λe=>ss.contains e.1),f.ob.filter λe=>os.contains e.1⟩
 | .frz r=>U (f.frzRow r)
 | .ren d e=>if f.unused e=Y/\pinned d=Z/\pinned e=Z then
   U ⟨f.ctr+1,f.fr.map (λx=>if x.2.2.names d then (x.1,f.ctr,x.2.2.ren d e) else x),f.ob.map λx=>if x.1=d then (e,f.ctr,x.2.2.ren d e) else if x.2.2.names d then (x.1,f.ctr,x.2.2.ren d e) else x⟩ else N
 | .nilS s j a e k t=>
  match f.look s with
  | some (.val x)=>match x.cells[j]? with
   | some .nil=>if f.unused a=Y/\pinned a=Z/\0<k/\G4 t=k then U ((⟨f.ctr+1,f.fr,(a,f.ctr,.row e k t [] Y)::f.ob⟩:F).put (U s) (.val (x.setC j (.row a)))) else N
   | _=>N
  | _=>N
 | .nilB o j a e k t=>
  match f.obj o with
  | some (.box cs)=>match cs[j]? with
   | some .nil=>if f.unused a=Y/\pinned a=Z/\0<k/\G4 t=k then U ((⟨f.ctr+1,f.fr,(a,f.ctr,.row e k t [] Y)::f.ob⟩:F).setOb o (.box (cs.set j (.row a)))) else N
   | _=>N
  | _=>N
def F.wks(f:F):List Wk->Option F
 | []=>U f
 | x::xs=>match f.wk x with
  | some g=>g.wks xs
  | none=>N
def CT.pairs:CT->C->List (Nat×Nat)
 | .row a,.row r=>[(r,a)]
 | .ptr a _,.ptr o _=>[(o,a)]
 | _,_=>[]
def Tv:List CT->List C->List (Nat×Nat)
 | c::cs,x::xs=>c.pairs x++Tv cs xs
 | _,_=>[]
def ST.pairs(g:F)(s:Nat):ST->List (Nat×Nat)
 | .keep=>match g.look s with
  | some (.val x)=>x.cells.flatMap λc=>match c with
   | .row r=>[(r,r)]
   | .ptr o _=>[(o,o)]
   | .clo _ o=>[(o,o)]
   | .rp r _ _ _=>[(r,r)]
   | _=>[]
  | _=>[]
 | .one c=>match g.look s with
  | some (.val x)=>Tv [c] x.cells
  | _=>[]
 | .agg cs=>match g.look s with
  | some (.val x)=>Tv cs x.cells
  | _=>[]
def QO(ps:List (Nat×Nat))(a:Nat):Nat:=((ps.find? λp=>p.2==a).map (·.1)).getD a
def SU(g:F):List (Nat×OT)->List (Nat×Nat)->List (Nat×Nat)
 | [],ps=>ps
 | (a,.box cs)::hs,ps=>match g.obj (QO ps a) with
  | some (.box xs)=>SU g hs (ps++Tv cs xs)
  | _=>SU g hs ps
 | _::hs,ps=>SU g hs ps
def CT.nils(h:Sh)(j:Nat):CT->C->List (Nat×Nat×Nat×Nat×Ty)
 | .row a,.nil=>match h.ob.find? λe=>e.1==a with
  | some (_,.row e k t _)=>[(j,a,e,k,t)]
  | _=>[]
 | _,_=>[]
def Ye(h:Sh):Nat->List CT->List C->List (Nat×Nat×Nat×Nat×Ty)
 | j,c::cs,x::xs=>c.nils h j x++Ye h (j+1) cs xs
 | _,_,_=>[]
def ST.cts:ST->List CT
 | .keep=>[]
 | .one c=>[c]
 | .agg cs=>cs
def cNu(g:F)(h:Sh):List Wk:=
 let ps:=SU g h.ob (h.fr.flatMap λe=>e.2.pairs g e.1)
 let src:=(h.ob.filter λe=>match e.2 with
  | .row _ _ _ _=>pinned e.1||(ps.any λp=>p.2==e.1)||h.ob.any λb=>match b.2,g.obj b.1 with
   | .keep,U x=>x.names e.1
   | _,_=>Z
  | _=>Y).map λe=>QO ps e.1
 let fz:=(g.ob.filter λe=>match e.2.2 with
  | .row _ _ _ _ _=> !src.contains e.1&&(h.fr.any (λs=>match g.look s.1 with
   | some x=>x.names e.1
   | none=>Z)||g.ob.any λb=>src.contains b.1&&b.2.2.names e.1)
  | _=>Z).map λe=>Wk.frz e.1
 let rn:=(h.ob.filter λe=>QO ps e.1 != e.1).map λe=>(QO ps e.1,e.1)
 let ns:=h.fr.flatMap λe=>(match g.look e.1 with
  | some (.val x)=>Ye h 0 e.2.cts x.cells
  | _=>[]).map λ(q:Nat×Nat×Nat×Nat×Ty)=>Wk.nilS e.1 q.1 q.2.1 q.2.2.1 q.2.2.2.1 q.2.2.2.2
 let nb:=h.ob.flatMap λe=>match e.2 with
  | .box cs=>(match g.obj (QO ps e.1) with
   | some (.box xs)=>Ye h 0 cs xs
   | _=>[]).map λ(q:Nat×Nat×Nat×Nat×Ty)=>Wk.nilB e.1 q.1 q.2.1 q.2.2.1 q.2.2.2.1 q.2.2.2.2
  | _=>[]
 (Wk.pick (h.fr.map (·.1)) (g.ob.map (·.1)))::fz++[Wk.pick (h.fr.map (·.1)) src]++rn.map (λp=>Wk.ren p.1 (200000+p.2))++rn.map (λp=>Wk.ren (200000+p.2) p.2)++ns++nb
def F.fit(f g:F)(h:Sh):Option (D4 h.tys):=
 match g.wks (cNu g h) with
 | some g'=>f.prj g' h
 | none=>N
end Go.V
set_option linter.unusedVariables false
namespace Go.V
open Go.Ab Go.RowKit
def xS(l:List Nat):Bool:=
 match l with
 | []=>Y
 | x::xs=> !xs.contains x&&xS xs
def sp{α:Type}(L:List α)(off:Nat)(cs:List α):List α:=L.take off++cs++L.drop (off+cs.length)
section
variable {R:Type}
def idx{α:Type}(l:List α)(i:Int):Option α:=cond (W (0<=i)) l[i.toNat]? N
def lC{α:Type}(x:Option α)(K:α->Option R):Option R:=
 match x with
 | some a=>K a
 | none=>N
def DK(k:IntKind)(a b:Int):Int:=k.wrap ((BitVec.ofInt k.bits a &&& BitVec.ofInt k.bits b).toNat:Int)
def Fr(k:IntKind)(a b:Int):Int:=k.wrap ((BitVec.ofInt k.bits a ||| BitVec.ofInt k.bits b).toNat:Int)
def cH1(k:IntKind)(a b:Int):Int:=k.wrap ((BitVec.ofInt k.bits a ^^^ BitVec.ofInt k.bits b).toNat:Int)
def cEj(k:IntKind)(a b:Int):Int:=k.wrap ((BitVec.ofInt k.bits a &&& ~~~(BitVec.ofInt k.bits b)).toNat:Int)
def shl(k:IntKind)(a b:Int):Int:=k.wrap (a * 2 ^ (min b.toNat k.bits))
def shr(k:IntKind)(a b:Int):Int:=a.fdiv (2 ^ (min b.toNat k.bits))
def bT8(op:BinOp)(k:IntKind)(a b:Int)(K:C->Option R):Option R:=
 match op with
 | .add=>K (.v (.int k) (k.wrap (a+b)))
 | .sub=>K (.v (.int k) (k.wrap (a - b)))
 | .mul=>K (.v (.int k) (k.wrap (a * b)))
 | .quo=>cond (b==0) N (K (.v (.int k) (k.wrap (a.tdiv b))))
 | .rem=>cond (b==0) N (K (.v (.int k) (a.tmod b)))
 | .and=>K (.v (.int k) (DK k a b))
 | .or=>K (.v (.int k) (Fr k a b))
 | .xor=>K (.v (.int k) (cH1 k a b))
 | .andNot=>K (.v (.int k) (cEj k a b))
 | .eql=>K (.v .bool (a==b))
 | .neq=>K (.v .bool (a != b))
 | .lss=>K (.v .bool (W (a<b)))
 | .leq=>K (.v .bool (W (a<=b)))
 | .gtr=>K (.v .bool (W (a>b)))
 | .geq=>K (.v .bool (W (a>=b)))
 | _=>N
def bTx(op:BinOp)(a b:ByteArray)(K:C->Option R):Option R:=
 match op with
 | .add=>cond (W (a.size+b.size<=maxLen)) (K (.v .str (a++b))) N
 | .eql=>K (.v .bool (a.toList==b.toList))
 | .neq=>K (.v .bool (!(a.toList==b.toList)))
 | _=>N
def bMd(P:Program)(op:BinOp)(t:TypeId)(a b:Bool)(K:C->Option R):Option R:=
 match op,P.underlying t with
 | .eql,U .bool=>K (.v .bool (a==b))
 | .neq,U .bool=>K (.v .bool (!(a==b)))
 | _,_=>N
def Za(P:Program)(op:BinOp)(t:TypeId)(K:C->Option R):C->C->Option R
 | .v (.int k) a,.v (.int k') b=>
  match op with
  | .shl=>cond (W (b<0)) N (K (.v (.int k) (shl k a b)))
  | .shr=>cond (W (b<0)) N (K (.v (.int k) (shr k a b)))
  | _=>if k=k' then bT8 op k a b K else N
 | .v .str a,.v .str b=>bTx op a b K
 | .v .bool a,.v .bool b=>bMd P op t a b K
 | _,_=>N
def ZH(P:Program)(t:TypeId):C->C->Option Bool
 | .v (.int k) a,.v (.int k') b=>
  match P.underlying t with
  | some (.int _)=>if k=k' then U (a==b) else N
  | _=>N
 | .v .bool a,.v .bool b=>
  match P.underlying t with
  | some .bool=>U (a==b)
  | _=>N
 | .v .str a,.v .str b=>
  match P.underlying t with
  | some .string=>U (a.toList==b.toList)
  | _=>N
 | _,_=>N
def Uh(P:Program)(xs ys:List C):List Field->Option Bool
 | []=>U Y
 | f::fs=>
  match xs[f.offset]?,ys[f.offset]? with
  | some x,U y=>
   match ZH P f.type x y,Uh P xs ys fs with
   | some b,U r=>if f.name="_" then N else U (b&&r)
   | _,_=>N
  | _,_=>N
def Z6(P:Program)(f:F)(op:BinOp)(t:TypeId)(x y:Operand)(K:S->Option R):Option R:=
 match P.underlying t,f.get x,f.get y with
 | some (.struct fs),U (.val (.agg xs)),U (.val (.agg ys))=>
  if P.stoodInHeld t=Z/\P.eqGuardType P.depth t=Z then
   match Uh P xs ys fs.toList,op with
   | some b,.eql=>K (.val (.one (.v .bool b)))
   | some b,.neq=>K (.val (.one (.v .bool (!b))))
   | _,_=>N
  else N
 | _,_,_=>N
def cAl(P:Program)(f:F)(op:BinOp)(t:TypeId)(x y:Operand)(K:S->Option R):Option R:=
 match f.getC x,f.getC y with
 | some a,U b=>Za P op t (λc=>K (.val (.one c))) a b
 | _,_=>Z6 P f op t x y K
def H8(P:Program)(t:TypeId)(off:Nat)(cs:List C):Option A:=
 match P.info? t,P.underlying t with
 | some i,U (.struct _)=>if off+i.size<=cs.length then U (.agg ((cs.drop off).take i.size)) else N
 | some i,U (.array _ _)=>if off+i.size<=cs.length then U (.agg ((cs.drop off).take i.size)) else N
 | some _,U _=>cs[off]?.map .one
 | _,_=>N
def GA(r k i:Nat):Nat->List C->List C
 | _,[]=>[]
 | off,.v (.sl t) x::cs=> .sub r k i off t x::GA r k i (off+1) cs
 | off,c::cs=>c::GA r k i (off+1) cs
def XQ(P:Program)(f:F)(t:TypeId)(p:Operand)(K:S->Option R):Option R:=
 match f.getC p with
 | some (.ptr o off)=>
  match f.obj o with
  | some (.box cs)=>lC (H8 P t off cs) λx=>K (.val x)
  | _=>N
 | some (.ep ty x off)=>lC (H8 P t off (split ty x)) λx=>K (.val x)
 | some (.rp r k i off)=>
  match f.obj r with
  | some (.row _ k' ty l _)=>if k=k' then Option.bind l[i]? λx=>lC (H8 P t off (split ty x)) λx=>K (.val x) else N
  | some (.win k' ty l)=>if k=k' then Option.bind l[i]? λx=>lC (H8 P t off (GA r k i 0 (split ty x))) λx=>K (.val x) else N
  | _=>N
 | _=>N
def Xn(P:Program)(f:F)(s:TypeId)(x:Operand)(j:Nat)(K:S->Option R):Option R:=
 match P.underlying s with
 | some (.struct fs)=>
  match fs[j]? with
  | some fd=>
   match P.info? fd.type with
   | some i=>
    if i.size=0 then N else
    match f.getC x with
    | some (.ptr o off)=>K (.val (.one (.ptr o (off+fd.offset))))
    | some (.ep t e off)=>K (.val (.one (.ep t e (off+fd.offset))))
    | some (.rp r k j off)=>K (.val (.one (.rp r k j (off+fd.offset))))
    | some (.ip r k i off m j q)=>K (.val (.one (.ip r k i off m j (q+fd.offset))))
    | _=>N
   | none=>N
  | none=>N
 | _=>N
def WH(P:Program)(f:F)(t:TypeId)(x i:Operand)(K:S->Option R):Option R:=
 match P.underlying t with
 | some (.slice e)=>
  match P.info? e,f.getC x,f.getC i with
  | some inf,U (.v (.sl ty) l),U (.v (.int _) n)=>Option.bind (idx l n) λx=>if (split ty x).length=inf.size then K (.val (.one (.ep ty x 0))) else N
  | some inf,U (.row r),U (.v (.int _) n)=>
   match f.obj r with
   | some (.row _ k _ l _)=>if k=inf.size then cond (W (0<=n)) (cond (W (n<(l.length:Int))) (K (.val (.one (.rp r k n.toNat 0)))) N) N else N
   | some (.win k _ l)=>if k=inf.size then cond (W (0<=n)) (cond (W (n<(l.length:Int))) (K (.val (.one (.rp r k n.toNat 0)))) N) N else N
   | _=>N
  | some inf,U (.sub r k i off ty l),U (.v (.int _) n)=>if G4 ty=inf.size then cond (W (0<=n)) (cond (W (n<(l.length:Int))) (K (.val (.one (.ip r k i off inf.size n.toNat 0)))) N) N else N
  | _,_,_=>N
 | _=>N
def Yu(P:Program)(f:F)(t:TypeId)(x:Operand)(K:S->Option R):Option R:=
 match P.underlying t,f.getC x with
 | some (.slice _),U (.v (.sl _) l)=>K (.val (.one (.v (.int .i64) (l.length:Int))))
 | some (.slice _),U .nil=>K (.val (.one (.v (.int .i64) (0:Int))))
 | some (.slice _),U (.row r)=>
  match f.obj r with
  | some (.row _ _ _ l _)=>K (.val (.one (.v (.int .i64) (l.length:Int))))
  | some (.win _ _ l)=>K (.val (.one (.v (.int .i64) (l.length:Int))))
  | _=>N
 | some (.slice _),U (.sub _ _ _ _ _ l)=>K (.val (.one (.v (.int .i64) (l.length:Int))))
 | some .string,U (.v .str s)=>K (.val (.one (.v (.int .i64) (s.size:Int))))
 | _,_=>N
def TY(f:F)(mx:Bool)(x y:Operand)(K:S->Option R):Option R:=
 match f.getC x,f.getC y with
 | some (.v (.int k) a),U (.v (.int k') b)=>if k=k' then K (.val (.one (.v (.int k) (if mx then (if b>a then b else a) else (if b<a then b else a))))) else N
 | _,_=>N
def VX(P:Program)(f:F)(t:TypeId)(x:Operand)(j:Nat)(K:S->Option R):Option R:=
 match P.underlying t with
 | some (.struct fs)=>
  match fs[j]?,f.get x with
  | some fd,U (.val (.agg cs))=>lC (H8 P fd.type fd.offset cs) λy=>K (.val y)
  | _,_=>N
 | _=>N
def Ra(f:F)(place:Nat->Option (Nat×Nat)):List C->List (Nat×Operand)->Option (List C)
 | cs,[]=>U cs
 | cs,(i,x)::ps=>
  match place i,f.get x with
  | some (off,size),U (.val y)=>if y.cells.length=size/\off+size<=cs.length/\y.cells.all C.solid=Y then Ra f place (sp cs off y.cells) ps else N
  | _,_=>N
def Qd(P:Program):List Field->Option (List (Nat×Nat))
 | []=>U []
 | f::fs=>
  match P.info? f.type,Qd P fs with
  | some i,U ps=>U ((f.offset,i.size)::ps)
  | _,_=>N
def Xs(P:Program)(f:F)(t:TypeId)(ps:List (Nat×Operand))(K:S->Option R):Option R:=
 match P.info? t,P.underlying t with
 | some i,U (.struct fs)=>
  match i.zero,Qd P fs.toList with
  | some z,U places=>if z.cells.toList.all Value.oneCell'=Y then lC (Ra f (λi=>places[i]?) (z.cells.toList.map zC) ps) λcs=>K (.val (.agg cs)) else N
  | _,_=>N
 | some i,U (.array _ e)=>
  match i.zero,P.info? e with
  | some z,U ie=>if z.cells.toList.all Value.oneCell'=Y then lC (Ra f (λj=>U (j * ie.size,ie.size)) (z.cells.toList.map zC) ps) λcs=>K (.val (.agg cs)) else N
  | _,_=>N
 | _,_=>N
def FT(f:F)(dflt:Int):Option Operand->Option Int
 | none=>U dflt
 | some x=>
  match f.getC x with
  | some (.v (.int _) n)=>U n
  | _=>N
def bG(l h n:Int):Bool:=W (0<=l)&&(W (l<=h)&&W (h<=n))
def cut{α:Type}(l:List α)(lo hi:Int):List α:=(l.drop lo.toNat).take (hi - lo).toNat
def Li(P:Program)(f:F)(t:TypeId)(x:Operand)(lo hi:Option Operand)(K:S->Option R):Option R:=
 match P.underlying t,f.getC x with
 | some (.slice e),U (.v (.sl ty) l)=>
  match P.info? e,FT f 0 lo,FT f (l.length:Int) hi with
  | some i,U a,U b=>if i.size=(tyLen ty) then cond (bG a b (l.length:Int)) (K (.val (.one (.v (.sl ty) (cut l a b))))) N else N
  | _,_,_=>N
 | some .string,U (.v .str s)=>
  match FT f 0 lo,FT f (s.size:Int) hi with
  | some a,U b=>cond (bG a b (s.size:Int)) (K (.val (.one (.v .str (s.extract a.toNat b.toNat))))) N
  | _,_=>N
 | _,_=>N
where
 tyLen:Ty->Nat
  | .pair a b=>tyLen a+tyLen b
  | _=>1
def QQ(t:Ty)(d:den t):List C->Option (List (den t))
 | []=>U []
 | .v t' x::cs=>match iK t' t x,QQ t d cs with
  | some y,U ys=>U (y::ys)
  | _,_=>N
 | _=>N
def XU(P:Program)(f:F)(t:TypeId)(x i:Operand)(K:S->Option R):Option R:=
 match P.underlying t,f.get x,f.getC i with
 | some .string,U (.val (.one (.v .str s))),U (.v (.int _) n)=>Option.bind (idx s.data.toList n) λb=>K (.val (.one (.v (.int .u8) (b.toNat:Int))))
 | some (.array len e),U (.val (.agg cs)),U (.v (.int _) n)=>
  match P.info? e,P.underlying e with
  | some inf,U .string=>if inf.size=1/\cs.length=len then lC (QQ .str ⟨#[]⟩ cs) λl=>Option.bind (idx l n) λy=>K (.val (.one (.v .str y))) else N
  | some inf,U (.int k)=>if inf.size=1/\cs.length=len then lC (QQ (.int k) (0:Int) cs) λl=>Option.bind (idx l n) λy=>K (.val (.one (.v (.int k) y))) else N
  | _,_=>N
 | _,_,_=>N
def LL(l:List Int):List UInt8:=l.map λn=>UInt8.ofNat n.toNat
def eW(l:List Int):ByteArray:=⟨(LL l).toArray⟩
def XX(P:Program)(f:F)(s d:TypeId)(x:Operand)(K:S->Option R):Option R:=
 match f.getC x,P.underlying s,P.underlying d with
 | some (.v (.int _) n),U _,U (.int k)=>K (.val (.one (.v (.int k) (k.wrap n))))
 | some c,U (.slice e),U .string=>
  match P.underlying e,f.data (.sl (.int .u8)) c with
  | some (.int .u8),U l=>K (.val (.one (.v .str (eW l))))
  | _,_=>N
 | _,_,_=>N
def JK(P:Program)(f:F)(K:S->Option R):Op->Option R
 | .move x=>lC (f.get x) K
 | .assign x=>lC (f.get x) K
 | .pick c x y=>
  match f.getC c with
  | some (.v .bool b)=>cond b (lC (f.get x) K) (lC (f.get y) K)
  | _=>N
 | .load t p=>XQ P f t p K
 | .nilCheck x=>
  match f.getC x with
  | some (.ptr o off)=>K (.val (.one (.ptr o off)))
  | some (.ep t e off)=>K (.val (.one (.ep t e off)))
  | some (.rp r k i off)=>K (.val (.one (.rp r k i off)))
  | some (.ip r k i off m j q)=>K (.val (.one (.ip r k i off m j q)))
  | _=>N
 | .binOp op t x y _=>cAl P f op t x y K
 | .unOp .not _ x=>
  match f.getC x with
  | some (.v .bool b)=>K (.val (.one (.v .bool (!b))))
  | _=>N
 | .unOp .neg _ x=>
  match f.getC x with
  | some (.v (.int k) n)=>K (.val (.one (.v (.int k) (k.wrap (0 - n)))))
  | _=>N
 | .convert s d x=>XX P f s d x K
 | .fieldAddr s x j=>Xn P f s x j K
 | .field t x j=>VX P f t x j K
 | .build t ps=>Xs P f t ps.toList K
 | .slice t x lo hi N=>Li P f t x lo hi K
 | .index t x i=>XU P f t x i K
 | .indexAddr t x i=>WH P f t x i K
 | .extract x i=>
  match f.get x with
  | some (.tup xs)=>lC xs[i]? λy=>K (.val y)
  | _=>N
 | .makeFunc (.func g) first cap=>
  match first.toList,cap.toList with
  | [],[x]=>
   match f.getC x with
   | some (.ptr o off)=>if off=0 then K (.val (.one (.clo g o))) else N
   | _=>N
  | _,_=>N
 | .call cl=>
  match cl.callee,cl.args.toList,cl.argTypes.toList with
  | .builtin .len,[x],[t]=>Yu P f t x K
  | .builtin .max,[x,y],_=>TY f Y x y K
  | .builtin .min,[x,y],_=>TY f Z x y K
  | _,_,_=>N
 | _=>N
def Nn(bytes:Nat)(n m:Int):Bool:=W (m=n)&&(W (0<=n)&&(W ((bytes:Int) * n<=281474976710656)&&W (n<=4611686018427387904)))
def aF(bytes n m:Nat):Bool:=W ((n+m) * (bytes+1)<=140737488355328)
def Q3(f:F)(k:Nat)(t:Ty):List (Nat×Operand)->Option (List (den t)×List Nat×Bool)
 | []=>U ([],[],Y)
 | (_,x)::ps=>
  match f.get x,Q3 f k t ps with
  | some (.val y),U (es,i2,d2)=>
   if y.cells.length=k then
    match f.dataL t y.cells,I9 f y.cells with
    | some (e,[]),U (i1,d1)=>U (e::es,i1++i2,d1&&d2)
    | _,_=>N
   else N
  | _,_=>N
def YQ(f:F)(k:Nat)(t:Ty):C->Option (List (den t)×List Nat×Bool)
 | .nil=>U ([],[],Y)
 | .v t' x=>(iK t' (.sl t) x).map λl=>(l,[],flat t)
 | .row r=>match f.obj r with
  | some (.row _ k' t' l deep)=>if k'=k then (iK (.sl t') (.sl t) l).map λl=>(l,[r],deep) else N
  | _=>N
 | _=>N
def Yb(P:Program)(f:F)(d:Nat)(t:TypeId)(s x:Operand)(K:F->Option R):Option R:=
 match P.underlying t with
 | some (.slice e)=>
  match P.info? e,Rc P 12 e with
  | some i,U ty=>
   match i.zero with
   | some z=>
    if z.cells.size=i.size/\0<i.size/\Li.tyLen ty=i.size/\pinned d=Z then
     match f.getC s,f.getC x with
     | some cs,U cx=>
      match YQ f i.size ty cx with
      | some (es2,ids,dp)=>
       match cs with
       | .nil=>cond (aF i.bytes 0 es2.length) (K ((f.frzAll ids).newOb d (.row e i.size ty es2 dp) (.row d))) N
       | .row r=>
        match f.obj r with
        | some (.row e1 k1 t1 l1 deep1)=>
         match iK (.sl t1) (.sl ty) l1 with
         | some es1=>
          if e1=e/\k1=i.size/\r≠d/\ids.contains r=Z/\pinned r=Z then
           cond (aF i.bytes es1.length es2.length) (K (((f.frzAll ids).add r (.row e i.size ty (es1++es2) (deep1&&dp))).put (U d) (.val (.one (.row r))))) N
          else N
         | none=>N
        | _=>N
       | _=>N
      | none=>N
     | _,_=>N
    else N
   | none=>N
  | _,_=>N
 | _=>N
def bLq(P:Program)(f:F)(t:TypeId)(p x:Operand)(K:F->Option R):Option R:=
 match f.getC p,f.get x,P.info? t with
 | some (.ptr o off),U (.val y),U inf=>
  match f.obj o with
  | some (.box cs)=>if y.cells.length=inf.size/\off+y.cells.length<=cs.length/\y.cells.all C.solid=Y then K (f.setOb o (.box (sp cs off y.cells))) else N
  | _=>N
 | some (.rp r k i off),U (.val y),U inf=>
  match f.obj r with
  | some (.row e k' ty l deep)=>
   match I9 f y.cells with
   | some (ids,dp)=>
    if k=k'/\y.cells.length=inf.size/\off+y.cells.length<=k/\xS ids=Y/\ids.contains r=Z then
     if off=0/\y.cells.length=k then
      match f.dataL ty y.cells with
      | some (z,[])=>cond (W (i<l.length)) (K ((f.frzAll ids).setOb r (.row e k ty (l.set i z) (deep&&dp)))) N
      | _=>N
     else Option.bind l[i]? λel=>
      match f.dataL ty (sp (split ty el) off y.cells) with
      | some (z,[])=>K ((f.frzAll ids).setOb r (.row e k ty (l.set i z) (deep&&dp)))
      | _=>N
    else N
   | none=>N
  | some (.win k' ty l)=>
   if k=k'/\y.cells.length=inf.size/\inf.size=1/\off<k then
    Option.bind l[i]? λel=>
     match y.cells,(split ty el)[off]? with
     | [.v tz z],U (.v ty' _)=>
      if flat tz=Y/\flat ty'=Y then
       match f.dataL ty (sp (split ty el) off [.v tz z]) with
       | some (el',[])=>K (f.setOb r (.win k ty (l.set i el')))
       | _=>N
      else N
     | _,_=>N
   else N
  | _=>N
 | _,_,_=>N
end
end Go.V
set_option linter.unusedVariables false
namespace Go.V
open Go.Ab Go.RowKit
section
variable {R:Type}
def QB(P:Program)(f:F)(d:Option Nat)(K:F->Option R):Op->Option R
 | .alloc t=>
  match d,P.info? t with
  | some d,U i=>
   match i.zero with
   | some z=>if z.cells.toList.all Value.oneCell'=Y/\pinned d=Z then K (f.newOb d (.box ((z.cells.toList.map zC).map (wR d))) (.ptr d 0)) else N
   | none=>N
  | _,_=>N
 | .box _ x=>
  match d,f.get x with
  | some d,U (.val y)=>if y.cells.all C.solid=Y/\pinned d=Z then K (f.newOb d (.box (y.cells.map (wR d))) (.ptr d 0)) else N
  | _,_=>N
 | .store t p x=>
  match d with
  | none=>bLq P f t p x K
  | some _=>N
 | .makeSlice t x y=>
  match d,P.underlying t,f.getC x,f.getC y with
  | some d,U (.slice e),U (.v (.int _) n),U (.v (.int _) m)=>
   match P.info? e,Rc P 12 e with
   | some i,U ty=>
    match i.zero with
    | some z=>
     match f.dataL ty (z.cells.toList.map zC) with
     | some (z0,[])=>if i.size=z.cells.size/\0<i.size/\pinned d=Z then cond (Nn i.bytes n m) (K (f.newOb d (.row e i.size ty (Dx n.toNat z0) Y) (.row d))) N else N
     | _=>N
    | none=>N
   | _,_=>N
  | _,_,_,_=>N
 | .buildSlice t len ps=>
  match d,P.underlying t with
  | some d,U (.slice e)=>
   match P.info? e,Rc P 12 e with
   | some i,U ty=>
    match Q3 f i.size ty ps.toList with
    | some (es,ids,dp)=>if 0<i.size/\Li.tyLen ty=i.size/\ps.toList.map (·.1)=Es len/\len * i.size<=1000/\i.zero.isSome=Y/\xS ids=Y/\pinned d=Z then K ((f.frzAll ids).newOb d (.row e i.size ty es dp) (.row d)) else N
    | none=>N
   | _,_=>N
  | _,_=>N
 | .call cl=>
  match d,cl.callee,cl.args.toList,cl.argTypes.toList with
  | some d,.builtin .append,[s,x],[t,t']=>if t=t' then Yb P f d t s x K else N
  | _,_,_,_=>N
 | _=>N
def H6(kd:IntKind):Ty->Bool
 | .int k=> !W (k=kd)
 | .bool=>Y
 | .str=>Y
 | .sl t=>H6 kd t
 | .pair a b=>H6 kd a&&H6 kd b
def C.safe(kd:IntKind):C->Bool
 | .v t _=>flat t||H6 kd t
 | .ep _ _ _=>Z
 | .sub _ _ _ _ _ _=>Z
 | .ip _ _ _ _ _ _ _=>Z
 | _=>Y
def A.safe(kd:IntKind):A->Bool
 | .one c=>c.safe kd
 | .agg cs=>cs.all (C.safe kd)
def S.safe(kd:IntKind):S->Bool
 | .val x=>x.safe kd
 | .tup xs=>xs.all (A.safe kd)
 | .un=>Y
def O.safe(kd:IntKind):O->Bool
 | .box cs=>cs.all (C.safe kd)
 | _=>Y
def O.kept(kd:IntKind):O->Bool
 | .row _ _ t _ deep=>deep||(flat t||H6 kd t)
 | _=>Y
def OW(kd:IntKind)(c:C):C:=if c.safe kd then c else .any
def O.toSafe(kd:IntKind):O->O
 | .box cs=> .box (cs.map (OW kd))
 | x=>x
def F.toSafe(f:F)(kd:IntKind):F:=
 ⟨f.ctr+1,f.fr.filter (λe=>e.2.2.safe kd),(f.ob.filter λe=>e.2.2.kept kd).map λe=>if e.2.2.safe kd then e else (e.1,f.ctr,e.2.2.toSafe kd)⟩
def cNw(f:F)(p:Operand):Bool:=
 match f.getC p with
 | some (.ip _ _ _ _ _ _ _)=>Y
 | _=>Z
def F00:F:=⟨0,[],[]⟩
def Wl(P:Program)(f:F)(t:TypeId)(p x:Operand)(K:F->Option R):Option R:=
 match f.getC p,f.get x,P.info? t with
 | some (.ip r k i off m j q),U (.val (.one (.v (.int kd) z))),U inf=>
  match f.obj r with
  | some (.row e k' T l Y)=>
   if k=k'/\inf.size=1/\off<k/\q<m then
    Option.bind l[i]? λel=>
     match (split T el)[off]? with
     | some (.v (.sl t2) x2)=>
      if G4 t2=m then
       Option.bind x2[j]? λel2=>
        match (split t2 el2)[q]? with
        | some (.v (.int kd') _)=>
         if kd'=kd then
          match F00.dataL t2 (sp (split t2 el2) q [.v (.int kd) z]) with
          | some (el2',[])=>
           match F00.dataL T (sp (split T el) off [.v (.sl t2) (x2.set j el2')]) with
           | some (el',[])=>K ((f.toSafe kd).setOb r (.row e k T (l.set i el') Y))
           | _=>N
          | _=>N
         else N
        | _=>N
      else N
     | _=>N
   else N
  | _=>N
 | _,_,_=>N
structure Con where
 f:FuncId
 pre:Sh
 post:Sh
 win:Bool
 sem:D4 pre.tys->Option (D4 post.tys)
def Con.w(c:Con):Con:={c with win:=Y}
def Fc(E:List Con)(f:FuncId):Option Con:=E.find? λc=>c.f==f
def Zh(f:F):CT->C->Option (List TV)
 | .var t,c=>(f.data t c).map λx=>[⟨t,x⟩]
 | _,_=>N
def UA(f:F):List CT->List C->Option (List TV)
 | [],[]=>U []
 | t::ts,c::cs=>match Zh f t c,UA f ts cs with
  | some a,U b=>U (a++b)
  | _,_=>N
 | _,_=>N
def cK7(f:F)(h:ST)(x:Operand):Option (List TV):=
 match h,f.get x with
 | .one t,U (.val (.one c))=>Zh f t c
 | .agg ts,U (.val (.agg cs))=>UA f ts cs
 | _,_=>N
def Tr(f:F):Nat->List (Nat×ST)->List Operand->Option (List TV)
 | _,[],[]=>U []
 | i,(j,h)::hs,x::xs=>if i=j then match cK7 f h x,Tr f (i+1) hs xs with
   | some a,U b=>U (a++b)
   | _,_=>N
  else N
 | _,_,_=>N
def cZ(d:Nat):Nat:=1000+16 * d
def F0:F:=⟨0,[],[]⟩
def CT.isSl:CT->Bool
 | .var t=> !flat t
 | _=>Z
def ST.isSl:ST->Bool
 | .one c=>c.isSl
 | .agg cs=>cs.any CT.isSl
 | .keep=>Z
def Tp:S->List Nat
 | .val x=>x.cells.flatMap λc=>match c with
  | .row r=>[r]
  | _=>[]
 | _=>[]
def OH(f:F)(xs:List Operand):List Nat:=xs.flatMap λx=>match f.get x with
 | some s=>Tp s
 | none=>[]
def UV(base:Nat):C->C
 | .row r=> .row (base+r)
 | c=>c
def ZJ(base:Nat):A->A
 | .one c=> .one (UV base c)
 | .agg cs=> .agg (cs.map (UV base))
def Ey:List (Nat×Nat×S)->List A
 | (_,_,.val x)::es=>x::Ey es
 | _=>[]
def Uk:List A->S
 | [x]=> .val x
 | xs=> .tup xs
def Kl(sl:Bool)(ids:List Nat):C->Bool
 | .v t _=>sl||flat t
 | .row r=>ids.contains r
 | _=>Z
def NA(sl:Bool)(ids:List Nat):A->Bool
 | .one c=>Kl sl ids c
 | .agg cs=>cs.all (Kl sl ids)
def DG(sl:Bool)(ids:List Nat):S->Bool
 | .val x=>NA sl ids x
 | _=>Z
def UU(d:Nat)(e:Nat×Nat×O):Bool:=
 match e.2.2 with
 | .row _ _ _ _ Y=> !pinned (cZ d+e.1)
 | _=>Z
def Ts(sl win:Bool)(d:Nat)(p:F):Bool:=
 (p.fr.map (·.1)==Es p.fr.length)&&(xS (p.ob.map (·.1))&&(p.ob.all (UU d)&&(p.fr.all (λe=>DG sl (p.ob.map (·.1)) e.2.2)&& !(sl&&win))))
def QG(win:Bool):O->O
 | .row e k t l deep=>cond win (.win k t l) (.row e k t l deep)
 | x=>x
def adopt(d:Nat)(win:Bool)(f:F):List (Nat×Nat×O)->F
 | []=>f
 | e::es=>adopt d win (f.add (cZ d+e.1) (QG win e.2.2)) es
def X2(c:Con)(f:F)(d:Option Nat)(xs:List Operand)(K:F->Option R):Option R:=
 match d with
 | some d=>
  if c.post.fr.any (·.2.isSl)=Y/\(OH f xs).isEmpty=Z then N else
  match Tr f 0 c.pre.fr xs with
  | some tvs=>lC (MT c.pre.tys tvs) λa=>lC (F0.inj c.pre a) λ_=>Option.bind (c.sem a) λy=>lC (F0.inj c.post y) λp=>
   cond (Ts (c.post.fr.any (·.2.isSl)) c.win d p) (K ((adopt d c.win f p.ob).put (U d) (Uk ((Ey p.fr).map (ZJ (cZ d)))))) N
  | none=>N
 | none=>N
inductive CL where
 | whole (r k:Nat) (t:Ty) (l:List (den t))
 | part (r k i off:Nat) (T:Ty) (L:List (den T)) (el:den T) (t:Ty) (l:List (den t))
def CL.root:CL->Nat
 | .whole r _ _ _=>r
 | .part r _ _ _ _ _ _ _ _=>r
def CL.tv:CL->TV
 | .whole _ _ t l=>⟨.sl t,l⟩
 | .part _ _ _ _ _ _ _ t l=>⟨.sl t,l⟩
def Yg(f:F)(k:Nat)(t:Ty)(K:CL->Option R):C->Option R
 | .row r=>match f.obj r with
  | some (.win k' t' l)=>if k'=k/\t'=t then K (.whole r k' t' l) else N
  | _=>N
 | .sub r k1 i off _ _=>match f.obj r with
  | some (.win k' T L)=>if k1=k' then Option.bind L[i]? λel=>match (split T el)[off]? with
    | some (.v (.sl t') l)=>if t'=t/\G4 t=k then K (.part r k' i off T L el t' l) else N
    | _=>N
   else N
  | _=>N
 | _=>N
def Lt(f:F):List (Nat×OT)->List (Nat×C)->(List CL->Option R)->Option R
 | [],[],K=>K []
 | (p,.win k t)::hs,(q,c)::cs,K=>if p=q then Yg f k t (λx=>Lt f hs cs λxs=>K (x::xs)) c else N
 | _,_,_=>N
def CL.upd(f:F):CL->O->Option F
 | .whole r k t _,.win k' t' l'=>if k=k' then (iK (.sl t') (.sl t) l').map λy=>f.setOb r (.win k t y) else N
 | .part r k i off T L el _ _,.win _ t' l'=>match F0.dataL T (sp (split T el) off [.v (.sl t') l']) with
  | some (el',[])=>U (f.setOb r (.win k T (L.set i el')))
  | _=>N
 | _,_=>N
def Tm(f:F):List CL->List (Nat×Nat×O)->Option F
 | [],[]=>U f
 | x::xs,e::es=>match x.upd f e.2.2 with
  | some g=>Tm g xs es
  | none=>N
 | _,_=>N
def OP(f:F):CT->C->Option (List TV×List (Nat×C))
 | .var t,c=>if flat t=Y then (f.data t c).map λx=>([⟨t,x⟩],[]) else N
 | .row p,c=>U ([],[(p,c)])
 | _,_=>N
def OR(f:F):List CT->List C->Option (List TV×List (Nat×C))
 | [],[]=>U ([],[])
 | t::ts,c::cs=>match OP f t c,OR f ts cs with
  | some (a,p),U (b,q)=>U (a++b,p++q)
  | _,_=>N
 | _,_=>N
def cCk(f:F)(h:ST)(x:Operand):Option (List TV×List (Nat×C)):=
 match h,f.get x with
 | .one t,U (.val (.one c))=>OP f t c
 | .agg ts,U (.val (.agg cs))=>OR f ts cs
 | _,_=>N
def T5(f:F):Nat->List (Nat×ST)->List Operand->Option (List TV×List (Nat×C))
 | _,[],[]=>U ([],[])
 | i,(j,h)::hs,x::xs=>if i=j then match cCk f h x,T5 f (i+1) hs xs with
   | some (a,p),U (b,q)=>U (a++b,p++q)
   | _,_=>N
  else N
 | _,_,_=>N
def Xe(p:F):Bool:=(p.fr.map (·.1)==Es p.fr.length)&&p.fr.all λe=>DG Z [] e.2.2
def WR(c:Con)(f:F)(d:Option Nat)(xs:List Operand)(K:F->Option R):Option R:=
 match d with
 | some d=>
  match T5 f 0 c.pre.fr xs with
  | some (tvs,ps)=>
   if xS (ps.map (·.1))=Y/\(ps.all λe=>pinned e.1)=Y then
    Lt f c.pre.ob ps λts=>
     if xS (ts.map CL.root)=Y then
      lC (MT c.pre.tys (tvs++ts.map CL.tv)) λa=>lC (F0.inj c.pre a) λ_=>Option.bind (c.sem a) λy=>lC (F0.inj c.post y) λp=>
       if p.ob.map (·.1)=ps.map (·.1)/\Xe p=Y then lC (Tm f.noSubs ts p.ob) λg=>K (g.put (U d) (Uk (Ey p.fr))) else N
     else N
   else N
  | none=>N
 | none=>N
def Con.ptrs(c:Con):Bool:=c.pre.ob.any (λe=>match e.2 with
 | .box _=>Y
 | .row _ _ _ _=>Y
 | _=>Z)||c.post.ob.any (λe=>match e.2 with
 | .box _=>Y
 | .row _ _ _ deep=> !deep
 | _=>Z)
def TH:CT->C->Option (List TV×List (Nat×Nat))
 | .var t,.v t' x=>(iK t' t x).map λy=>([⟨t,y⟩],[])
 | .var (.sl t),.nil=>U ([⟨.sl t,[]⟩],[])
 | .row q,.row r=>U ([],[(q,r)])
 | .ptr p off,.ptr o off'=>if off=off' then U ([],[(p,o)]) else N
 | _,_=>N
def QY:List CT->List C->Option (List TV×List (Nat×Nat))
 | [],[]=>U ([],[])
 | t::ts,c::cs=>match TH t c,QY ts cs with
  | some (a,p),U (b,q)=>U (a++b,p++q)
  | _,_=>N
 | _,_=>N
def cDl(f:F)(h:ST)(x:Operand):Option (List TV×List (Nat×Nat)):=
 match h,f.get x with
 | .one t,U (.val (.one c))=>TH t c
 | .agg ts,U (.val (.agg cs))=>QY ts cs
 | _,_=>N
def S0(f:F):Nat->List (Nat×ST)->List Operand->Option (List TV×List (Nat×Nat))
 | _,[],[]=>U ([],[])
 | i,(j,h)::hs,x::xs=>if i=j then match cDl f h x,S0 f (i+1) hs xs with
   | some (a,p),U (b,q)=>U (a++b,p++q)
   | _,_=>N
  else N
 | _,_,_=>N
def Lj(f:F):List (Nat×OT)->List (Nat×Nat)->Option (List TV×List (Nat×Nat))
 | [],ps=>U ([],ps)
 | (p,.box cts)::hs,ps=>
  match ps.find? λe=>e.1==p with
  | some e=>
   match f.obj e.2 with
   | some (.box cs)=>
    match QY cts cs with
    | some (a,qs)=>
     match Lj f hs (ps++qs) with
     | some (b,r)=>U (a++b,r)
     | none=>N
    | none=>N
   | _=>N
  | none=>N
 | (p,.row e k t deep)::hs,ps=>
  match ps.find? λe=>e.1==p with
  | some z=>
   match f.obj z.2 with
   | some (.row e' k' t' l _)=>
    if e=e'/\k=k'/\t=t'/\deep=Z then
     match Lj f hs ps with
     | some (b,r)=>U (⟨.sl t',l⟩::b,r)
     | none=>N
    else N
   | _=>N
  | none=>N
 | _::_,_=>N
def rho(H:List (Nat×Nat))(d q:Nat):Nat:=
 match H.find? λe=>pinned e.1&&e.1==q with
 | some e=>e.2
 | none=>cZ d+q
def Rt(H:List (Nat×Nat))(d:Nat):C->C
 | .row r=> .row (rho H d r)
 | .ptr o off=> .ptr (rho H d o) off
 | c=>c
def YS(H:List (Nat×Nat))(d:Nat):A->A
 | .one c=> .one (Rt H d c)
 | .agg cs=> .agg (cs.map (Rt H d))
def YV(H:List (Nat×Nat))(d:Nat):O->O
 | .box cs=> .box (cs.map (Rt H d))
 | x=>x
def LW(ids:List Nat):C->Bool
 | .v _ _=>Y
 | .nil=>Y
 | .row r=>ids.contains r
 | .ptr o _=>ids.contains o
 | .any=>Y
 | _=>Z
def Rw(ids:List Nat):A->Bool
 | .one c=>LW ids c
 | .agg cs=>cs.all (LW ids)
def Um(ids:List Nat):S->Bool
 | .val x=>Rw ids x
 | _=>Z
def Rf(H:List (Nat×Nat))(d q:Nat):Bool:=
 cond (pinned q) ((H.map (·.1)).contains q) (!pinned (cZ d+q)&& !(H.any λe=>pinned e.1&&e.2==cZ d+q))
def UB(H:List (Nat×Nat))(d:Nat)(ids:List Nat)(e:Nat×Nat×O):Bool:=
 Rf H d e.1&&match e.2.2 with
 | .box cs=>cs.all (LW ids)
 | .row _ _ _ _ _=>Y
 | .win _ _ _=>Z
def SX(H:List (Nat×Nat))(d:Nat)(p:F):Bool:=
 (p.fr.map (·.1)==Es p.fr.length)&&(xS (p.ob.map (·.1))&&(p.ob.all (UB H d (p.ob.map (·.1)))&&p.fr.all λe=>Um (p.ob.map (·.1)) e.2.2))
def vG(H:List (Nat×Nat))(d:Nat)(p:F):List Nat:=((H.filter λe=> !pinned e.1).map (·.2))++((p.ob.filter λe=> !pinned e.1).map λe=>cZ d+e.1)
def F.scrubs(f:F)(ids:List Nat):F:=ids.foldl F.scrub f
def F.less(f:F)(H:List (Nat×Nat)):F:=⟨f.ctr,f.fr,f.ob.filter λe=> !(H.any λq=>pinned q.1&&q.2==e.1)⟩
def F.give(f:F)(H:List (Nat×Nat))(d:Nat)(es:List (Nat×Nat×O)):F:=
 ⟨f.ctr+1,f.fr,es.map (λe=>(rho H d e.1,f.ctr,YV H d e.2.2))++f.ob⟩
def F.isRow(f:F)(r:Nat):Bool:=
 match f.obj r with
 | some (.row _ _ _ _ _)=>Y
 | _=>Z
def C.subOk(f:F)(H:List (Nat×Nat)):C->Bool
 | .sub r _ _ _ _ _=>f.isRow r&& !(H.map (·.2)).contains r
 | .ip r _ _ _ _ _ _=>f.isRow r&& !(H.map (·.2)).contains r
 | _=>Y
def A.subOk(f:F)(H:List (Nat×Nat)):A->Bool
 | .one c=>c.subOk f H
 | .agg cs=>cs.all (C.subOk f H)
def S.subOk(f:F)(H:List (Nat×Nat)):S->Bool
 | .val x=>x.subOk f H
 | .tup xs=>xs.all (A.subOk f H)
 | .un=>Y
def F.subOk(f:F)(H:List (Nat×Nat)):Bool:=f.fr.all (λe=>e.2.2.subOk f H)&&f.ob.all λe=> !e.2.2.isSub
def cDk(f:F)(xs:List Operand)(r:Nat):Bool:=xs.any λx=>match f.get x with
 | some (.val y)=>y.cells.any λc=>c.names r||(match c with
  | .ptr o _=>match f.obj o with
   | some z=>z.names r
   | none=>Z
  | _=>Z)
 | _=>Z
def C.lives(f:F)(xs:List Operand):C->Bool
 | .sub r _ _ _ _ _=>f.isRow r&& !cDk f xs r
 | .ip r _ _ _ _ _ _=>f.isRow r&& !cDk f xs r
 | _=>Y
def S.lives(f:F)(xs:List Operand):S->Bool
 | .val x=>x.cells.all (C.lives f xs)
 | x=> !x.isSub
def F.subsFor(f:F)(xs:List Operand):F:=⟨f.ctr+1,f.fr.filter (λe=>e.2.2.lives f xs),f.ob.map λe=>if e.2.2.isSub then (e.1,f.ctr,e.2.2.noSub) else e⟩
def W9(c:Con)(f:F)(d:Option Nat)(xs:List Operand)(K:F->Option R):Option R:=
 match S0 f 0 c.pre.fr xs with
 | some (tvs,ps)=>
  match Lj f c.pre.ob ps with
  | some (tws,H)=>
   if xS (H.map (·.1))=Y/\xS (H.map (·.2))=Y/\xS (c.pre.ob.map (·.1))=Y/\(c.pre.ob.isEmpty=Y->H.isEmpty=Y)/\f.subOk H=Y then
    lC (MT c.pre.tys (tvs++tws)) λa=>lC (F0.inj c.pre a) λ_=>Option.bind (c.sem a) λy=>lC (F0.inj c.post y) λp=>
     cond (SX H (d.getD 9000) p) (K ((((f.scrubs (vG H (d.getD 9000) p)).less H).give H (d.getD 9000) p.ob).put d (Uk ((Ey p.fr).map (YS H (d.getD 9000)))))) N
   else N
  | none=>N
 | none=>N
def cC2:CT->C->List Nat
 | .var _,.row r=>[r]
 | _,_=>[]
def Yo:List CT->List C->List Nat
 | t::ts,c::cs=>cC2 t c++Yo ts cs
 | _,_=>[]
def cM6(f:F)(obs:List (Nat×OT)):CT->C->List Nat
 | .ptr p _,.ptr o _=>match obs.find? (λe=>e.1==p),f.obj o with
  | some (_,.box cts),U (.box cs)=>Yo cts cs
  | _,_=>[]
 | _,_=>[]
def Zs(f:F)(obs:List (Nat×OT)):List (Nat×ST)->List Operand->List Nat
 | (_,h)::hs,x::xs=>(match h,f.get x with
  | .one t,U (.val (.one c))=>cC2 t c++cM6 f obs t c
  | .agg ts,U (.val (.agg cs))=>Yo ts cs
  | _,_=>[])++Zs f obs hs xs
 | _,_=>[]
def Yh(o:Nat)(obs:List (Nat×OT)):Nat->List CT->List C->List Wk
 | j,.row q::ts,.nil::cs=>(match obs.find? λe=>e.1==q with
  | some (_,.row e k t _)=>[Wk.nilB o j (180000+j) e k t]
  | _=>[])++Yh o obs (j+1) ts cs
 | j,_::ts,_::cs=>Yh o obs (j+1) ts cs
 | _,_,_=>[]
def cHv(f:F)(obs:List (Nat×OT)):List (Nat×ST)->List Operand->List Wk
 | (_,h)::hs,x::xs=>(match h,f.get x with
  | .one (.ptr p _),U (.val (.one (.ptr o _)))=>match obs.find? (λe=>e.1==p),f.obj o with
   | some (_,.box cts),U (.box cs)=>Yh o obs 0 cts cs
   | _,_=>[]
  | _,_=>[])++cHv f obs hs xs
 | _,_=>[]
def SE(c:Con)(f:F)(d:Option Nat)(xs:List Operand)(K:F->Option R):Option R:=
 lC ((f.frzAll (Zs f c.pre.ob c.pre.fr xs)).wks (cHv (f.frzAll (Zs f c.pre.ob c.pre.fr xs)) c.pre.ob c.pre.fr xs)) λg=>W9 c (g.subsFor xs) d xs K
def Con.raw(E:List Con)(d:Option Nat)(c:Con):Con:=
 match d with
 | some d=>cond (Fc E (1100000000+d)).isSome {c with win:=Z} c
 | none=>c
def S.isPtr(o:Nat):S->Bool
 | .val (.one (.ptr o' off))=>o'==o&&off==0
 | _=>Z
def bMt(f:F)(o:Nat):Option Nat:=(f.fr.find? λe=>e.2.2.isPtr o).map (·.1)
def X9(E:List Con)(f:F)(d:Option Nat)(cl:Call)(K:F->Option R):Option R:=
 match cl.callee with
 | .value (.func g)=>
  match (Fc E g).map (Con.raw E d) with
  | some c=>
   cond c.ptrs (SE c f d cl.args.toList K)
   (match c.pre.ob with
   | []=>X2 c (if c.post.fr.any (·.2.isSl) then f.noSubs.frzAll (OH f.noSubs cl.args.toList) else f.noSubs) d cl.args.toList K
   | _=>WR c f d cl.args.toList K)
  | none=>N
 | .value x=>
  match f.getC x with
  | some (.clo g o)=>
   match Fc E g,bMt f o with
   | some c,U s=>cond c.ptrs (SE c f d (cl.args.toList++[.tmp s]) K) N
   | _,_=>N
  | _=>N
 | _=>N
def Tb:Op->Bool
 | .load _ _=>Y
 | .convert _ _ _=>Y
 | _=>Z
def Gk:Op->Bool
 | .alloc _=>Z
 | .box _ _=>Z
 | .store _ _ _=>Z
 | .makeSlice _ _ _=>Z
 | .buildSlice _ _ _=>Z
 | .call cl=>
  match cl.callee with
  | .builtin .len=>Y
  | .builtin .max=>Y
  | .builtin .min=>Y
  | _=>Z
 | _=>Y
def preF(f:F):Op->F
 | .slice _ x _ _ _=>match f.getC x with
  | some (.row r)=>f.frzRow r
  | _=>f
 | _=>f
def cFs(d:Nat):Con:=⟨1000000000+d,⟨[],[]⟩,⟨[],[]⟩,Z,λ_=>N⟩
def cFr(E:List Con)(o:Oper):Bool:=
 match o.op,o.dst with
 | .slice _ _ N (U _) N,U d=>(Fc E (1000000000+d)).isSome
 | _,_=>Z
def Xx(P:Program)(f:F)(o:Oper)(K:F->Option R):Option R:=
 match o.op,o.dst with
 | .slice t x N (U y) N,U d=>
  match P.underlying t,f.getC x,f.getC y with
  | some (.slice e),U (.row q),U (.v (.int _) n)=>
   match f.obj q,P.info? e with
   | some (.row e' k ty l deep),U i=>
    if i.size=k/\pinned q=Z then cond (bG 0 n (l.length:Int)) (K ((f.noSubs.add q (.row e' k ty (l.take n.toNat) deep)).put (U d) (.val (.one (.row q))))) N else N
   | _,_=>N
  | _,_,_=>N
 | _,_=>N
def cK5(E:List Con)(o:Oper):Bool:=
 match o.op,o.dst with
 | .load _ _,U d=>(Fc E (1200000000+d)).isSome
 | _,_=>Z
def XR(P:Program)(f:F)(o:Oper)(K:F->Option R):Option R:=
 match o.op with
 | .load t p=>
  match f.getC p with
  | some (.rp r k i off)=>
   match f.obj r with
   | some (.row _ k' ty l Y)=>if k=k' then Option.bind l[i]? λx=>lC (H8 P t off (GA r k i 0 (split ty x))) λx=>K (f.put o.dst (.val x)) else N
   | _=>N
  | _=>N
 | _=>N
def cN3(E:List Con)(o:Oper):Bool:=
 match o.op,o.dst with
 | .slice _ _ _ _ N,U d=>(Fc E (1400000000+d)).isSome
 | _,_=>Z
def Z8(P:Program)(f:F)(o:Oper)(K:F->Option R):Option R:=
 match o.op,o.dst with
 | .slice t x lo hi N,U d=>
  match P.underlying t,f.getC x with
  | some (.slice e),U (.row q)=>
   match f.obj q,P.info? e with
   | some (.row _ k _ l _),U i=>
    match FT f 0 lo,FT f (l.length:Int) hi with
    | some a,U b=>if i.size=k then cond (bG a b (l.length:Int)) (K (f.put (U d) (.val (.one (.rc q k a b))))) N else N
    | _,_=>N
   | _,_=>N
  | _,_=>N
 | _,_=>N
def cJx(f:F):List Operand->Bool
 | [s,_]=>match f.getC s with
  | some (.rc _ _ _ _)=>Y
  | _=>Z
 | _=>Z
def XK(P:Program)(f:F)(d:Option Nat)(cl:Call)(K:F->Option R):Option R:=
 match d,cl.callee,cl.args.toList,cl.argTypes.toList with
 | some d,.builtin .append,[s,x],[t,t']=>
  if t=t' then
   match P.underlying t,f.getC s,f.getC x with
   | some (.slice e),U (.rc q k a1 b1),U (.rc q2 k2 a2 b2)=>
    match f.obj q,P.info? e with
    | some (.row e1 k1 ty l deep),U i=>
     match i.zero with
     | some z=>
      if e1=e/\k1=i.size/\k=k1/\k2=k1/\q2=q/\a1=0/\flat ty=Y/\pinned q=Z/\z.cells.size=i.size/\0<i.size then
       cond (bG a1 b1 (l.length:Int)) (cond (bG a2 b2 (l.length:Int)) (cond (aF i.bytes (cut l a1 b1).length (cut l a2 b2).length) (K ((f.noSubs.add q (.row e1 k1 ty (cut l a1 b1++cut l a2 b2) deep)).put (U d) (.val (.one (.row q))))) N) N) N
      else N
     | none=>N
    | _,_=>N
   | _,_,_=>N
  else N
 | _,_,_,_=>N
def Nh(P:Program)(E:List Con)(f:F)(o:Oper)(K:F->Option R):Option R:=
 cond (cN3 E o) (Z8 P f o K) (cond (cFr E o) (Xx P f o K) (cond (cK5 E o) (XR P f o K) (cond (Gk o.op) (JK P (preF f o.op) (λs=>K ((preF f o.op).put o.dst s)) o.op)
  (match o.op with
  | .call cl=>
   match cl.callee with
   | .builtin .append=>cond (cJx f cl.args.toList) (XK P f o.dst cl K) (QB P f.noSubs o.dst K o.op)
   | _=>X9 E f o.dst cl K
  | .store t p x=>cond (cNw f p) (match o.dst with
   | none=>Wl P f t p x K
   | some _=>N) (QB P f.noSubs o.dst K (.store t p x))
  | _=>QB P f.noSubs o.dst K o.op))))
def kQ(n:Nat):Option Nat->Bool
 | some d=>W (d<n)
 | none=>Y
def F.setB(f:F)(d:Nat)(b:Bool):F:=f.put (U d) (.val (.one (.v .bool b)))
def I0(P:Program)(n:Nat)(E:List Con)(ops:Array Oper)(f:F)(o:Oper)(K:F->Option R):Option R:=
 cond (kQ n o.dst)
 (match o.guard with
 | none=>Nh P E f o K
 | some (j,want)=>
  match (ops[j]?).bind (·.dst) with
  | some d=>
   match f.look d with
   | some .un=>K (f.put o.dst .un)
   | some (.val (.one (.v .bool b)))=>
    cond b
     (cond want (Nh P E (f.setB d Y) o K) (K ((f.setB d Y).put o.dst .un)))
     (cond want (K ((f.setB d Z).put o.dst .un)) (Nh P E (f.setB d Z) o K))
   | _=>N
  | none=>N) N
def cMf(d:Nat):Con:=⟨1500000000+d,⟨[],[]⟩,⟨[],[]⟩,Z,λ_=>N⟩
def cJw(E:List Con)(o:Oper):Bool:=
 match o.op,o.dst with
 | .convert _ _ _,U d=>(Fc E (1500000000+d)).isSome
 | _,_=>Z
def uB(s:ByteArray):List Int:=s.data.toList.map λb=>(b.toNat:Int)
def Uu(P:Program)(n:Nat)(f:F)(o:Oper)(K:F->Option R):Option R:=
 match o.op,o.dst,o.guard with
 | .convert src dst x,U d,N=>
  match P.underlying src,P.underlying dst,f.noSubs.getC x with
  | some .string,U (.slice e),U (.v .str s)=>
   match P.underlying e with
   | some (.int .u8)=>cond (kQ n (U d)) (K (f.noSubs.put (U d) (.val (.one (.v (.sl (.int .u8)) (uB s)))))) N
   | _=>N
  | _,_,_=>N
 | _,_,_=>N
def Nb(P:Program)(n:Nat)(E:List Con)(ops:Array Oper):List Oper->F->(F->Option R)->Option R
 | [],f,K=>K f
 | o::os,f,K=>cond (cJw E o) (Uu P n f o λf'=>Nb P n E ops os f' K) (I0 P n E ops f o λf'=>Nb P n E ops os f' K)
def ED(E:List Con):Op->Bool
 | .store _ _ _=>Y
 | .call cl=>
  match cl.callee with
  | .builtin .len=>Z
  | .builtin .max=>Z
  | .builtin .min=>Z
  | .value (.func g)=>match Fc E g with
   | some c=> !c.pre.ob.isEmpty
   | none=>Y
  | _=>Y
 | _=>Z
def ZK(E:List Con)(ops:Array Oper)(j:Nat):Bool:=
 match ops[j]? with
 | some o=>ED E o.op
 | none=>Z
def vD:Op->Option Operand
 | .store _ p _=>U p
 | .call cl=>match cl.callee,cl.args.toList with
  | .builtin .append,[x,_]=>U x
  | _,_=>N
 | _=>N
def E1:Op->Bool
 | .call cl=>match cl.callee with
  | .builtin .append=>Y
  | _=>Z
 | _=>Z
def Ls:Op->Bool
 | .alloc _=>Y
 | .box _ _=>Y
 | .makeSlice _ _ _=>Y
 | .buildSlice _ _ _=>Y
 | _=>Z
def Q5(ops:Array Oper)(t k:Nat):Bool:=
 match ops[k]? with
 | some o=>(Ls o.op||E1 o.op)&&(o.dst==U t)
 | none=>Z
def Qt(ops:Array Oper)(t k:Nat):Bool:=
 match ops[k]? with
 | some o=>o.dst==U t
 | none=>Z
def Wh(ops:Array Oper)(o:Oper)(k:Nat):Bool:=o.after.any λe=>Region.binds .any e&&e.on==k
def T3(ops:Array Oper)(listed:Array Bool):Nat->Nat->Nat->Bool
 | 0,_,_=>Z
 | n+1,t,k=> !(listed.getD k Y)&&(Q5 ops t k&&((Es ops.size).all (λq=>q==k|| !Qt ops t q)&&(match ops[k]? with
  | some o=>Ls o.op||(match vD o.op with
   | some (.const (.slice N 0 0))=>Y
   | some (.tmp t')=>(Es ops.size).any λk'=>Wh ops o k'&&T3 ops listed n t' k'
   | _=>Z)
  | none=>Z)))
def ZL(ops:Array Oper)(listed:Array Bool)(j:Nat):Bool:=
 match ops[j]? with
 | some o=>
  match vD o.op with
  | some (.const (.slice N 0 0))=>Y
  | some (.tmp t)=>(Es ops.size).any λk=>Wh ops o k&&T3 ops listed ops.size t k
  | _=>Z
 | none=>Z
def TG(ops:Array Oper)(i:Nat)(D:List Nat)(k:Nat):Bool:=
 match ops[k]? with
 | some o=>o.after.any λe=>Region.binds .any e&&(e.on==i||D.contains e.on)
 | none=>Z
def QH(ops:Array Oper)(listed:Array Bool)(i:Nat):List Nat->List Nat->List Nat
 | [],D=>D
 | k::ks,D=>QH ops listed i ks (cond (!(listed.getD k Y)&&TG ops i D k) (k::D) D)
def cDj(E:List Con)(ops:Array Oper)(listed:Array Bool)(i:Nat):Bool:=
 (Es ops.size).all λj=> !ZK E ops j||(listed.getD j Y||((QH ops listed i (Es ops.size) []).contains j||ZL ops listed j))
def Ww(E:List Con)(ops:Array Oper)(listed:Array Bool)(i:Nat)(o:Oper):Bool:=
 (Region.ready .any ops listed==[i])||((Region.ready .any ops listed).contains i&&(Region.free .any ops listed i&&((!Tb o.op||cDj E ops listed i)&&Gk o.op)))
inductive EA where
 | z
 | op (i:Nat) (o:EA)
 | alt (i:Nat) (o m:EA)
def EA.heads:EA->List Nat
 | .alt i _ m=>i::m.heads
 | _=>[]
open Classical in
noncomputable def fE(x y:Option R):Option R:=Option.bind x λr=>if y=U r then U r else N
noncomputable def J0(P:Program)(n:Nat)(E:List Con)(ops:Array Oper):Bool->EA->Array Bool->F->(F->Option R)->Option R
 | b,.z,listed,f,K=>cond b N (cond ((Region.ready .any ops listed).isEmpty) (K f) N)
 | b,.op i o,listed,f,K=>cond b N
  (match ops[i]? with
  | some oi=>cond (Ww E ops listed i oi) (I0 P n E ops f oi λf'=>J0 P n E ops Z o (listed.setIfInBounds i Y) f' K) N
  | none=>N)
 | b,.alt i o m,listed,f,K=>cond (b||(Region.ready .any ops listed==i::m.heads))
  (match ops[i]? with
  | some oi=>match m with
   | .z=>I0 P n E ops f oi λf'=>J0 P n E ops Z o (listed.setIfInBounds i Y) f' K
   | m=>fE (I0 P n E ops f oi λf'=>J0 P n E ops Z o (listed.setIfInBounds i Y) f' K) (J0 P n E ops Y m listed f K)
  | none=>N) N
def QF(E:List Con)(ops:Array Oper):Nat->Array Bool->EA
 | 0=>λ_=> .z
 | k+1=>λlisted=>
  match (Region.ready .any ops listed).find? (λi=>match ops[i]? with
   | some o=>Ww E ops listed i o
   | none=>Z) with
  | some i=> .op i (QF E ops k (listed.setIfInBounds i Y))
  | none=>(Region.ready .any ops listed).foldr (λi m=> .alt i (QF E ops k (listed.setIfInBounds i Y)) m) .z
inductive Plan where
 | z
 | seq (p q:Plan)
 | cond (p q:Plan)
 | block (p:Plan)
 | loop (h:Sh) (p:Plan)
 | cut (h:Sh) (p q:Plan)
 | cutR (h:Sh) (p q:Plan)
def Plan.l:Plan->Plan
 | .seq p _=>p
 | .cond p _=>p
 | .block p=>p
 | .loop _ p=>p
 | .cut _ p _=>p
 | .cutR _ p _=>p
 | .z=> .z
def Plan.r:Plan->Plan
 | .seq _ q=>q
 | .cond _ q=>q
 | .cut _ _ q=>q
 | .cutR _ _ q=>q
 | _=> .z
def zF{σ R:Type}(step:σ->Option (σ⊕R)):Nat->σ->Option R
 | 0,_=>N
 | n+1,s=>(step s).bind (Sum.elim (zF step n) U)
open Classical in
noncomputable def aB{σ R:Type}(step:σ->Option (σ⊕R))(s:σ):Option R:=
 if h:∃n,(zF step n s).isSome=Y then zF step h.choose s else N
def F.wf(f:F):Bool:=xS (f.fr.map (·.1))&&(xS (f.ob.map (·.1))&&(f.fr.all (λe=>Nat.blt e.2.1 f.ctr)&&f.ob.all λe=>Nat.blt e.2.1 f.ctr))
def Sh.wf(h:Sh):Bool:=xS (h.ob.map (·.1))
noncomputable def ev(P:Program)(n:Nat)(E:List Con):Code->{R:Type}->Plan->F->(Exit->F->Option R)->Option R
 | .skip,_,_,f,K=>K .normal f
 | .ret,_,_,f,K=>K .ret f
 | .exit id,_,_,f,K=>K (.exit id) f
 | .region _ ops Z,_,_,f,K=>Nb P n E ops ops.toList f λf'=>K .normal f'
 | .region _ ops Y,_,_,f,K=>cond (Region.noSelect ops) (J0 P n E ops Z (QF E ops ops.size (Array.replicate ops.size Z)) (Array.replicate ops.size Z) f λf'=>K .normal f') N
 | .seq x y,_,.cut h p q,f,K=>cond (f.wf&&h.wf)
  (Option.bind (ev P n E x (R:=D4 h.tys) p f λe g=>match e with
   | .normal=>f.fit g h
   | _=>N) λs=>lC (f.inj h s) λg=>ev P n E y q g K) N
 | .seq x y,R,.cutR h p q,f,K=>cond (f.wf&&h.wf)
  (Option.bind (ev P n E x (R:=D4 h.tys⊕R) p f λe g=>match e with
   | .normal=>(f.fit g h).map Sum.inl
   | e=>(K e g).map Sum.inr) λs=>Sum.elim (λs=>lC (f.inj h s) λg=>ev P n E y q g K) U s) N
 | .seq x y,_,pl,f,K=>ev P n E x pl.l f λe g=>match e with
   | .normal=>ev P n E y pl.r g K
   | e=>K e g
 | .cond c x y,_,pl,f,K=>
  match f.getC c with
  | some (.v .bool b)=>cond b (ev P n E x pl.l f K) (ev P n E y pl.r f K)
  | _=>N
 | .block id x,_,pl,f,K=>ev P n E x pl.l f λe g=>match e with
   | .exit j=>if j=id then K .normal g else K (.exit j) g
   | e=>K e g
 | .loop x,R,.loop h p,f,K=>cond (f.wf&&h.wf) (lC (f.fit f h) λs0=>
   aB (λs=>lC (f.inj h s) λg=>ev P n E x (R:=D4 h.tys⊕R) p g λe g'=>match e with
    | .normal=>(f.fit g' h).map Sum.inl
    | e=>(K e g').map Sum.inr) s0) N
 | _,_,_,_,_=>N
def T4(P:Program)(f:F):ResultVar->Option A
 | .tmp t=>match f.look t with
  | some (.val x)=>U x
  | _=>N
 | .cell t ty=>match f.look t with
  | some (.val (.one (.ptr o off)))=>match f.obj o with
   | some (.box cs)=>H8 P ty off cs
   | _=>N
  | _=>N
def Nc(P:Program)(f:F):Nat->List ResultVar->Option (List (Nat×Nat×S))
 | _,[]=>U []
 | i,r::rs=>match T4 P f r,Nc P f (i+1) rs with
  | some a,U xs=>U ((i,f.ctr,.val a)::xs)
  | _,_=>N
noncomputable def YY(P:Program)(E:List Con)(fn:Func)(pl:Plan)(pre post:Sh)(x:D4 pre.tys):Option (D4 post.tys):=
 match fn.body with
 | some cd=>cond (post.wf&&(Nat.beq post.fr.length fn.results.size&&Nat.ble pre.fr.length fn.ntmps)) (lC (F0.inj pre x) λf=>ev P fn.ntmps E cd pl f λe g=>
  match e with
  | .ret=>lC (Nc P g 0 fn.results.toList) λrs=>F0.fit ⟨g.ctr+1,rs,g.ob⟩ post
  | .normal=>lC (Nc P g 0 fn.results.toList) λrs=>F0.fit ⟨g.ctr+1,rs,g.ob⟩ post
  | _=>N) N
 | none=>N
end
end Go.V
set_option linter.unusedVariables false
namespace Go.V
open Go.Ab Go.RowKit
inductive bD {α β:Type} (R:α->β->Prop):List α->List β->Prop
 | nil:bD R [] []
 | cons {a:α} {b:β} {as:List α} {bs:List β} (h:R a b) (hs:bD R as bs):bD R (a::as) (b::bs)
section
variable {α β:Type} {R R':α->β->Prop}
theorem bD.length{as:List α}{bs:List β}(h:bD R as bs):as.length=bs.length:=by
 induction h with
 | nil=>rfl
 | cons _ _ ih=>simp[ih]
theorem bD.mono{as:List α}{bs:List β}(h:bD R as bs)(hr:∀a b,b∈bs->R a b->R' a b):bD R' as bs:=by
 induction h with
 | nil=>exact .nil
 | cons h hs ih=>exact .cons (hr _ _ (CC ..) h) (ih λa b hb=>hr a b (C1 _ hb))
theorem bD.get{as:List α}{bs:List β}(h:bD R as bs):∀{j:Nat} {b:β},bs[j]? =U b-> ∃a,as[j]? =U a/\R a b:=by
 induction h with
 | nil=>intro j b hb;simp at hb
 | cons h hs ih=>
  intro j b hb;cases j with
  | zero=>simp at hb;subst hb;exact⟨_,rfl,h⟩
  | succ j=>obtain⟨a,ha,hr⟩:=ih (j:=j) (b:=b) (by simpa using hb);exact⟨a,by simpa using ha,hr⟩
theorem bD.take{as:List α}{bs:List β}(h:bD R as bs):∀n,bD R (as.take n) (bs.take n):=by
 induction h with
 | nil=>intro n;simpa using .nil
 | cons h hs ih=>
  intro n;cases n with
  | zero=>exact .nil
  | succ n=>exact .cons h (ih n)
theorem bD.drop{as:List α}{bs:List β}(h:bD R as bs):∀n,bD R (as.drop n) (bs.drop n):=by
 induction h with
 | nil=>intro n;simpa using .nil
 | cons h hs ih=>
  intro n;cases n with
  | zero=>exact .cons h hs
  | succ n=>exact ih n
theorem bD.set{as:List α}{bs:List β}(h:bD R as bs){a:α}{b:β}(hr:R a b):∀n,bD R (as.set n a) (bs.set n b):=by
 induction h with
 | nil=>intro n;simpa using .nil
 | cons h hs ih=>
  intro n;cases n with
  | zero=>exact .cons hr hs
  | succ n=>exact .cons h (ih n)
theorem bD.append{as as':List α}{bs bs':List β}(h:bD R as bs)(h':bD R as' bs'):bD R (as++as') (bs++bs'):=by
 induction h with
 | nil=>exact h'
 | cons h hs ih=>exact .cons h ih
theorem bD.comp{γ:Type}{S:γ->β->Prop}{Q:α->γ->Prop}{as:List α}{bs:List β}{cs:List γ}(h:bD R as bs)(h':bD S cs bs)(hq:∀a b c,R a b->S c b->Q a c):bD Q as cs:=by
 induction h generalizing cs with
 | nil=>cases h';exact .nil
 | cons h hs ih=>cases h' with | cons h1 h2=>exact .cons (hq _ _ _ h h1) (ih h2)
end
structure Cx where
 loc:Nat->Nat
 rv:Nat->Value
def aW(c:Cx)(ow:Nat->Option Nat)(w:World)(ok:Nat->Prop)(v:Value):C->Prop
 | .v t x=> ∃G,Rep w v (fX t x) G/\ ∀b∈G,ok b
 | .nil=>v= .slice N 0 0
 | .row r=>v=c.rv r
 | .ptr o off=>v= .pointer (U ⟨c.loc o,off,N⟩)
 | .ep t x off=> ∃b base,v= .pointer (U ⟨b,base+off,N⟩)/\ok b/\b<w.heap.size/\ ∃xs G,RepL w xs (cells t x) G/\(∀j u,xs[j]? =U u->w.cell? ⟨b,base+j,N⟩=U u)/\ ∀b∈G,ok b
 | .rp r k i off=> ∃g b0 n cap,c.rv r= .slice (U ⟨g,b0,N⟩) n cap/\v= .pointer (U ⟨g,b0+(i * k+off),N⟩)
 | .sub r k i off t x=> ∃g b0 n cap,c.rv r= .slice (U ⟨g,b0,N⟩) n cap/\w.cell? ⟨g,b0+(i * k+off),N⟩=U v/\ ∃G,Rep w v (fX (.sl t) x) G/\ ∀b∈G,ow b=U r
 | .ip r k i off m j q=> ∃g b0 n cap g2 b2 n2 cap2,c.rv r= .slice (U ⟨g,b0,N⟩) n cap/\w.cell? ⟨g,b0+(i * k+off),N⟩=U (.slice (U ⟨g2,b2,N⟩) n2 cap2)/\v= .pointer (U ⟨g2,b2+(j * m+q),N⟩)
 | .clo g o=>v= .func (.func g) #[] #[.pointer (U ⟨c.loc o,0,N⟩)]
 | .rc r k lo hi=> ∃ad n cap,c.rv r= .slice ad n cap/\v= .slice (if cap=lo.toNat then ad else ad.map (·.add (lo.toNat * k))) (hi - lo).toNat (cap - lo.toNat)
 | .any=>v.oneCell'=Y
def dT(c:Cx)(ow:Nat->Option Nat)(w:World)(ok:Nat->Prop)(v:Value):A->Prop
 | .one x=>aW c ow w ok v x
 | .agg cs=> ∃vs:List Value,v= .agg vs.toArray/\bD (aW c ow w ok) vs cs
def jL(c:Cx)(ow:Nat->Option Nat)(w:World)(ok:Nat->Prop)(v:Value):S->Prop
 | .val x=>dT c ow w ok v x
 | .tup xs=> ∃vs:List Value,v= .tuple vs.toArray/\bD (dT c ow w ok) vs xs
 | .un=>v=undef
def F.subFree(f:F):Prop:=(∀s n x,(s,n,x)∈f.fr->x.isSub=Z)/\ ∀o n x,(o,n,x)∈f.ob->x.isSub=Z
structure Ix (w w':World) (ok ok':Nat->Prop):Prop where
 size:w.heap.size<=w'.heap.size
 block:∀b,b<w.heap.size->ok b->w'.heap[b]? =w.heap[b]?
 good:∀b,b<w.heap.size->ok b->ok' b
section
variable {c:Cx} {ow ow':Nat->Option Nat} {w w':World} {ok ok':Nat->Prop} {v:Value}
theorem aW.keep{x:C}(h:aW c ow w ok v x)(hs:x.isSub=Z)(k:Ix w w' ok ok'):aW c ow' w' ok' v x:=by
 cases x with
 | v t x=>
  obtain⟨G,hr,hG⟩:=h;exact⟨G,hr.frame λb hb=>k.block b (hr.lt b hb) (hG b hb),λb hb=>k.good b (hr.lt b hb) (hG b hb)⟩
 | ep t x off=>
  obtain⟨b,base,hv,hb,hlt,xs,G,hr,hc,hG⟩:=h;exact⟨b,base,hv,k.good b hlt hb,N8 hlt k.size,xs,G,hr.frame λb hb=>k.block b (hr.lt b hb) (hG b hb),
   λj u hu=>(World.cell?_of_block (k.block b hlt hb)).trans (hc j u hu),λb hb=>k.good b (hr.lt b hb) (hG b hb)⟩
 | sub _ _ _ _ _ _=>cases hs
 | ip _ _ _ _ _ _ _=>cases hs
 | nil=>exact h
 | row _=>exact h
 | ptr _ _=>exact h
 | rp _ _ _ _=>exact h
 | clo _ _=>exact h
 | rc _ _ _ _=>exact h
 | any=>exact h
theorem dT.keep{x:A}(h:dT c ow w ok v x)(hs:x.isSub=Z)(k:Ix w w' ok ok'):dT c ow' w' ok' v x:=by
 cases x with
 | one t=>exact aW.keep h hs k
 | agg ts=>
  simp only[A.isSub,Da]at hs;obtain⟨vs,hv,ha⟩:=h;exact⟨vs,hv,ha.mono λa b hb hr=>hr.keep (by simpa using hs b hb) k⟩
theorem jL.keep{x:S}(h:jL c ow w ok v x)(hs:x.isSub=Z)(k:Ix w w' ok ok'):jL c ow' w' ok' v x:=by
 cases x with
 | val x=>exact dT.keep h hs k
 | tup xs=>
  simp only[S.isSub,Da]at hs;obtain⟨vs,hv,ha⟩:=h;exact⟨vs,hv,ha.mono λa b hb hr=>hr.keep (by simpa using hs b hb) k⟩
 | un=>exact h
theorem aW.good{x:C}(h:aW c ow w ok v x)(k:∀b,b<w.heap.size->ok b->ok' b):aW c ow w ok' v x:=by
 cases x with
 | v t x=>obtain⟨G,hr,hG⟩:=h;exact⟨G,hr,λb hb=>k b (hr.lt b hb) (hG b hb)⟩
 | ep t x off=>
  obtain⟨b,base,hv,hb,hlt,xs,G,hr,hc,hG⟩:=h;exact⟨b,base,hv,k b hlt hb,hlt,xs,G,hr,hc,λb hb=>k b (hr.lt b hb) (hG b hb)⟩
 | sub _ _ _ _ _ _=>exact h
 | ip _ _ _ _ _ _ _=>exact h
 | nil=>exact h
 | row _=>exact h
 | ptr _ _=>exact h
 | rp _ _ _ _=>exact h
 | clo _ _=>exact h
 | rc _ _ _ _=>exact h
 | any=>exact h
theorem dT.good{x:A}(h:dT c ow w ok v x)(k:∀b,b<w.heap.size->ok b->ok' b):dT c ow w ok' v x:=by
 cases x with
 | one t=>exact aW.good h k
 | agg ts=>obtain⟨vs,hv,ha⟩:=h;exact⟨vs,hv,ha.mono λa b _ hr=>hr.good k⟩
theorem jL.good{x:S}(h:jL c ow w ok v x)(k:∀b,b<w.heap.size->ok b->ok' b):jL c ow w ok' v x:=by
 cases x with
 | val x=>exact dT.good h k
 | tup xs=>obtain⟨vs,hv,ha⟩:=h;exact⟨vs,hv,ha.mono λa b _ hr=>hr.good k⟩
 | un=>exact h
end
structure Cx.but (c c':Cx) (d:Nat):Prop where
 loc:∀o,o≠d->c'.loc o=c.loc o
 rv:∀o,o≠d->c'.rv o=c.rv o
def Cx.setLoc(c:Cx)(d b:Nat):Cx:={c with loc:=λo=>if o=d then b else c.loc o}
def Cx.setRv(c:Cx)(d:Nat)(v:Value):Cx:={c with rv:=λo=>if o=d then v else c.rv o}
theorem Cx.but_loc(c:Cx)(d b:Nat):c.but (c.setLoc d b) d:=⟨λo h=>by simp[Cx.setLoc,h],λ_ _=>rfl⟩
theorem Cx.but_rv(c:Cx)(d:Nat)(v:Value):c.but (c.setRv d v) d:=⟨λ_ _=>rfl,λo h=>by simp[Cx.setRv,h]⟩
section
variable {c c':Cx} {ow:Nat->Option Nat} {w:World} {ok:Nat->Prop} {v:Value} {d:Nat}
theorem aW.but{x:C}(h:aW c ow w ok v x)(hd:x.names d=Z)(k:c.but c' d):aW c' ow w ok v x:=by
 cases x with
 | row r=>simp[C.names]at hd;simp only[aW]at h ⊢;rw[k.rv r hd];exact h
 | ptr o off=>simp[C.names]at hd;simp only[aW]at h ⊢;rw[k.loc o hd];exact h
 | rp r k' i off=>simp[C.names]at hd;simp only[aW]at h ⊢;rw[k.rv r hd];exact h
 | sub r k' i off t x=>simp[C.names]at hd;simp only[aW]at h ⊢;rw[k.rv r hd];exact h
 | ip r k' i off m j q=>simp[C.names]at hd;simp only[aW]at h ⊢;rw[k.rv r hd];exact h
 | clo g o=>simp[C.names]at hd;simp only[aW]at h ⊢;rw[k.loc o hd];exact h
 | rc r k' lo hi=>simp[C.names]at hd;simp only[aW]at h ⊢;rw[k.rv r hd];exact h
 | v _ _=>exact h
 | nil=>exact h
 | ep _ _ _=>exact h
 | any=>exact h
theorem dT.but{x:A}(h:dT c ow w ok v x)(hd:x.names d=Z)(k:c.but c' d):dT c' ow w ok v x:=by
 cases x with
 | one t=>exact aW.but h hd k
 | agg ts=>
  obtain⟨vs,hv,ha⟩:=h;simp only[A.names,Da]at hd;exact⟨vs,hv,ha.mono λa b hb hr=>hr.but (by simpa using hd b hb) k⟩
theorem jL.but{x:S}(h:jL c ow w ok v x)(hd:x.names d=Z)(k:c.but c' d):jL c' ow w ok v x:=by
 cases x with
 | val x=>exact dT.but h hd k
 | tup xs=>
  obtain⟨vs,hv,ha⟩:=h;simp only[S.names,Da]at hd;exact⟨vs,hv,ha.mono λa b hb hr=>hr.but (by simpa using hd b hb) k⟩
 | un=>exact h
end
def tyLen:Ty->Nat
 | .pair a b=>tyLen a+tyLen b
 | _=>1
theorem dI:∀(t:Ty) (x:den t),(cells t x).length=tyLen t
 | .int _,_=>rfl
 | .bool,_=>rfl
 | .str,_=>rfl
 | .sl _,_=>rfl
 | .pair a b,x=>by simp[cells,tyLen,dI a,dI b]
theorem NU:∀(t:Ty) (x:den t),(split t x).length=tyLen t
 | .int _,_=>rfl
 | .bool,_=>rfl
 | .str,_=>rfl
 | .sl _,_=>rfl
 | .pair a b,x=>by simp[split,tyLen,NU a,NU b]
def O.blk(c:Cx)(ow:Nat->Option Nat)(o:Nat):O->Nat->Prop
 | .box _,b=>c.loc o=b
 | .row _ _ _ _ _,b=>(c.rv o).ownBlock=U b
 | .win _ _ _,b=>ow b=U o
def live(c:Cx)(ow:Nat->Option Nat)(ob:List (Nat×Nat×O))(b:Nat):Prop:= ∃o n x,(o,n,x)∈ob/\x.blk c ow o b
def BY(src:Nat->Prop)(c:Cx)(ow:Nat->Option Nat)(ob:List (Nat×Nat×O))(b:Nat):Prop:=src b/\ ¬ live c ow ob b
def DN(w:World)(b:Nat):Prop:= ∃cs e,w.heap[b]? =U (.cells cs e (0,0))
def Hg(M:Nat->Prop)(c:Cx)(ow:Nat->Option Nat)(w:World)(ok:Nat->Prop)(o:Nat)(cs:List C):Prop:=
 M (c.loc o)/\ow (c.loc o)=U o/\ ∃(vs:List Value) (ty:TypeId),w.heap[c.loc o]? =U (.cells vs.toArray ty (0,0))/\bD (aW c ow w ok) vs cs
def JA(M:Nat->Prop)(c:Cx)(ow:Nat->Option Nat)(w:World)(ok:Nat->Prop)(r e k:Nat)(t:Ty)(l:List (den t))(deep:Bool):Prop:=
 0<k/\tyLen t=k/\(∀g,(c.rv r).ownBlock=U g->M g/\ow g=U r)/\
 ∃(xs:List Value) (G:List Nat),w.ownsRow 0 e k (c.rv r) l.length xs/\RepL w xs (l.map (cells t)).flatten G/\(∀b∈G,ok b)/\
  (deep=Y->G.Nodup/\ ∀b∈G,M b/\ow b=U r/\(c.rv r).ownBlock≠U b/\DN w b)
def JI(M:Nat->Prop)(c:Cx)(ow:Nat->Option Nat)(w:World)(r k:Nat)(t:Ty)(l:List (den t)):Prop:=
 0<k/\tyLen t=k/\ ∃G,Rep w (c.rv r) (fX (.sl t) l) G/\G.Nodup/\ ∀b∈G,M b/\ow b=U r/\DN w b
def yT(M:Nat->Prop)(c:Cx)(ow:Nat->Option Nat)(w:World)(ok:Nat->Prop)(o:Nat):O->Prop
 | .box cs=>Hg M c ow w ok o cs
 | .row e k t l deep=>JA M c ow w ok o e k t l deep
 | .win k t l=>JI M c ow w o k t l
structure aX (M src:Nat->Prop) (c:Cx) (ow:Nat->Option Nat) (f:F) (a:Act) (w:World):Prop where
 defers:a.defers=[]
 fr:∀s n x,(s,n,x)∈f.fr-> ∃v,a.tmps[s]? =U v/\jL c ow w (BY src c ow f.ob) v x
 ob:∀o n x,(o,n,x)∈f.ob->yT M c ow w (BY src c ow f.ob) o x
 uniq:∀o n x m y,(o,n,x)∈f.ob->(o,m,y)∈f.ob->x=y
 rvs:∀r,∃ad n k,c.rv r= .slice ad n k
theorem DN.keep{w w':World}{b:Nat}(h:DN w b)(hk:w'.heap[b]? =w.heap[b]?):DN w' b:=by
 obtain⟨cs,e,h⟩:=h;exact⟨cs,e,hk.trans h⟩
theorem DN.lt{w:World}{b:Nat}(h:DN w b):b<w.heap.size:=by
 obtain⟨cs,e,h⟩:=h;exact (GG.1 h).1
theorem UY{w w':World}{B e k:Nat}{v:Value}{n:Nat}{xs:List Value}(h:w.ownsRow B e k v n xs)(hk:∀g,v.ownBlock=U g->w'.heap[g]? =w.heap[g]?):w'.ownsRow B e k v n xs:=by
 obtain⟨h1,h2⟩:=h;refine⟨h1,?_⟩;rcases h2 with h2 | ⟨g,cap,cur,hv,hB,hh,hr⟩
 .exact .inl h2
 .exact .inr ⟨g,cap,cur,hv,hB,by rw[hk g (by simp[hv,Value.ownBlock])];exact hh,hr⟩
theorem NN{w:World}{B e k:Nat}{v:Value}{n:Nat}{xs:List Value}(h:w.ownsRow B e k v n xs){g:Nat}(hg:v.ownBlock=U g):g<w.heap.size/\B<=g:=by
 obtain⟨_,h2⟩:=h;rcases h2 with ⟨h2,_⟩ | ⟨g',cap,cur,hv,hB,hh,hr⟩
 .simp[h2,Value.ownBlock]at hg
 .simp[hv,Value.ownBlock]at hg;subst hg;exact⟨(GG.1 hh).1,hB⟩
section
variable {M src:Nat->Prop} {c:Cx} {ow ow':Nat->Option Nat} {w w':World} {ok ok':Nat->Prop}
theorem Hg.lt{o:Nat}{cs:List C}(h:Hg M c ow w ok o cs):c.loc o<w.heap.size:=by
 obtain⟨_,_,vs,ty,hh,_⟩:=h;exact (GG.1 hh).1
theorem yT.own{o:Nat}{x:O}(h:yT M c ow w ok o x){b:Nat}(hb:x.blk c ow o b):ow b=U o:=by
 cases x with
 | box cs=>have hb:c.loc o=b:=hb;subst hb;exact h.2.1
 | row e k t l deep=>obtain⟨r0,r1,r2,_⟩:=h;exact (r2 b hb).2
 | win k t l=>exact hb
theorem yT.keep{o:Nat}{x:O}(h:yT M c ow w ok o x)(hs:x.isSub=Z)(kp:Ix w w' ok ok')(hb:∀b,b<w.heap.size->ow b=U o->x.blk c ow o b->w'.heap[b]? =w.heap[b]?)
  (ho:∀b,b<w.heap.size->ow b=U o->ow' b=U o):yT M c ow' w' ok' o x:=by
 cases x with
 | box cs=>
  have hlt:=Hg.lt h;obtain⟨h1,h2,vs,ty,hh,ha⟩:=h;simp only[O.isSub,Da]at hs;exact⟨h1,ho _ hlt h2,vs,ty,by rw[hb _ hlt h2 rfl];exact hh,ha.mono λa b hb hr=>hr.keep (by simpa using hs b hb) kp⟩
 | row e k t l deep=>
  obtain⟨h0,h1,h2,xs,G,h3,h4,h5,h6⟩:=h;refine⟨h0,h1,λg hg=> ?_,xs,G,UY h3 λg hg=>hb g (NN h3 hg).1 (h2 g hg).2 hg,h4.frame λb hb=>kp.block b (h4.lt b hb) (h5 b hb),λb hb=>kp.good b (h4.lt b hb) (h5 b hb),λhd=> ?_⟩
  .exact⟨(h2 g hg).1,ho g (NN h3 hg).1 (h2 g hg).2⟩
  .obtain⟨h7,h8⟩:=h6 hd;refine⟨h7,λb hb=> ?_⟩;obtain⟨h9,h10,h11,h12⟩:=h8 b hb;exact⟨h9,ho b (h4.lt b hb) h10,h11,h12.keep (kp.block b (h4.lt b hb) (h5 b hb))⟩
 | win k t l=>
  obtain⟨h0,h1,G,h2,h3,h4⟩:=h;have hblk:∀b∈G,w'.heap[b]? =w.heap[b]? :=λb hbG=>hb b (h2.lt b hbG) (h4 b hbG).2.1 (h4 b hbG).2.1
  exact⟨h0,h1,G,h2.frame hblk,h3,λb hbG=>⟨(h4 b hbG).1,ho b (h2.lt b hbG) (h4 b hbG).2.1,(h4 b hbG).2.2.keep (hblk b hbG)⟩⟩
end
section
variable {c:Cx} {ow:Nat->Option Nat} {w:World} {ok:Nat->Prop}
theorem Vl(hrv:∀r,∃ad n k,c.rv r= .slice ad n k){t:C}{v:Value}(h:aW c ow w ok v t)(hs:t.solid=Y):v.oneCell'=Y/\v.cells= #[v]:=by
 cases t with
 | v t x=>
  obtain⟨G,hr,_⟩:=h;generalize fX t x=d at hr;cases hr with
  | lit hp=>cases v<;>simp[plain]at hp<;>exact⟨rfl,rfl⟩
  | nil _=>exact⟨rfl,rfl⟩
  | cons _ _ _ _ _ _ _ _ _=>exact⟨rfl,rfl⟩
 | nil=>have h:v= .slice N 0 0:=h;subst h;exact⟨rfl,rfl⟩
 | row r=>have h:v=c.rv r:=h;obtain⟨ad,n,k,he⟩:=hrv r;rw[he]at h;subst h;exact⟨rfl,rfl⟩
 | ptr o off=>have h:v=_:=h;subst h;exact⟨rfl,rfl⟩
 | ep _ _ _=>obtain⟨b,base,rfl,_⟩:=h;exact⟨rfl,rfl⟩
 | rp _ _ _ _=>obtain⟨g,b0,n,cap,_,rfl⟩:=h;exact⟨rfl,rfl⟩
 | sub _ _ _ _ t x=>
  obtain⟨_,_,_,_,_,_,G,hr,_⟩:=h;generalize fX (.sl t) x=d at hr;cases hr with
  | lit hp=>cases v<;>simp[plain]at hp<;>exact⟨rfl,rfl⟩
  | nil _=>exact⟨rfl,rfl⟩
  | cons _ _ _ _ _ _ _ _ _=>exact⟨rfl,rfl⟩
 | ip _ _ _ _ _ _ _=>obtain⟨_,_,_,_,_,_,_,_,_,_,rfl⟩:=h;exact⟨rfl,rfl⟩
 | clo _ _=>cases hs
 | rc _ _ _ _=>obtain⟨_,_,_,_,rfl⟩:=h;exact⟨rfl,rfl⟩
 | any=>exact⟨h,by have h:v.oneCell'=Y:=h;cases v<;>first | rfl | (cases h)⟩
theorem Sn(hrv:∀r,∃ad n k,c.rv r= .slice ad n k){t:C}{v:Value}(h:aW c ow w ok v t):v.oneCell'=Y:=by
 cases t with
 | clo g o=>have h:v=_:=h;subst h;rfl
 | _=>exact (Vl hrv h rfl).1
end
end Go.V
set_option linter.unusedVariables false
namespace Go.V
open Go.Ab Go.RowKit
structure Ce (f g:F):Prop where
 ctr:f.ctr<=g.ctr
 fr:∀s n x,(s,n,x)∈g.fr->n<f.ctr->(s,n,x)∈f.fr
 ob:∀o n x,(o,n,x)∈g.ob->n<f.ctr->(o,n,x)∈f.ob
theorem Ce.refl(f:F):Ce f f:=⟨Cz _,λ_ _ _ h _=>h,λ_ _ _ h _=>h⟩
theorem Ce.trans{f g h:F}(a:Ce f g)(b:Ce g h):Ce f h:=
 ⟨B5 a.ctr b.ctr,λs n x hm hn=>a.fr s n x (b.fr s n x hm (N8 hn a.ctr)) hn,λs n x hm hn=>a.ob s n x (b.ob s n x hm (N8 hn a.ctr)) hn⟩
theorem Ce.put(f:F)(d:Option Nat)(x:S):Ce f (f.put d x):=by
 cases d with
 | none=>exact .refl _
 | some d=>
  refine⟨Et _,λs n y hm hn=> ?_,λ_ _ _ h _=>h⟩;simp only[F.put,Cl,C2]at hm;rcases hm with hm | hm
  .injection hm with _ hm;injection hm with e _;omega
  .exact hm.1
section
variable {M src:Nat->Prop} {c:Cx} {ow:Nat->Option Nat} {f g:F} {a:Act} {w:World}
theorem aX.put(h:aX M src c ow f a w){d:Nat}{x:S}{v:Value}(hd:d<a.tmps.size)(hx:jL c ow w (BY src c ow f.ob) v x):aX M src c ow (f.put (U d) x) (a.put (U d) v) w:=by
 refine⟨h.defers,?_,h.ob,h.uniq,h.rvs⟩;intro s n y hm;simp only[F.put,Cl,C2]at hm;rcases hm with hm | ⟨hm,hne⟩
 .injection hm with e1 hm;injection hm with e2 e3;subst e1 e2 e3;exact⟨v,by simp[Act.put,hd],hx⟩
 .obtain⟨u,hu,h1⟩:=h.fr s n y hm;have hne':s≠d:=by simpa using hne
  exact⟨u,by simp only[Act.put];rw[Array.getElem?_setIfInBounds_ne (Ne.symm hne')];exact hu,h1⟩
def C.le(c' c:C):Prop:=c'=c\/c'= .any
inductive O.le:O->O->Prop
 | box {cs' cs:List C} (h:bD C.le cs' cs):O.le (.box cs') (.box cs)
 | row {e k:Nat} {t:Ty} {l:List (den t)} {deep' deep:Bool} (h:deep'=Y->deep=Y):O.le (.row e k t l deep') (.row e k t l deep)
 | win {k:Nat} {t:Ty} {l:List (den t)}:O.le (.win k t l) (.win k t l)
theorem O.le_refl(x:O):x.le x:=by
 cases x with
 | box cs=>
  refine .box ?_
  induction cs with
  | nil=>exact .nil
  | cons t ts ih=>exact .cons (.inl rfl) ih
 | row e k t l deep=>exact .row id
 | win k t l=>exact .win
theorem O.le.blk{x y:O}(h:x.le y){o b:Nat}(hb:x.blk c ow o b):y.blk c ow o b:=by
 cases h with
 | box _=>exact hb
 | row _=>exact hb
 | win=>exact hb
theorem aX.weak(h:aX M src c ow f a w)(hf:∀s n x,(s,n,x)∈g.fr-> ∃m,(s,m,x)∈f.fr)(ho:∀o n x,(o,n,x)∈g.ob-> ∃m y,(o,m,y)∈f.ob/\x.le y)
  (hu:∀o n x m y,(o,n,x)∈g.ob->(o,m,y)∈g.ob->x=y):aX M src c ow g a w:=by
 have hlive:∀b,live c ow g.ob b->live c ow f.ob b:=by
  rintro b ⟨o,n,y,hm,hy⟩
  obtain⟨m,x,hx,hle⟩:=ho o n y hm;exact⟨o,m,x,hx,hle.blk hy⟩
 have kg:∀b,b<w.heap.size->BY src c ow f.ob b->BY src c ow g.ob b:=λb _ hb=>⟨hb.1,λhl=>hb.2 (hlive b hl)⟩
 refine⟨h.defers,λs n x hm=> ?_,λo n y hm=> ?_,hu,h.rvs⟩
 .obtain⟨m,hm'⟩:=hf s n x hm;obtain⟨v,hv,h1⟩:=h.fr s m x hm';exact⟨v,hv,h1.good kg⟩
 .obtain⟨m,x,hx,hle⟩:=ho o n y hm;have hok:=h.ob o m x hx;cases hle with
  | box hall=>
   obtain⟨b1,b2,vs,ty,b3,b4⟩:=hok;exact⟨b1,b2,vs,ty,b3,b4.comp hall λu t t' hr ht=>by
    rcases ht with rfl | rfl
    .exact aW.good hr kg
    .exact Sn h.rvs hr⟩
  | row hd=>
   obtain⟨r0,r1,r2,xs,G,r3,r4,r5,r6⟩:=hok;exact⟨r0,r1,r2,xs,G,r3,r4,λb hb=>kg b (r4.lt b hb) (r5 b hb),λhd'=>r6 (hd hd')⟩
  | win=>exact hok
theorem bDz(d:Nat)(cs:List C):bD C.le (cs.map (wR d)) cs:=by
 induction cs with
 | nil=>exact .nil
 | cons t ts ih=>exact .cons (by unfold wR;split<;>simp[C.le]) ih
theorem O.scrub_le(d:Nat)(x:O):(x.scrub d).le x:=by
 cases x with
 | box cs=>exact .box (bDz d cs)
 | row e k t l deep=>exact .row id
 | win k t l=>exact .win
theorem bVt{d:Nat}{o n:Nat}{x:O}(h:(o,n,x)∈(f.scrub d).ob):o≠d/\ ∃m y,(o,m,y)∈f.ob/\(x=y.scrub d\/(x=y/\y.names d=Z/\n=m)):=by
 simp only[F.scrub,Ch,C2]at h;obtain⟨⟨o',m,y⟩,⟨hm,hne⟩,he⟩:=h;have hne':o'≠d:=by simpa using hne
 cases hn:y.names d with
 | true=>
  simp only[hn,zV]at he;injection he with e1 e2;injection e2 with e2 e3;subst e1 e3;exact⟨hne',m,y,hm,.inl rfl⟩
 | false=>
  simp only[hn]at he;injection he with e1 e2;injection e2 with e2 e3;subst e1 e2 e3;exact⟨hne',m,y,hm,.inr ⟨rfl,hn,rfl⟩⟩
theorem O.scrub_self{x:O}{d:Nat}(h:x.names d=Z):x.scrub d=x:=by
 cases x with
 | box cs=>
  simp only[O.names,Da]at h;simp only[O.scrub];congr 1
  induction cs with
  | nil=>rfl
  | cons c cs ih=>
   rw[CA,ih λx hx=>h x (C1 _ hx)];simp[wR,h c (CC ..)]
 | row _ _ _ _ _=>rfl
 | win _ _ _=>rfl
theorem fW{d:Nat}{o n:Nat}{x:O}(h:(o,n,x)∈(f.scrub d).ob):o≠d/\ ∃m y,(o,m,y)∈f.ob/\x=y.scrub d:=by
 obtain⟨h1,m,y,h2,h3⟩:=bVt h;refine⟨h1,m,y,h2,?_⟩;rcases h3 with rfl | ⟨rfl,hn,_⟩
 .rfl
 .rw[O.scrub_self hn]
theorem O.scrub_names(x:O)(d:Nat):(x.scrub d).names d=Z:=by
 cases x with
 | box cs=>
  simp only[O.scrub,O.names,Da,Ch]
  rintro t ⟨u,_,rfl⟩
  unfold wR;split
  .simp[C.names]
  .assumption
 | row _ _ _ _ _=>rfl
 | win _ _ _=>rfl
theorem aX.scrub(h:aX M src c ow f a w)(d:Nat):aX M src c ow (f.scrub d) a w:=by
 refine h.weak (λs n x hm=>⟨n,(C2.1 hm).1⟩) (λo n x hm=> ?_) (λo n x m y hx hy=> ?_)
 .obtain⟨_,m,y,hy,rfl⟩:=fW hm;exact⟨m,y,hy,O.scrub_le d y⟩
 .obtain⟨_,_,x',hx',rfl⟩:=fW hx;obtain⟨_,_,y',hy',rfl⟩:=fW hy;rw[h.uniq _ _ _ _ _ hx' hy']
theorem Ce.scrub(f:F)(d:Nat):Ce f (f.scrub d):=by
 refine⟨Et _,λs n x hm _=>(C2.1 hm).1,λo n x hm hn=> ?_⟩;simp only[F.scrub,Ch,C2]at hm;obtain⟨⟨o',m,y⟩,⟨hm,_⟩,he⟩:=hm;split at he
 .injection he with _ he;injection he with e _;omega
 .rw[<- he];exact hm
def F.free(f:F)(d:Nat):Prop:=(∀s n x,(s,n,x)∈f.fr->x.names d=Z)/\ ∀o n x,(o,n,x)∈f.ob->o≠d/\x.names d=Z
theorem bRu(f:F)(d:Nat):(f.scrub d).free d:=by
 refine⟨λs n x h=> ?_,λo n x h=> ?_⟩
 .have :=(C2.1 h).2;simpa using this
 .obtain⟨h1,m,y,_,rfl⟩:=fW h;exact⟨h1,O.scrub_names y d⟩
theorem aX.recx{c':Cx}{d:Nat}(h:aX M src c ow f a w)(hf:f.free d)(k:c.but c' d)(hrv:∀r,∃ad n k,c'.rv r= .slice ad n k):aX M src c' ow f a w:=by
 have hblk:∀o n x,(o,n,x)∈f.ob-> ∀b,x.blk c' ow o b↔x.blk c ow o b:=by
  intro o n x hm b;have hne:=(hf.2 o n x hm).1;cases x with
  | box cs=>simp[O.blk,k.loc o hne]
  | row e kk t l deep=>simp[O.blk,k.rv o hne]
  | win _ _ _=>exact Iff.rfl
 have hok:BY src c' ow f.ob=BY src c ow f.ob:=by
  funext b;apply propext;constructor
  .rintro⟨h1,h2⟩
   exact⟨h1,λ⟨o,n,x,hm,hx⟩=>h2 ⟨o,n,x,hm,(hblk o n x hm b).2 hx⟩⟩
  .rintro⟨h1,h2⟩
   exact⟨h1,λ⟨o,n,x,hm,hx⟩=>h2 ⟨o,n,x,hm,(hblk o n x hm b).1 hx⟩⟩
 refine⟨h.defers,λs n x hm=> ?_,λo n x hm=> ?_,h.uniq,hrv⟩
 .obtain⟨v,hv,h1⟩:=h.fr s n x hm;exact⟨v,hv,by rw[hok];exact h1.but (hf.1 s n x hm) k⟩
 .rw[hok];have ho:=h.ob o n x hm;obtain⟨hne,hn⟩:=hf.2 o n x hm;cases x with
  | box cs=>
   obtain⟨b1,b2,vs,ty,b3,b4⟩:=ho;simp only[O.names,Da]at hn;exact⟨by rw[k.loc o hne];exact b1,by rw[k.loc o hne];exact b2,vs,ty,by rw[k.loc o hne];exact b3,b4.mono λu t ht hr=>hr.but (by simpa using hn t ht) k⟩
  | row e kk t l deep=>
   obtain⟨r0,r1,r2,xs,G,r3,r4,r5,r6⟩:=ho;exact⟨r0,r1,by rw[k.rv o hne];exact r2,xs,G,by rw[k.rv o hne];exact r3,r4,r5,by rw[k.rv o hne];exact r6⟩
  | win kk t l=>
   obtain⟨r0,r1,G,r2,r3,r4⟩:=ho;exact⟨r0,r1,G,by rw[k.rv o hne];exact r2,r3,r4⟩
theorem aX.step(h:aX M src c ow f a w)(hsf:f.subFree){w':World}{ow':Nat->Option Nat}{ob':List (Nat×Nat×O)}{n':Nat}(hs:w.heap.size<=w'.heap.size)
  (hb:∀b,b<w.heap.size-> ¬ live c ow f.ob b->w'.heap[b]? =w.heap[b]?) (hl:∀b,b<w.heap.size->live c ow' ob' b->live c ow f.ob b)
  (hob:∀o n x,(o,n,x)∈ob'->((∃m,(o,m,x)∈f.ob)/\(∀b,b<w.heap.size->ow b=U o->x.blk c ow o b->w'.heap[b]? =w.heap[b]?)/\ ∀b,b<w.heap.size->ow b=U o->ow' b=U o)\/yT M c ow' w' (BY src c ow' ob') o x)
  (hu:∀o n x m y,(o,n,x)∈ob'->(o,m,y)∈ob'->x=y):aX M src c ow' ⟨n',f.fr,ob'⟩ a w':=by
 have kp:Ix w w' (BY src c ow f.ob) (BY src c ow' ob'):=⟨hs,λb hlt hok=>hb b hlt hok.2,λb hlt hok=>⟨hok.1,λh'=>hok.2 (hl b hlt h')⟩⟩
 refine⟨h.defers,λs n x hm=> ?_,λo n x hm=> ?_,hu,h.rvs⟩
 .obtain⟨v,hv,h1⟩:=h.fr s n x hm;exact⟨v,hv,h1.keep (hsf.1 s n x hm) kp⟩
 .rcases hob o n x hm with ⟨⟨m,hm'⟩,hbl,how⟩ | hnew
  .exact (h.ob o m x hm').keep (hsf.2 o m x hm') kp hbl how
  .exact hnew
theorem aX.apart(h:aX M src c ow f a w){o o' n n':Nat}{x x':O}(hx:(o,n,x)∈f.ob)(hx':(o',n',x')∈f.ob){b:Nat}(hb:x.blk c ow o b)(hb':x'.blk c ow o' b):o=o':=by
 have h1:=(h.ob o n x hx).own hb;have h2:=(h.ob o' n' x' hx').own hb';rw[h1]at h2;injection h2
theorem aX.add(h:aX M src c ow f a w)(hsf:f.subFree){w':World}{ow':Nat->Option Nat}{d m n':Nat}{x:O}(hf:∀o n y,(o,n,y)∈f.ob->o≠d)(hs:w.heap.size<=w'.heap.size)(hb:∀b,b<w.heap.size->w'.heap[b]? =w.heap[b]?)
  (ho:∀b,b<w.heap.size->ow' b=ow b) (hm:∀b,x.blk c ow' d b->w.heap.size<=b) (hx:yT M c ow' w' (BY src c ow' ((d,m,x)::f.ob)) d x):
  aX M src c ow' ⟨n',f.fr,(d,m,x)::f.ob⟩ a w':=by
 refine h.step hsf hs (λb hlt _=>hb b hlt) (λb hlt hl=> ?_) (λo n y hy=> ?_) (λo n y n2 z hy hz=> ?_)
 .obtain⟨o,n,y,hy,hyb⟩:=hl;rcases Cl.1 hy with he | hy
  .injection he with e1 e2;injection e2 with e2 e3;subst e1 e3;have :=hm b hyb;omega
  .refine⟨o,n,y,hy,?_⟩;cases y with
   | box _=>exact hyb
   | row _ _ _ _ _=>exact hyb
   | win _ _ _=>show ow b=U o;rw[<- ho b hlt];exact hyb
 .rcases Cl.1 hy with he | hy
  .injection he with e1 e2;injection e2 with e2 e3;subst e1 e3;exact .inr hx
  .exact .inl ⟨⟨n,hy⟩,λb hlt _ _=>hb b hlt,λb hlt hw=>by rw[ho b hlt];exact hw⟩
 .rcases Cl.1 hy with he | hy1
  .injection he with e1 e2;injection e2 with _ e2;rcases Cl.1 hz with he' | hz1
   .injection he' with e3 e4;injection e4 with _ e4;rw[e2,e4]
   .exact absurd e1 (hf _ _ _ hz1)
  .rcases Cl.1 hz with he' | hz1
   .injection he' with e3 e4;exact absurd e3 (hf _ _ _ hy1)
   .exact h.uniq o n y n2 z hy1 hz1
theorem C.names_scrub(d:Nat)(c:C):(wR d c).names d=Z:=by
 unfold wR;split
 .rfl
 .rename_i h;simpa using h
theorem C.isSub_scrub{d:Nat}{c:C}(h:c.isSub=Z):(wR d c).isSub=Z:=by
 unfold wR;split
 .rfl
 .exact h
theorem bFv(h:f.subFree)(d:Nat):(f.scrub d).subFree:=by
 refine⟨λs n x hm=>h.1 s n x (C2.1 hm).1,λo n x hm=> ?_⟩;obtain⟨_,m,y,hy,rfl⟩:=fW hm;have :=h.2 o m y hy;cases y with
 | box cs=>
  simp only[O.isSub,O.scrub,Da,Ch]at this ⊢
  rintro t ⟨u,hu,rfl⟩
  have :=C.isSub_scrub (d:=d) (by simpa using this u hu);simp[this]
 | row _ _ _ _ _=>rfl
 | win _ _ _=>rfl
end
structure qI (M:Nat->Prop) (w w':World):Prop where
 os:w'.os=w.os
 tape:w'.tape=w.tape
 output:w'.output=w.output
 size:w.heap.size<=w'.heap.size
 block:∀k,k<w.heap.size-> ¬ M k->w'.heap[k]? =w.heap[k]?
theorem qI.refl(M:Nat->Prop)(w:World):qI M w w:=⟨rfl,rfl,rfl,Cz _,λ_ _ _=>rfl⟩
theorem qI.trans{M:Nat->Prop}{a b c:World}(h:qI M a b)(k:qI M b c):qI M a c:=
 ⟨k.os.trans h.os,k.tape.trans h.tape,k.output.trans h.output,B5 h.size k.size,λi hi hm=>(k.block i (N8 hi h.size) hm).trans (h.block i hi hm)⟩
theorem qI.drew{M:Nat->Prop}{a w:World}(h:qI M a w):qI M a w.drew:=⟨h.os,h.tape,h.output,h.size,h.block⟩
structure Dn where
 P:Program
 n:Nat
 w0:World
 M:Nat->Prop
 src:Nat->Prop
 c0:Cx
 hM:∀b,w0.heap.size<=b->M b
 hsrc:∀b,M b->src b
def Gy(X:Dn)(c:Cx):Prop:= ∀o,pinned o=Y->c.loc o=X.c0.loc o/\c.rv o=X.c0.rv o
def At(X:Dn)(f:F)(a:Act)(w:World):Prop:=(∃c ow,aX X.M X.src c ow f a w/\Gy X c)/\qI X.M X.w0 w/\a.tmps.size=X.n
def FG(w w':World):Prop:= ∀b,b<w.heap.size->w'.heap[b]? =w.heap[b]?
theorem Gy.loc{X:Dn}{c:Cx}(h:Gy X c){d:Nat}(hd:pinned d=Z)(b:Nat):Gy X (c.setLoc d b):=λo ho=>by
 have hne:o≠d:=by rintro rfl;rw[hd]at ho;cases ho
 simp only[Cx.setLoc,zS hne];exact h o ho
theorem Gy.rv{X:Dn}{c:Cx}(h:Gy X c){d:Nat}(hd:pinned d=Z)(v:Value):Gy X (c.setRv d v):=λo ho=>by
 have hne:o≠d:=by rintro rfl;rw[hd]at ho;cases ho
 simp only[Cx.setRv,zS hne];exact h o ho
theorem HW(a:Act)(d:Option Nat)(v:Value):(a.put d v).tmps.size=a.tmps.size:=by cases d<;>simp[Act.put]
theorem yS{n d:Nat}(h:kQ n (U d)=Y):d<n:=by simpa [kQ] using h
theorem At.put{X:Dn}{f:F}{a:Act}{w:World}(h:At X f a w){c:Cx}{ow:Nat->Option Nat}(hs:aX X.M X.src c ow f a w)(hp:Gy X c){d:Option Nat}{x:S}{v:Value}(hd:kQ X.n d=Y)(hx:jL c ow w (BY X.src c ow f.ob) v x):At X (f.put d x) (a.put d v) w:=by
 obtain⟨_,hb,hn⟩:=h;refine⟨⟨c,ow,?_,hp⟩,hb,(HW a d v).trans hn⟩;cases d with
 | none=>exact hs
 | some d=>exact hs.put (by rw[hn];exact yS hd) hx
end Go.V
set_option linter.unusedVariables false
set_option linter.unusedSectionVars false
namespace Go.V
open Go.Ab Go.RowKit
section
variable {P:Program} {w:World} {a:Act} {o:Oper} {B:Nat}
theorem bRq(k:IntKind)(n:Int):plain (.int k (k.wrap n))=Y:=by
 have h8:(2:Int) ^ 8=256:=by decide
 have h7:(2:Int) ^ 7=128:=by decide
 have h16:(2:Int) ^ 16=65536:=by decide
 have h15:(2:Int) ^ 15=32768:=by decide
 have h32:(2:Int) ^ 32=4294967296:=by decide
 have h31:(2:Int) ^ 31=2147483648:=by decide
 have h64:(2:Int) ^ 64=18446744073709551616:=by decide
 have h63:(2:Int) ^ 63=9223372036854775808:=by decide
 cases k<;>simp[plain,IntKind.wrap,IntKind.min,IntKind.max,IntKind.signed,IntKind.bits,h8,h7,h16,h15,h32,h31,h64,h63]<;>(try split)<;>omega
theorem bRd{k:IntKind}{a b:Int}(h:plain (.int k a)=Y):plain (.int k (a.tmod b))=Y:=by
 simp only[plain,Ck,zR]at h ⊢;have h0:k.min<=0:=by cases k<;>simp[IntKind.min,IntKind.signed,IntKind.bits]
 have h1:0<=k.max:=by cases k<;>simp[IntKind.max,IntKind.signed,IntKind.bits]
 have h2:(a.tmod b).natAbs=a.natAbs % b.natAbs:=Int.natAbs_tmod a b;have h3:a.natAbs % b.natAbs<=a.natAbs:=Nat.mod_le _ _;have h4:0<=a->0<=a.tmod b:=λh=>Int.tmod_nonneg b h
 have h5:a<=0->a.tmod b<=0:=λh=>by
  have :=Int.tmod_nonneg b (show 0<= -a by omega);rw[Int.neg_tmod]at this;omega
 omega
theorem PY{n:Nat}(h:n<=maxLen):plain (.int .i64 (n:Int))=Y:=by
 have h63:(2:Int) ^ 63=9223372036854775808:=by decide
 simp only[maxLen]at h;simp[plain,IntKind.min,IntKind.max,IntKind.signed,IntKind.bits,h63];omega
def TM(P:Program)(a:Act)(w:World)(o:Oper)(v:Value):Prop:= ∀w':World,(Tb o.op=Y-> ∀b,b<w.heap.size->w'.heap[b]? =w.heap[b]?)->(execOp a.eval o).run P w'= .ok (.value v) w'
theorem Lv(b o n:Nat):(⟨b,o,N⟩:Addr).add n=⟨b,o+n,N⟩:=by unfold Addr.add;split<;>simp_all
theorem aOl{P:Program}{t:TypeId}{fs:Array Field}(h:P.underlying t=U (.struct fs))(w:World):(isAgg t).run P w= .ok Y w:=by simp[isAgg,run_underlying h]
theorem aPc{P:Program}{t:TypeId}{n:Nat}{e:TypeId}(h:P.underlying t=U (.array n e))(w:World):(isAgg t).run P w= .ok Y w:=by simp[isAgg,run_underlying h]
theorem xU{P:Program}{t:TypeId}{d:TypeDesc}(h:P.underlying t=U d)(h1:∀fs,d≠ .struct fs)(h2:∀n e,d≠ .array n e)(w:World):(isAgg t).run P w= .ok Z w:=by
 simp only[isAgg,Sem.run_bind,run_underlying h,Result.andThen_ok];cases d with
 | struct fs=>exact absurd rfl (h1 fs)
 | array n e=>exact absurd rfl (h2 n e)
 | _=>rfl
theorem mH{P:Program}{t:TypeId}{i:TypeInfo}(h:P.info? t=U i)(w:World):(sizeOf t).run P w= .ok i.size w:=by simp[sizeOf,typeInfo,h]
theorem bAv{P:Program}{t:TypeId}{i:TypeInfo}{w:World}{ad:Addr}{us:List Value}(ha:(isAgg t).run P w= .ok Y w)(hi:P.info? t=U i)(hl:us.length=i.size)
  (hc:∀j v,us[j]? =U v->w.cell? (ad.add j)=U v):(loadVar t ad).run P w= .ok (.agg us.toArray) w:=by
 have h1:=run_loadCells_list (P:=P) w ad us hc;rw[hl]at h1;simp only[loadVar,Sem.run_bind,ha,Result.andThen_ok,zV,mH hi,h1];rfl
theorem aZz{P:Program}{t:TypeId}{w:World}{ad:Addr}{u:Value}(ha:(isAgg t).run P w= .ok Z w)(hc:w.cell? ad=U u):(loadVar t ad).run P w= .ok u w:=by
 simp only[loadVar,Sem.run_bind,ha,Result.andThen_ok,Cg,zU];simp[load,Sem.run,hc]
theorem uX{P:Program}{s:Sem Value}{w:World}{v:Value}(h:s.run P w= .ok v w):(do pure (Next.value (<- s)):Sem Next).run P w= .ok (.value v) w:=by
 simp[h]
theorem aQf{w:World}{b:Nat}{vs:List Value}{ty:TypeId}{fz:Nat×Nat}(h:w.heap[b]? =U (.cells vs.toArray ty fz))(j:Nat)(u:Value)(hu:vs[j]? =U u):w.cell? ⟨b,0+j,N⟩=U u:=by
 simp[World.cell?,h,hu]
theorem PQ{P:Program}{t:TypeId}{ad:Addr}{v:Value}{w:World}(h:(loadVar t ad).run P w= .ok v w):(Instr.loadAt t (.pointer (U ad))).run P w= .ok v w:=by
 simp[Instr.loadAt,Instr.sureAddr,h]
theorem aWb{op:BinOp}{t:TypeId}{x y:Operand}{u v:Value}(hu:plain u=Y)(w:World):(eqGuard op t x y u v).run P w= .ok () w:=by
 cases op<;>cases u<;>first | (simp[plain]at hu;done) | (simp[eqGuard];done)
theorem RB{t:TypeId}{fs:Array Field}{f:Nat}{fd:Field}{i:TypeInfo}(ht:P.underlying t=U (.struct fs))(hf:fs[f]? =U fd)(hi:P.info? fd.type=U i)(h0: ¬ i.size=0)(b off:Nat)(w:World):
  (Instr.fieldAt t (.pointer (U ⟨b,off,N⟩)) f).run P w= .ok (.pointer (U ⟨b,off+fd.offset,N⟩)) w:=by
 simp[Instr.fieldAt,run_underlying ht,hf,Instr.sureAddr,fieldPlace,mH hi,h0,Lv]
theorem R7{t e:TypeId}{i:TypeInfo}{kd:IntKind}{n:Int}{b off len cap:Nat}(ht:P.underlying t=U (.slice e))(hi:P.info? e=U i)(h0:0<=n)(h1:n<len)(w:World):
  (Instr.indexAt t (.slice (U ⟨b,off,N⟩) len cap) (.int kd n)).run P w= .ok (.pointer (U ⟨b,off+n.toNat * i.size,N⟩)) w:=by
 simp[Instr.indexAt,asIntOf,run_underlying ht,mH hi,h0,h1,Lv]
theorem _root_.Go.Ab.Rep.elem{v:Value}{es:List (List T)}{F:List Nat}(h:Rep w v (.sl es) F){i:Nat}{el:List T}(hi:es[i]? =U el):
  ∃b off n cap xs G,v= .slice (U ⟨b,off,N⟩) n cap/\i<n/\b<w.heap.size/\b∈F/\RepL w xs el G/\(∀j u,xs[j]? =U u->w.cell? ⟨b,off+i * el.length+j,N⟩=U u)/\ ∀x∈G,x∈F:=by
 cases h with
 | nil hc=>simp at hi
 | @cons b off n cap k es xs F hn h0 hk0 hk hc hm hx hcell hr=>
  have hin:i<es.length:=(Cu.1 hi).1;have hel:el.length=k:=hk el (List.mem_of_getElem? hi);rw[hel];obtain⟨G,H,g1,g2,g3⟩:=hr.take (i * k);obtain⟨G',H',g4,g5,g6⟩:=g2.take k;rw[rU hk hi]at g4;have hlt:b<w.heap.size:=by
   have hp:0<xs.length:=by rw[hx];exact Nat.mul_pos h0 hk0
   exact cell?_lt (hcell 0 xs[0] (Cs hp))
  refine⟨b,off,n,cap,_,G',rfl,by omega,hlt,CC ..,g4,λj u hu=> ?_,λx hx'=>C1 _ (by rw[g3,g6];simp[hx'])⟩;have hj:xs[i * k+j]? =U u:=by
   rw[Ft]at hu;split at hu
   .rw[Ex]at hu;exact hu
   .cases hu
  have :=hcell (i * k+j) u hj;rw[GJ];exact this
theorem _root_.Go.Ab.Rep.len{v:Value}{es:List (List T)}{F:List Nat}(h:Rep w v (.sl es) F):∃ad cap,v= .slice ad es.length cap/\es.length<=maxLen:=by
 cases h with
 | nil hc=>exact⟨_,_,rfl,C3 _⟩
 | cons hn h0 hk0 hk hc hm hx hcell hr=>subst hn;exact⟨_,_,rfl,B5 hc hm⟩
theorem PK{e k n:Nat}{v:Value}{xs:List Value}(h:w.ownsRow B e k v n xs):∃ad cap,v= .slice ad n cap/\n<=maxLen:=by
 obtain⟨_,h2⟩:=h;rcases h2 with ⟨rfl,rfl⟩ | ⟨g,cap,cur,hv,_,_,h1,h2,_⟩
 .exact⟨_,_,rfl,C3 _⟩
 .exact⟨_,_,hv,B5 h1 h2⟩
theorem NZ{t:TypeId}{x:Operand}{v:Value}(hop:o.op= .call {callee:= .builtin .len,args:= #[x],argTypes:= #[t]})(w':World)(h:∀ty,(Builtin.len_ #[t] ty #[a.eval x]).run P w'= .ok v w'):(execOp a.eval o).run P w'= .ok (.value v) w':=by
 simp[execOp,hop,resolve,invoke,builtin,h]
theorem _root_.Go.Ab.RepL.parts{xs:List Value}{ts:List T}{F:List Nat}(h:RepL w xs ts F)(p q:Nat):∃F1 F2 F3,RepL w (xs.take p) (ts.take p) F1/\RepL w ((xs.drop p).take q) ((ts.drop p).take q) F2/\RepL w (xs.drop (p+q)) (ts.drop (p+q)) F3/\F=F1++(F2++F3):=by
 obtain⟨F1,H,a1,a2,a3⟩:=h.take p;obtain⟨F2,F3,b1,b2,b3⟩:=a2.take q;exact⟨F1,F2,F3,a1,b1,by simpa [R0] using b2,by rw[a3,b3]⟩
theorem _root_.Go.Ab.Rep.cut{v:Value}{es:List (List T)}{F:List Nat}(h:Rep w v (.sl es) F){k l n:Nat}(hk:∀z∈es,z.length=k)(hn:l+n<=es.length):
  ∃ad len cap,v= .slice ad len cap/\len=es.length/\len<=cap/\cap<=maxLen/\ ∃G,Rep w (.slice (if cap=l then ad else ad.map (·.add (l * k))) n (cap - l)) (.sl ((es.drop l).take n)) G/\ ∀b∈G,b∈F:=by
 cases h with
 | @nil ad cap hc=>
  refine⟨ad,0,cap,rfl,rfl,C3 _,hc,[],?_,by simp⟩;have :n=0:=by simp at hn;omega
  subst this;simpa using Rep.nil (w:=w) (a:=if cap=l then ad else ad.map (·.add (l * k))) (c:=cap - l) (B5 (Nat.sub_le _ _) hc)
 | @cons b off len cap k' es xs F hl h0 hk0 hk' hc hm hx hcell hr=>
  refine⟨U ⟨b,off,N⟩,len,cap,rfl,hl.symm,hc,hm,?_⟩;have hkk:k'=k:=by
   obtain⟨x,hx'⟩:=ZD (l:=es) (by omega);rw[<- hk' x hx',hk x hx']
  subst hkk;rcases P7 n with h0' | h0'
  .subst h0';refine⟨[],?_,by simp⟩;simpa using Rep.nil (w:=w) (a:=if cap=l then U ⟨b,off,N⟩ else (U (⟨b,off,N⟩:Addr)).map (·.add (l * k'))) (c:=cap - l) (B5 (Nat.sub_le _ _) hm)
  .obtain⟨F1,F2,F3,a1,a2,a3,a4⟩:=hr.parts (l * k') (n * k');have hfl:((es.flatten.drop (l * k')).take (n * k'))=((es.drop l).take n).flatten:=by
    have hd:∀(es:List (List T)) (l:Nat),(∀z∈es,z.length=k')->es.flatten.drop (l * k')=(es.drop l).flatten:=by
     intro es
     induction es with
     | nil=>intro l _;simp
     | cons e es ih=>
      intro l hk;cases l with
      | zero=>simp
      | succ l=>
       have he:e.length=k':=hk e (CC ..);rw[Fu,List.drop_succ_cons,<- ih l (λz hz=>hk z (C1 _ hz))];have :(l+1) * k'=e.length+l * k':=by rw[CZ,he];omega
       rw[this,List.drop_length_add_append]
    have ht:∀(es:List (List T)) (n:Nat),(∀z∈es,z.length=k')->es.flatten.take (n * k')=(es.take n).flatten:=by
     intro es
     induction es with
     | nil=>intro n _;simp
     | cons e es ih=>
      intro n hk;cases n with
      | zero=>simp
      | succ n=>
       have he:e.length=k':=hk e (CC ..);rw[Fu,List.take_succ_cons,Fu,<- ih n (λz hz=>hk z (C1 _ hz))];have :(n+1) * k'=e.length+n * k':=by rw[CZ,he];omega
       rw[this,List.take_length_add_append]
    rw[hd es l hk',ht _ n (λz hz=>hk' z (IH hz))]
   rw[hfl]at a2;have hcap: ¬ cap=l:=by omega
   rw[zS hcap];refine⟨b::F2,?_,λx hx'=> ?_⟩
   .simp only[Kg,Lv];refine .cons (by simp;omega) h0' hk0 (λz hz=>hk' z (IH (IE hz))) (by omega) (B5 (Nat.sub_le _ _) hm) ?_ (λj u hu=> ?_) a2
    .rw[a2.length,sY (k:=k') (λz hz=>hk' z (IH (IE hz)))];congr 1;simp;omega
    .have hj:xs[l * k'+j]? =U u:=by
      rw[Ft]at hu;split at hu
      .rw[Ex]at hu;exact hu
      .cases hu
     have :=hcell _ u hj;rw[GJ];exact this
   .rcases Cl.1 hx' with rfl | hx'
    .exact CC ..
    .rw[a4];exact C1 _ (D5 _ (Ds _ hx'))
theorem VC(off:Nat):∀(l:List Value) (m:Nat) (cells:Array Value),off+m+l.length<=cells.size->
  (l.zipIdx m).foldl (λcs (x:Value×Nat)=>cs.setIfInBounds (off+x.2) x.1) cells=(cells.toList.take (off+m)++l++cells.toList.drop (off+m+l.length)).toArray
 | [],m,cells,_=>by simp
 | v::l,m,cells,h=>by
  have hl:off+m<cells.size:=by simp at h;omega
  rw[List.zipIdx_cons,EX,VC off l (m+1) _ (by simp at h|-;omega)];congr 1;have h1:(cells.setIfInBounds (off+m) v).toList=cells.toList.set (off+m) v:=by simp
  rw[h1];have h2:(cells.toList.set (off+m) v).take (off+(m+1))=cells.toList.take (off+m)++[v]:=by
   rw[<- GJ,List.take_succ_eq_append_getElem (by simpa using hl),List.take_set_of_le (Cz _)];simp
  have h3:(cells.toList.set (off+m) v).drop (off+(m+1)+l.length)=cells.toList.drop (off+m+(v::l).length):=by
   rw[List.drop_set_of_lt (by omega)];congr 1;simp;omega
  rw[h2,h3];simp
theorem bQt:∀{fs:List Field} {ps:List (Nat×Nat)},Qd P fs=U ps-> ∀w':World,(fs.mapM λf=>(do pure (f.offset,<- sizeOf f.type):Sem (Nat×Nat))).run P w'= .ok ps w':=by
 intro fs
 induction fs with
 | nil=>intro ps h w';injection h with h;subst h;rfl
 | cons f fs ih=>
  intro ps h w';unfold Qd at h;split at h
  .rename_i i ps' h1 h2;injection h with h;subst h;have hh:=ih h2 w';simp only[List.mapM_cons,Sem.run_bind,mH h1,Result.andThen_ok,Sem.run_pure];rw[hh];rfl
  .cases h
theorem bYm{place:Nat->Option (Nat×Nat)}{cells:List Value}{i off size:Nat}{v:Value}{rest:List (Nat×Value)}(hp:place i=U (off,size))(hs:v.cells.size=size)(hl:off+size<=cells.length):
  Instr.fill place cells.toArray ((i,v)::rest)=Instr.fill place (sp cells off v.cells.toList).toArray rest:=by
 rw[Instr.fill];simp only[hp,hs,ne_eq,not_true_eq_false,decide_false,Bool.false_or,gt_iff_lt,zR];rw[zS (by simpa using hl)];congr 1;have :=VC off v.cells.toList 0 cells.toArray (by simp[hs];omega);rw[<- Array.foldl_toList,Array.toList_zipIdx];unfold sp;have h2:v.cells.toList.length=size:=by simpa using hs
 simpa [h2,hs] using this
theorem bNs(b:UInt8):plain (.int .u8 (b.toNat:Int))=Y:=by
 have :=b.toNat_lt;simp[plain,IntKind.min,IntKind.max,IntKind.signed,IntKind.bits];omega
theorem bOb(l:List UInt8):∀s:ByteArray,(l.map λb=>(b.toNat:Int)).foldl (λ(r:ByteArray) (n:Int)=>r.push (UInt8.ofNat n.toNat)) s=⟨s.data++l.toArray⟩:=by
 induction l with
 | nil=>intro s;simp
 | cons b l ih=>
  intro s;rw[CA,EX,ih];simp[ByteArray.push]
def Ig(l:List UInt8):List (List T):=l.map λb=>[.lit (.int .u8 (b.toNat:Int))]
theorem bPo{l:List UInt8}:∀{xs:List Value} {F:List Nat},RepL w xs (Ig l).flatten F->xs=l.map λb=>Value.int .u8 (b.toNat:Int):=by
 induction l with
 | nil=>
  intro xs F h;have :xs.length=0:=by simpa [Ig] using h.length
  exact P8.1 this
 | cons b l ih=>
  intro xs F h;have he:(Ig (b::l)).flatten= .lit (.int .u8 (b.toNat:Int))::(Ig l).flatten:=rfl;rw[he]at h;cases h with
  | cons h1 h2=>
   cases h1;rw[ih h2];rfl
end
end Go.V
set_option linter.unusedVariables false
set_option linter.unusedSectionVars false
namespace Go.V
open Go.Ab Go.RowKit
section
variable {M src:Nat->Prop} {c:Cx} {ow:Nat->Option Nat} {f:F} {a:Act} {w:World} {P:Program} {o:Oper} {ok:Nat->Prop} {R:Type}
theorem pA{k:IntKind}{x:Int}{v:Value}(h:aW c ow w ok v (.v (.int k) x)):v= .int k x/\plain (.int k x)=Y:=by
 obtain⟨G,hr,_⟩:=h;cases hr with
 | lit hp=>exact⟨rfl,hp⟩
theorem IR{x:Bool}{v:Value}(h:aW c ow w ok v (.v .bool x)):v= .bool x:=by
 obtain⟨G,hr,_⟩:=h;cases hr with
 | lit hp=>rfl
theorem Lc{x:ByteArray}{v:Value}(h:aW c ow w ok v (.v .str x)):v= .string x/\x.size<=maxLen:=by
 obtain⟨G,hr,_⟩:=h;cases hr with
 | lit hp=>exact⟨rfl,by simpa [plain] using hp⟩
theorem xV{k:IntKind}{x:Int}(h:plain (.int k x)=Y):aW c ow w ok (.int k x) (.v (.int k) x):=⟨[],.lit h,by simp⟩
theorem GP(k:IntKind)(x:Int):aW c ow w ok (.int k (k.wrap x)) (.v (.int k) (k.wrap x)):=xV (bRq k x)
theorem HV(x:Bool):aW c ow w ok (.bool x) (.v .bool x):=⟨[],.lit rfl,by simp⟩
theorem Ox{x:ByteArray}(h:x.size<=maxLen):aW c ow w ok (.string x) (.v .str x):=⟨[],.lit (by simpa [plain] using h),by simp⟩
theorem RU:∀(t:Ty) (x:den t) {xs:List Value} {G:List Nat},RepL w xs (cells t x) G->(∀b∈G,ok b)->bD (aW c ow w ok) xs (split t x)
 | .int k,x,xs,G,h,hG=>by
  simp only[cells]at h;cases h with
  | cons h hs=>cases hs;exact .cons ⟨_,h,λb hb=>hG b (by simpa using hb)⟩ .nil
 | .bool,x,xs,G,h,hG=>by
  simp only[cells]at h;cases h with
  | cons h hs=>cases hs;exact .cons ⟨_,h,λb hb=>hG b (by simpa using hb)⟩ .nil
 | .str,x,xs,G,h,hG=>by
  simp only[cells]at h;cases h with
  | cons h hs=>cases hs;exact .cons ⟨_,h,λb hb=>hG b (by simpa using hb)⟩ .nil
 | .sl t,x,xs,G,h,hG=>by
  simp only[cells]at h;cases h with
  | cons h hs=>cases hs;exact .cons ⟨_,h,λb hb=>hG b (by simpa using hb)⟩ .nil
 | .pair a b,x,xs,G,h,hG=>by
  simp only[cells]at h;obtain⟨G1,G2,h1,h2,rfl⟩:=h.take (cells a x.1).length;rw[Mn]at h1;rw[List.drop_left]at h2;have :=(RU a x.1 h1 λb hb=>hG b (Ds _ hb)).append (RU b x.2 h2 λb hb=>hG b (D5 _ hb))
  rwa [FW]at this
theorem aWq(r k i:Nat):∀(xs ys:List C) (off:Nat),GA r k i off (xs++ys)=GA r k i off xs++GA r k i (off+xs.length) ys
 | [],ys,off=>by simp[GA]
 | x::xs,ys,off=>by
  have :=aWq r k i xs ys (off+1);cases x with
  | v t y=>
   cases t with
   | sl t=>simp only[ZA,GA,this,C6];congr 2;congr 1;omega
   | _=>simp only[ZA,GA,this,C6];congr 2;congr 1;omega
  | _=>simp only[ZA,GA,this,C6];congr 2;congr 1;omega
theorem Sx{r k i g b0 n cap:Nat}(hrv:c.rv r= .slice (U ⟨g,b0,N⟩) n cap):∀(t:Ty) (x:den t) {xs:List Value} {G:List Nat} (off:Nat),RepL w xs (cells t x) G->(∀b∈G,ow b=U r)->
  (∀j u,xs[j]? =U u->w.cell? ⟨g,b0+(i * k+(off+j)),N⟩=U u)->bD (aW c ow w ok) xs (GA r k i off (split t x))
 | .int k,x,xs,G,off,h,hG,hc=>by
  simp only[cells]at h;cases h with
  | cons h hs=>cases hs;cases h with | lit hp=>exact .cons (xV hp) .nil
 | .bool,x,xs,G,off,h,hG,hc=>by
  simp only[cells]at h;cases h with
  | cons h hs=>cases hs;cases h with | lit hp=>exact .cons (HV _) .nil
 | .str,x,xs,G,off,h,hG,hc=>by
  simp only[cells]at h;cases h with
  | cons h hs=>cases hs;cases h with | lit hp=>exact .cons (Ox (by simpa [plain] using hp)) .nil
 | .sl t,x,xs,G,off,h,hG,hc=>by
  simp only[cells]at h;cases h with
  | cons h hs=>
   cases hs;exact .cons ⟨g,b0,n,cap,hrv,by simpa using hc 0 _ rfl,_,h,λb hb=>hG b (by simpa using hb)⟩ .nil
 | .pair a b,x,xs,G,off,h,hG,hc=>by
  simp only[cells]at h;obtain⟨G1,G2,h1,h2,rfl⟩:=h.take (cells a x.1).length;rw[Mn]at h1;rw[List.drop_left]at h2;have e1:=Sx hrv a x.1 off h1 (λb hb=>hG b (Ds _ hb)) (λj u hu=>hc j u (by
   rw[Ft]at hu;split at hu
   .exact hu
   .cases hu))
  have e2:=Sx hrv b x.2 (off+(cells a x.1).length) h2 (λb hb=>hG b (D5 _ hb)) (λj u hu=>by
   rw[Ex]at hu;have :=hc _ u hu;rw[GJ off];exact this)
  have :=e1.append e2;rw[FW]at this;rw[split,aWq,NU,<- dI a x.1];exact this
theorem bQ8{v:Value}{x:S}(h:Tc v=U x):jL c ow w ok v x:=by
 unfold Tc at h;split at h
 .split at h
  .rename_i hp;injection h with h;subst h;exact xV (c:=c) (ow:=ow) hp
  .cases h
 .injection h with h;subst h;exact HV (c:=c) (ow:=ow) _
 .split at h
  .rename_i hp;injection h with h;subst h;exact Ox (c:=c) (ow:=ow) (by simpa [plain] using hp)
  .cases h
 .injection h with h;subst h;rfl
 .injection h with h;subst h;trivial
 .cases h
theorem M9{s:Nat}{x:S}(h:f.look s=U x):∃n,(s,n,x)∈f.fr:=by
 unfold F.look at h;obtain⟨⟨s',n,e⟩,he,rfl⟩:=CX.1 h;have h1:=H4 he;have h2:=Ki he;simp at h2;subst h2;exact⟨n,h1⟩
theorem vE{o:Nat}{x:O}(h:f.obj o=U x):∃n,(o,n,x)∈f.ob:=by
 unfold F.obj at h;obtain⟨⟨s',n,e⟩,he,rfl⟩:=CX.1 h;have h1:=H4 he;have h2:=Ki he;simp at h2;subst h2;exact⟨n,h1⟩
theorem aX.look(h:aX M src c ow f a w){s:Nat}{x:S}(hl:f.look s=U x):∃v,a.tmps[s]? =U v/\jL c ow w (BY src c ow f.ob) v x:=by
 obtain⟨n,hm⟩:=M9 hl;exact h.fr s n x hm
theorem aX.obj(h:aX M src c ow f a w){o:Nat}{x:O}(hl:f.obj o=U x):yT M c ow w (BY src c ow f.ob) o x:=by
 obtain⟨n,hm⟩:=vE hl;exact h.ob o n x hm
theorem aX.get(h:aX M src c ow f a w){x:Operand}{s:S}(hg:f.get x=U s):jL c ow w (BY src c ow f.ob) (a.eval x) s:=by
 cases x with
 | tmp t=>
  obtain⟨v,hv,h1⟩:=h.look hg;have he:a.eval (.tmp t)=v:=by simp[Act.eval,Array.getD_eq_getD_getElem?,hv]
  rw[he];exact h1
 | const v=>exact bQ8 hg
 | global g=>cases hg
 | func f=>cases hg
theorem aX.getC(h:aX M src c ow f a w){x:Operand}{y:C}(hg:f.getC x=U y):aW c ow w (BY src c ow f.ob) (a.eval x) y:=by
 unfold F.getC at hg;split at hg
 .rename_i z hz;injection hg with hg;subst hg;exact h.get hz
 .cases hg
theorem dV{α:Type}{x:Option α}{K:α->Option R}{r:R}(h:lC x K=U r):∃y,x=U y/\K y=U r:=by
 cases x with
 | none=>cases h
 | some y=>exact⟨y,rfl,h⟩
theorem bE{b:Bool}{x y:Option R}{r:R}(h:cond b x y=U r):(b=Y/\x=U r)\/(b=Z/\y=U r):=by
 cases b with
 | true=>exact .inl ⟨rfl,h⟩
 | false=>exact .inr ⟨rfl,h⟩
theorem bind_some{α:Type}{x:Option α}{K:α->Option R}{r:R}(h:Option.bind x K=U r):∃y,x=U y/\K y=U r:=by
 cases x with
 | none=>cases h
 | some y=>exact⟨y,rfl,h⟩
theorem Sq{α:Type}{l:List α}{i:Int}{x:α}(h:idx l i=U x):0<=i/\l[i.toNat]? =U x:=by
 unfold idx at h;rcases bE h with ⟨h1,h2⟩ | ⟨_,h2⟩
 .exact⟨by simpa using h1,h2⟩
 .cases h2
theorem NR{t:TypeId}{off:Nat}{cs:List C}{x:A}{xs:List Value}(h:H8 P t off cs=U x)(ha:bD (aW c ow w ok) xs cs):
  ∃v,dT c ow w ok v x/\ ∀(w':World) (b base:Nat),(∀j u,xs[j]? =U u->w'.cell? ⟨b,base+j,N⟩=U u)->(loadVar t ⟨b,base+off,N⟩).run P w'= .ok v w':=by
 have agg:∀(i:TypeInfo),P.info? t=U i->(∀w',(isAgg t).run P w'= .ok Y w')->off+i.size<=cs.length->x= .agg ((cs.drop off).take i.size)->
   ∃v,dT c ow w ok v x/\ ∀(w':World) (b base:Nat),(∀j u,xs[j]? =U u->w'.cell? ⟨b,base+j,N⟩=U u)->(loadVar t ⟨b,base+off,N⟩).run P w'= .ok v w':=by
  intro i hi hag hle hx;subst hx;refine⟨.agg ((xs.drop off).take i.size).toArray,⟨_,rfl,(ha.drop off).take i.size⟩,λw' b base hc=> ?_⟩;refine bAv (hag w') hi ?_ ?_
  .rw[Dy,IJ,ha.length];omega
  .intro j u hu;rw[Lv];have hj:xs[off+j]? =U u:=by
    rw[Ft]at hu;split at hu
    .rw[Ex]at hu;exact hu
    .cases hu
   have :=hc (off+j) u hj;rw[GJ];exact this
 unfold H8 at h;split at h
 .rename_i i fs hi hu;split at h
  .rename_i hle;injection h with h;exact agg i hi (aOl hu) hle h.symm
  .cases h
 .rename_i i n e hi hu;split at h
  .rename_i hle;injection h with h;exact agg i hi (aPc hu) hle h.symm
  .cases h
 .rename_i i d hns hna hi hu;obtain⟨t',ht',rfl⟩:=CX.1 h;obtain⟨u,hu',hr⟩:=ha.get ht';exact⟨u,hr,λw' b base hc=>aZz (xU hu (λfs e=>hns fs e) (λn e' h=>hna n e' h) w') (hc off u hu')⟩
 .cases h
theorem bP7{t:TypeId}{off:Nat}{cs:List C}{x:A}{vs:List Value}(h:H8 P t off cs=U x)(ha:bD (aW c ow w ok) vs cs):∃v,dT c ow w ok v x/\ ∀w':World,(part t vs.toArray off).run P w'= .ok v w':=by
 have agg:∀(i:TypeInfo),P.info? t=U i->(∀w',(isAgg t).run P w'= .ok Y w')->off+i.size<=cs.length->x= .agg ((cs.drop off).take i.size)-> ∃v,dT c ow w ok v x/\ ∀w':World,(part t vs.toArray off).run P w'= .ok v w':=by
  intro i hi hag hle hx;subst hx;refine⟨.agg ((vs.drop off).take i.size).toArray,⟨_,rfl,(ha.drop off).take i.size⟩,λw'=> ?_⟩;simp only[part,Sem.run_bind,hag w',Result.andThen_ok,zV,mH hi];have :vs.toArray.extract off (off+i.size)=((vs.drop off).take i.size).toArray:=by
   simp
  rw[this];rfl
 unfold H8 at h;split at h
 .rename_i i fs hi hu;split at h
  .rename_i hle;injection h with h;exact agg i hi (aOl hu) hle h.symm
  .cases h
 .rename_i i n e hi hu;split at h
  .rename_i hle;injection h with h;exact agg i hi (aPc hu) hle h.symm
  .cases h
 .rename_i i d hns hna hi hu;obtain⟨t',ht',rfl⟩:=CX.1 h;obtain⟨u,hu',hr⟩:=ha.get ht';refine⟨u,hr,λw'=> ?_⟩;simp only[part,Sem.run_bind,xU hu (λfs e=>hns fs e) (λn e' h=>hna n e' h) w',Result.andThen_ok,Cg,zU];simp[hu']
 .cases h
def Ec(P:Program)(src:Nat->Prop)(c:Cx)(ow:Nat->Option Nat)(f:F)(a:Act)(w:World)(o:Oper)(s:S):Prop:= ∃v,jL c ow w (BY src c ow f.ob) v s/\TM P a w o v
theorem bKc{r e k:Nat}{t:Ty}{l:List (den t)}{deep:Bool}(h:JA M c ow w ok r e k t l deep){i:Nat}{x:den t}(hi:l[i]? =U x){g b0 n cap:Nat}(hv:c.rv r= .slice (U ⟨g,b0,N⟩) n cap):
  b0=0/\ ∃(xs:List Value) (G:List Nat),RepL w xs (cells t x) G/\(∀b∈G,ok b)/\(∀j u,xs[j]? =U u->w.cell? ⟨g,i * k+j,N⟩=U u)/\g<w.heap.size:=by
 obtain⟨h0,h1,h2,xs,G,h3,h4,h5,_⟩:=h;have hk:∀z∈l.map (cells t),z.length=k:=λz hz=>by obtain⟨y,_,rfl⟩:=Ch.1 hz;rw[dI,h1]
 have hi':(l.map (cells t))[i]? =U (cells t x):=by simp[hi]
 have hil:i<l.length:=(Cu.1 hi).1;have hle:(i+1) * k<=l.length * k:=DA _ hil;obtain⟨G1,H,g1,g2,g3⟩:=h4.take (i * k);obtain⟨G',H',g4,g5,g6⟩:=g2.take k;rw[rU hk hi']at g4;have hlt:=(NN h3 (g:=g) (by simp[hv,Value.ownBlock])).1;obtain⟨hxl,hr⟩:=h3;rcases hr with ⟨hn,_⟩ | ⟨g',cap',cur,hv',hB,hh,hnc,hcm,hsz,htk⟩
 .rw[hv]at hn;cases hn
 .rw[hv]at hv';injection hv' with e1 e2 e3;injection e1 with e1;injection e1 with e1 e0 _;subst e1;refine⟨e0,_,G',g4,λb hb=>h5 b (by rw[g3,g6];simp[hb]),λj u hu=> ?_,hlt⟩;have hj:xs[i * k+j]? =U u:=by
   rw[Ft]at hu;split at hu
   .rw[Ex]at hu;exact hu
   .cases hu
  have hlt:i * k+j<l.length * k:=by
   have :=(Cu.1 hj).1;omega
  rw[<- htk,Ft,zT hlt]at hj;simp only[World.cell?,hh];simpa using hj
theorem bY9{r k:Nat}{t:Ty}{l:List (den t)}(h:JI M c ow w r k t l){i:Nat}{x:den t}(hi:l[i]? =U x){g b0 n cap:Nat}(hv:c.rv r= .slice (U ⟨g,b0,N⟩) n cap):
  ∃(xs:List Value) (G:List Nat),RepL w xs (cells t x) G/\(∀b∈G,ow b=U r)/\(∀j u,xs[j]? =U u->w.cell? ⟨g,b0+(i * k+j),N⟩=U u)/\g<w.heap.size:=by
 obtain⟨h0,h1,G,h2,h3,h4⟩:=h;have hi':(l.map (cells t))[i]? =U (cells t x):=by simp[hi]
 obtain⟨b,off,n',cap',xs,G',hve,hin,hlt,hbG,g1,g2,g3⟩:=Rep.elem (es:=l.map (cells t)) h2 hi';rw[hv]at hve;injection hve with e1 e2 e3;injection e1 with e1;injection e1 with e1 e0 _;subst e1 e0;refine⟨xs,G',g1,λb hb=>(h4 b (g3 b hb)).2.1,λj u hu=> ?_,hlt⟩;have :=g2 j u hu;rw[dI,h1]at this;rw[<- GJ];exact this
theorem bQv(h:aX M src c ow f a w){t:TypeId}{p:Operand}{K:S->Option R}{r:R}(hop:o.op= .load t p)(hv:XQ P f t p K=U r):∃s,Ec P src c ow f a w o s/\K s=U r:=by
 unfold XQ at hv;split at hv
 .rename_i i off hp;split at hv
  .rename_i cs hb;obtain⟨x,hx,hk⟩:=dV hv;refine⟨_,?_,hk⟩;have hpv:a.eval p= .pointer (U ⟨c.loc i,off,N⟩):=h.getC hp;have hbx:Hg M c ow w (BY src c ow f.ob) i cs:=h.obj hb;have hlt:=hbx.lt;obtain⟨_,_,vs,ty,hh,ha⟩:=hbx;obtain⟨v,hr,hl⟩:=NR hx ha;refine⟨v,hr,λw' hw0=> ?_⟩;have hw':=hw0 (by rw[hop];rfl);have h1:=hl w' (c.loc i) 0 (aQf ((hw' _ hlt).trans hh));rw[Dc]at h1;simp only[execOp,hop,hpv];exact uX (PQ h1)
  .cases hv
 .rename_i ty e off hp;obtain⟨x,hx,hk⟩:=dV hv;refine⟨_,?_,hk⟩;obtain⟨b,base,hpv,hb,hlt,xs,G,hr,hc,hG⟩:=h.getC hp;obtain⟨v,hrv,hl⟩:=NR hx (RU (c:=c) (ow:=ow) ty e hr hG);refine⟨v,hrv,λw' hw0=> ?_⟩;have hw':=hw0 (by rw[hop];rfl);have h1:=hl w' b base λj u hu=>(World.cell?_of_block (hw' b hlt)).trans (hc j u hu)
  simp only[execOp,hop,hpv];exact uX (PQ h1)
 .rename_i rr k i off hp;obtain⟨g,b0,n,cap,hrv,hpv⟩:=h.getC hp;split at hv
  .rename_i e k' ty l deep hrow;split at hv
   .rename_i hk;subst hk;obtain⟨x,hx,hk⟩:=bind_some hv;obtain⟨y,hy,hk⟩:=dV hk;refine⟨_,?_,hk⟩;obtain⟨rfl,xs,G,hr,hG,hc,hlt⟩:=bKc (h.obj hrow) hx hrv;obtain⟨v,hvr,hl⟩:=NR hy (RU (c:=c) (ow:=ow) ty x hr hG);refine⟨v,hvr,λw' hw0=> ?_⟩;have hw':=hw0 (by rw[hop];rfl);have h1:=hl w' g (i * k) λj u hu=>(World.cell?_of_block (hw' g hlt)).trans (hc j u hu)
    simp only[execOp,hop,hpv,Dc];exact uX (PQ h1)
   .cases hv
  .rename_i k' ty l hrow;split at hv
   .rename_i hk;subst hk;obtain⟨x,hx,hk⟩:=bind_some hv;obtain⟨y,hy,hk⟩:=dV hk;refine⟨_,?_,hk⟩;obtain⟨xs,G,hr,hG,hc,hlt⟩:=bY9 (h.obj hrow) hx hrv;obtain⟨v,hvr,hl⟩:=NR hy (Sx (ok:=BY src c ow f.ob) hrv ty x 0 hr hG (λj u hu=>by rw[Dc];exact hc j u hu));refine⟨v,hvr,λw' hw0=> ?_⟩;have hw':=hw0 (by rw[hop];rfl);have h1:=hl w' g (b0+i * k) λj u hu=>by
     rw[GJ];exact (World.cell?_of_block (hw' g hlt)).trans (hc j u hu)
    simp only[execOp,hop,hpv];rw[GJ]at h1;exact uX (PQ h1)
   .cases hv
  .cases hv
 .cases hv
theorem aYt(h:aX M src c ow f a w){x:Operand}{K:S->Option R}{r:R}(hop:o.op= .move x\/o.op= .assign x)(hv:lC (f.get x) K=U r):∃s,Ec P src c ow f a w o s/\K s=U r:=by
 obtain⟨s,hs,hk⟩:=dV hv;refine⟨s,⟨a.eval x,h.get hs,λw' _=> ?_⟩,hk⟩;rcases hop with hop | hop<;>simp[execOp,hop]
theorem bOe(h:aX M src c ow f a w){z x y:Operand}{K:S->Option R}{r:R}(hop:o.op= .pick z x y)(hv:(match f.getC z with | some (.v .bool b)=>cond b (lC (f.get x) K) (lC (f.get y) K) | _=>N)=U r):∃s,Ec P src c ow f a w o s/\K s=U r:=by
 split at hv
 .rename_i b hc;have hcv:=IR (h.getC hc);rcases bE hv with ⟨rfl,hv⟩ | ⟨rfl,hv⟩
  .obtain⟨s,hs,hk⟩:=dV hv;exact⟨s,⟨a.eval x,h.get hs,λw' _=>by simp[execOp,hop,hcv,asBool]⟩,hk⟩
  .obtain⟨s,hs,hk⟩:=dV hv;exact⟨s,⟨a.eval y,h.get hs,λw' _=>by simp[execOp,hop,hcv,asBool]⟩,hk⟩
 .cases hv
theorem bV1(h:aX M src c ow f a w){x:Operand}{K:S->Option R}{r:R}(hop:o.op= .nilCheck x)(hv:(match f.getC x with
  | some (.ptr o off)=>K (.val (.one (.ptr o off)))
  | some (.ep t e off)=>K (.val (.one (.ep t e off)))
  | some (.rp r k i off)=>K (.val (.one (.rp r k i off)))
  | some (.ip r k i off m j q)=>K (.val (.one (.ip r k i off m j q)))
  | _=>N)=U r):∃s,Ec P src c ow f a w o s/\K s=U r:=by
 split at hv<;>first | (cases hv;done) | skip
 all_goals
  rename_i hx;have hr:=h.getC hx;refine⟨_,?_,hv⟩;refine⟨a.eval x,hr,λw' _=> ?_⟩
 .have he:a.eval x=_:=hr;simp[execOp,hop,he]
 .obtain⟨b,base,he,_⟩:=hr;simp[execOp,hop,he]
 .obtain⟨g,b0,n,cap,_,he⟩:=hr;simp[execOp,hop,he]
 .obtain⟨g,b0,n,cap,g2,b2,n2,cap2,_,_,he⟩:=hr;simp[execOp,hop,he]
end
end Go.V
set_option linter.unusedVariables false
set_option linter.unusedSectionVars false
namespace Go.V
open Go.Ab Go.RowKit
section
variable {M src:Nat->Prop} {c:Cx} {ow:Nat->Option Nat} {f:F} {a:Act} {w:World} {P:Program} {o:Oper} {ok:Nat->Prop} {R:Type}
theorem bFi{n:Int}{m:Nat}(h0:0<=n)(h1:n<(m:Int)):n.toNat<m:=by omega
theorem cFe{n:Int}{m:Nat}(h0:0<=n)(h1:n<(m:Int))(hm:m=0):False:=by omega
theorem bR3{k:IntKind}{x:Int}(h:plain (.int k x)=Y)(n:Nat):plain (.int k (x.fdiv (2 ^ n)))=Y:=by
 simp only[plain,Ck,zR]at h ⊢;have h0:k.min<=0:=by cases k<;>simp[IntKind.min,IntKind.signed,IntKind.bits]
 have h1:0<=k.max:=by cases k<;>simp[IntKind.max,IntKind.signed,IntKind.bits]
 have hp:(0:Int)<2 ^ n:=Int.pow_pos (by decide);have e:x.fdiv (2 ^ n)=x / 2 ^ n:=Int.fdiv_eq_ediv_of_nonneg _ (Int.le_of_lt hp);rw[e];rcases Int.lt_or_le x 0 with hx | hx
 .have h2:x / 2 ^ n<0:=Int.ediv_neg_of_neg_of_pos hx hp;have h3:x<=x / 2 ^ n:=by
   have h4:x / 2 ^ n * 2 ^ n<=x:=Int.ediv_mul_le x (by omega);have h5:=Int.lt_ediv_add_one_mul_self x hp;have h6:(1:Int)<=2 ^ n:=hp;have h7:x / 2 ^ n+1<=0:=by omega
   have h8:(x / 2 ^ n+1) * 2 ^ n<=(x / 2 ^ n+1) * 1:=Int.mul_le_mul_of_nonpos_left h7 h6;omega
  omega
 .have h2:0<=x / 2 ^ n:=Int.ediv_nonneg hx (Int.le_of_lt hp);have h3:x / 2 ^ n<=x:=Int.ediv_le_self _ hx;omega
theorem bVc(h:aX M src c ow f a w){op:BinOp}{t t':TypeId}{x y:Operand}{K:S->Option R}{r:R}{cx cy:C}(hop:o.op= .binOp op t x y t')(hx:f.getC x=U cx)(hy:f.getC y=U cy)(hv:Za P op t (λc=>K (.val (.one c))) cx cy=U r):∃s,Ec P src c ow f a w o s/\K s=U r:=by
 have rx:=h.getC hx;have ry:=h.getC hy
 suffices hs:∃z,(∃v,aW c ow w (BY src c ow f.ob) v z/\ ∀w',(binOp op t (a.eval x) (a.eval y)).run P w'= .ok v w'/\plain (a.eval x)=Y)/\K (.val (.one z))=U r by
  obtain⟨z,⟨v,hvr,hrun⟩,hk⟩:=hs;refine⟨_,?_,hk⟩;refine⟨v,hvr,λw' _=> ?_⟩;simp only[execOp,hop];simp[aWb (P:=P) (hrun w').2,(hrun w').1]
 unfold Za at hv;split at hv
 .rename_i k m k' n;obtain⟨ex,px⟩:=pA rx;obtain⟨ey,py⟩:=pA ry;rw[ex,ey];split at hv
  .rcases bE hv with ⟨_,hv⟩ | ⟨h0,hv⟩
   .cases hv
   .have h0': ¬ n<0:=by simpa using h0
    refine⟨_,⟨_,GP (c:=c) (ow:=ow) _ _,λw'=>⟨?_,px⟩⟩,hv⟩;simp[binOp,Op.shift,h0']
  .rcases bE hv with ⟨_,hv⟩ | ⟨h0,hv⟩
   .cases hv
   .have h0': ¬ n<0:=by simpa using h0
    refine⟨_,⟨_,xV (c:=c) (ow:=ow) (bR3 px _),λw'=>⟨?_,px⟩⟩,hv⟩;simp[binOp,Op.shift,h0']
  .rename_i hs1 hs2;split at hv
   .rename_i hk;subst hk;unfold bT8 at hv;split at hv<;>first | (cases hv;done) | skip
    .exact⟨_,⟨_,GP (c:=c) (ow:=ow) _ _,λw'=>⟨by simp[binOp,Op.intArith],px⟩⟩,hv⟩
    .exact⟨_,⟨_,GP (c:=c) (ow:=ow) _ _,λw'=>⟨by simp[binOp,Op.intArith],px⟩⟩,hv⟩
    .exact⟨_,⟨_,GP (c:=c) (ow:=ow) _ _,λw'=>⟨by simp[binOp,Op.intArith],px⟩⟩,hv⟩
    .rcases bE hv with ⟨_,hv⟩ | ⟨h0,hv⟩
     .cases hv
     .have h0': ¬ n=0:=by simpa using h0
      exact⟨_,⟨_,GP (c:=c) (ow:=ow) _ _,λw'=>⟨by simp[binOp,Op.intDiv,h0'],px⟩⟩,hv⟩
    .rcases bE hv with ⟨_,hv⟩ | ⟨h0,hv⟩
     .cases hv
     .have h0': ¬ n=0:=by simpa using h0
      exact⟨_,⟨_,xV (c:=c) (ow:=ow) (bRd px),λw'=>⟨by simp[binOp,Op.intDiv,h0'],px⟩⟩,hv⟩
    .exact⟨_,⟨_,GP (c:=c) (ow:=ow) _ _,λw'=>⟨by simp[binOp,Op.intBits],px⟩⟩,hv⟩
    .exact⟨_,⟨_,GP (c:=c) (ow:=ow) _ _,λw'=>⟨by simp[binOp,Op.intBits],px⟩⟩,hv⟩
    .exact⟨_,⟨_,GP (c:=c) (ow:=ow) _ _,λw'=>⟨by simp[binOp,Op.intBits],px⟩⟩,hv⟩
    .exact⟨_,⟨_,GP (c:=c) (ow:=ow) _ _,λw'=>⟨by simp[binOp,Op.intBits],px⟩⟩,hv⟩
    all_goals exact⟨_,⟨_,HV (c:=c) (ow:=ow) _,λw'=>⟨by simp[binOp,Op.intCmp],px⟩⟩,hv⟩
   .cases hv
 .rename_i sa sb;obtain⟨ex,px⟩:=Lc rx;obtain⟨ey,py⟩:=Lc ry;have px':plain (.string sa)=Y:=by simpa [plain] using px
  rw[ex,ey];unfold bTx at hv;split at hv<;>first | (cases hv;done) | skip
  .rcases bE hv with ⟨h0,hv⟩ | ⟨_,hv⟩
   .have hsz:sa.size+sb.size<=maxLen:=by simpa using h0
    refine⟨_,⟨.string (sa++sb),Ox (c:=c) (ow:=ow) (by simpa using hsz),λw'=>⟨?_,px'⟩⟩,hv⟩;have hh: ¬ ((sa.size+sb.size:Nat):Int)>IntKind.i64.max:=by
     simp only[IntKind.max,IntKind.signed,IntKind.bits];have h63:(2:Int) ^ 63=9223372036854775808:=by decide
     simp only[maxLen]at hsz;simp[h63];omega
    simp only[binOp,Op.stringOp];rw[zS hh];rfl
   .cases hv
  .exact⟨_,⟨_,HV (c:=c) (ow:=ow) _,λw'=>⟨by simp[binOp,Op.stringOp],px'⟩⟩,hv⟩
  .exact⟨_,⟨_,HV (c:=c) (ow:=ow) _,λw'=>⟨by simp[binOp,Op.stringOp],px'⟩⟩,hv⟩
 .rename_i ba bb;have ex:=IR rx;have ey:=IR ry;rw[ex,ey];unfold bMd at hv;split at hv
  .rename_i hu;exact⟨_,⟨_,HV (c:=c) (ow:=ow) _,λw'=>⟨by simp[binOp,Op.equal,Op.maxDepth,run_equalIn_bool' w' _ t ba bb hu],rfl⟩⟩,hv⟩
  .rename_i hu;exact⟨_,⟨_,HV (c:=c) (ow:=ow) _,λw'=>⟨by simp[binOp,Op.equal,Op.maxDepth,run_equalIn_bool' w' _ t ba bb hu],rfl⟩⟩,hv⟩
  .cases hv
 .cases hv
theorem bT3{t:TypeId}{x y:C}{b:Bool}{u v:Value}(h:ZH P t x y=U b)(hx:aW c ow w ok u x)(hy:aW c ow w ok v y):(∀(d:Nat) (w':World),(Op.equalIn (d+1) t u v).run P w'= .ok b w')/\(∀w':World,(isAgg t).run P w'= .ok Z w'):=by
 unfold ZH at h;split at h
 .split at h
  .rename_i k' hu;split at h
   .rename_i hk;subst hk;injection h with h;subst h;obtain⟨rfl,_⟩:=pA hx;obtain⟨rfl,_⟩:=pA hy;exact⟨λd w'=>run_equalIn_int w' d t _ _ _ _ hu,xU hu (by simp) (by simp)⟩
   .cases h
  .cases h
 .split at h
  .rename_i hu;injection h with h;subst h;have e1:=IR hx;have e2:=IR hy;subst e1 e2;exact⟨λd w'=>run_equalIn_bool' w' d t _ _ hu,xU hu (by simp) (by simp)⟩
  .cases h
 .split at h
  .rename_i hu;injection h with h;subst h;obtain⟨rfl,_⟩:=Lc hx;obtain⟨rfl,_⟩:=Lc hy;exact⟨λd w'=>run_equalIn_string w' d t _ _ hu,xU hu (by simp) (by simp)⟩
  .cases h
 .cases h
theorem bO0{xs ys:List C}{us vs:List Value}(hx:bD (aW c ow w ok) us xs)(hy:bD (aW c ow w ok) vs ys):∀{fs:List Field} {b:Bool},Uh P xs ys fs=U b-> ∀(d:Nat) (w':World),(Op.eqFields (d+1) us.toArray vs.toArray fs).run P w'= .ok b w':=by
 intro fs
 induction fs with
 | nil=>intro b h d w';injection h with h;subst h;simp[Op.eqFields]
 | cons f fs ih=>
  intro b h d w';unfold Uh at h;split at h
  .rename_i x y h1 h2;split at h
   .rename_i b1 r h3 h4;split at h
    .cases h
    .rename_i hname;injection h with h;subst h;obtain⟨u,hu,ru⟩:=hx.get h1;obtain⟨v,hv,rv⟩:=hy.get h2;obtain⟨q1,q2⟩:=bT3 h3 ru rv;have hp1:∀w':World,(part f.type us.toArray f.offset).run P w'= .ok u w':=by
      intro w';simp only[part,Sem.run_bind,q2 w',Result.andThen_ok,Cg,zU];simp[hu]
     have hp2:∀w':World,(part f.type vs.toArray f.offset).run P w'= .ok v w':=by
      intro w';simp only[part,Sem.run_bind,q2 w',Result.andThen_ok,Cg,zU];simp[hv]
     unfold Op.eqFields;rw[zT hname];simp only[Sem.run_bind,hp1,hp2,q1,Result.andThen_ok];cases b1 with
     | true=>simp only[Bool.not_true,Cg,zU,Bool.true_and];exact ih h4 d w'
     | false=>simp
   .cases h
  .cases h
theorem bZu(h:aX M src c ow f a w){op:BinOp}{t t':TypeId}{x y:Operand}{K:S->Option R}{r:R}(hop:o.op= .binOp op t x y t')(hv:Z6 P f op t x y K=U r):∃s,Ec P src c ow f a w o s/\K s=U r:=by
 unfold Z6 at hv;split at hv
 .rename_i fs xs ys ht hx hy;have hfo:P.fieldsOf t=fs:=by simp[Program.fieldsOf,ht]
  split at hv
  .rename_i hg;obtain⟨p1,p2⟩:=hg;split at hv
   all_goals first | (cases hv;done) | skip
   all_goals
    rename_i b hb;obtain⟨us,hus,hax⟩:=h.get hx;obtain⟨vs,hvs,hay⟩:=h.get hy;have hrun:∀w':World,(Op.equalIn 10000 t (.agg us.toArray) (.agg vs.toArray)).run P w'= .ok b w':=by
     intro w';rw[run_equalIn_struct w' 9999 t _ _ (by rw[hfo];exact ht) p1,hfo];exact bO0 hax hay hb 9998 w'
    refine⟨_,?_,hv⟩;refine⟨_,HV (c:=c) (ow:=ow) _,λw' _=> ?_⟩;simp only[execOp,hop,hus,hvs]
   .simp[run_eqGuard_agg (P:=P) w' _ t x y _ _ p2,run_eql_struct,hrun]
   .simp[run_eqGuard_agg (P:=P) w' _ t x y _ _ p2,run_neq_struct,hrun]
  .cases hv
 .cases hv
theorem bK0(h:aX M src c ow f a w){t:TypeId}{x:Operand}{j:Nat}{K:S->Option R}{r:R}(hop:o.op= .fieldAddr t x j)(hv:Xn P f t x j K=U r):∃s,Ec P src c ow f a w o s/\K s=U r:=by
 unfold Xn at hv;split at hv
 .rename_i fs ht;split at hv
  .rename_i fd hf;split at hv
   .rename_i i hi;split at hv
    .cases hv
    .rename_i h0;split at hv
     .rename_i ob off hx;have ex:a.eval x= .pointer (U ⟨c.loc ob,off,N⟩):=h.getC hx;refine⟨_,?_,hv⟩;refine⟨.pointer (U ⟨c.loc ob,off+fd.offset,N⟩),rfl,λw' _=> ?_⟩;simp only[execOp,hop,ex];exact uX (RB ht hf hi h0 _ _ w')
     .rename_i ty e off hx;obtain⟨b,base,ex,h1,h2,xs,G,h3,h4,h5⟩:=h.getC hx;refine⟨_,?_,hv⟩;refine⟨.pointer (U ⟨b,base+(off+fd.offset),N⟩),⟨b,base,rfl,h1,h2,xs,G,h3,h4,h5⟩,λw' _=> ?_⟩;simp only[execOp,hop,ex,<- GJ];exact uX (RB ht hf hi h0 _ _ w')
     .rename_i rr k j' off hx;obtain⟨g,b0,n,cap,h1,ex⟩:=h.getC hx;refine⟨_,?_,hv⟩;refine⟨.pointer (U ⟨g,b0+(j' * k+(off+fd.offset)),N⟩),⟨g,b0,n,cap,h1,rfl⟩,λw' _=> ?_⟩;simp only[execOp,hop,ex,<- GJ];exact uX (RB ht hf hi h0 _ _ w')
     .rename_i rr k i' off m j' q hx;obtain⟨g,b0,n,cap,g2,b2,n2,cap2,h1,h2,ex⟩:=h.getC hx;refine⟨_,?_,hv⟩;refine⟨.pointer (U ⟨g2,b2+(j' * m+(q+fd.offset)),N⟩),⟨g,b0,n,cap,g2,b2,n2,cap2,h1,h2,rfl⟩,λw' _=> ?_⟩;simp only[execOp,hop,ex,<- GJ];exact uX (RB ht hf hi h0 _ _ w')
     .cases hv
   .cases hv
  .cases hv
 .cases hv
theorem bKu(h:aX M src c ow f a w){t:TypeId}{x i:Operand}{K:S->Option R}{r:R}(hop:o.op= .indexAddr t x i)(hv:WH P f t x i K=U r):∃s,Ec P src c ow f a w o s/\K s=U r:=by
 unfold WH at hv;split at hv
 .rename_i e ht;split at hv
  .rename_i inf ty l kd n hi hx hix;obtain⟨y,hy,hv⟩:=bind_some hv;split at hv
   .rename_i hk;obtain⟨p1,p2⟩:=Sq hy;obtain⟨G,hr,hG⟩:=h.getC hx;obtain⟨ei,_⟩:=pA (h.getC hix);obtain⟨b,off,len,cap,xs,G',hve,hlt,hb,hbF,g1,g2,g3⟩:=Rep.elem (es:=l.map (cells ty)) hr (i:=n.toNat) (el:=cells ty y) (by simp[p2]);rw[dI,<- NU ty y,hk]at g2;refine⟨_,?_,hv⟩;refine⟨.pointer (U ⟨b,off+n.toNat * inf.size,N⟩),⟨b,off+n.toNat * inf.size,by simp,hG b hbF,hb,xs,G',g1,g2,λx hx=>hG x (g3 x hx)⟩,λw' _=> ?_⟩;simp only[execOp,hop,hve,ei];exact uX (R7 ht hi p1 (by omega) w')
   .cases hv
  .rename_i inf rr kd n hi hx hix;have hxv:a.eval x=c.rv rr:=h.getC hx;obtain⟨ei,_⟩:=pA (h.getC hix);split at hv
   .rename_i e' k ty l deep hrow;split at hv
    .rename_i hk;subst hk;rcases bE hv with ⟨p1,hv⟩ | ⟨_,hv⟩
     .rcases bE hv with ⟨p2,hv⟩ | ⟨_,hv⟩
      .have p1:0<=n:=by simpa using p1
       have p2:n<(l.length:Int):=by simpa using p2
       obtain⟨r0,r1,r2,xs,G,r3,_⟩:=h.obj hrow;obtain⟨hl,hr⟩:=r3;rcases hr with ⟨_,h0⟩ | ⟨g,cap,cur,hrv,_⟩
       .exact (cFe p1 p2 h0).elim
       .refine⟨_,?_,hv⟩;refine⟨.pointer (U ⟨g,0+(n.toNat * inf.size+0),N⟩),⟨g,0,l.length,cap,hrv,rfl⟩,λw' _=> ?_⟩;simp only[execOp,hop,hxv,hrv,ei];exact uX (R7 (b:=g) (off:=0) (cap:=cap) (len:=l.length) (kd:=kd) ht hi p1 p2 w')
      .cases hv
     .cases hv
    .cases hv
   .rename_i k ty l hrow;split at hv
    .rename_i hk;subst hk;rcases bE hv with ⟨p1,hv⟩ | ⟨_,hv⟩
     .rcases bE hv with ⟨p2,hv⟩ | ⟨_,hv⟩
      .have p1:0<=n:=by simpa using p1
       have p2:n<(l.length:Int):=by simpa using p2
       obtain⟨r0,r1,G,r3,_⟩:=h.obj hrow;have hlt:n.toNat<l.length:=bFi p1 p2;obtain⟨b,off,len,cap,xs,G',hve,hin,hb,hbF,g1,g2,g3⟩:=Rep.elem (es:=l.map (cells ty)) r3 (i:=n.toNat) (el:=cells ty l[n.toNat]) (by simp[hlt]);refine⟨_,?_,hv⟩;refine⟨.pointer (U ⟨b,off+(n.toNat * inf.size+0),N⟩),⟨b,off,len,cap,hve,rfl⟩,λw' _=> ?_⟩;simp only[execOp,hop,hxv,hve,ei];exact uX (R7 ht hi p1 (by have h1:=hin;have h2:((n.toNat:Nat):Int)=n:=Mo p1;rw[<- h2];exact Int.ofNat_lt.2 h1) w')
      .cases hv
     .cases hv
    .cases hv
   .cases hv
  .rename_i inf rr k i' off ty l kd n hi hx hix;obtain⟨ei,_⟩:=pA (h.getC hix);split at hv
   .rename_i hk;rcases bE hv with ⟨p1,hv⟩ | ⟨_,hv⟩
    .rcases bE hv with ⟨p2,hv⟩ | ⟨_,hv⟩
     .have p1:0<=n:=by simpa using p1
      have p2:n<(l.length:Int):=by simpa using p2
      have hlt:n.toNat<l.length:=bFi p1 p2;obtain⟨g,b0,nn,cap0,h1,h2,G,hr,hG⟩:=h.getC hx;obtain⟨b,off',len,cap,xs,G',hve,hin,hb,hbF,g1,g2,g3⟩:=Rep.elem (es:=l.map (cells ty)) hr (i:=n.toNat) (el:=cells ty l[n.toNat]) (by simp[hlt]);refine⟨_,?_,hv⟩;refine⟨.pointer (U ⟨b,off'+(n.toNat * inf.size+0),N⟩),⟨g,b0,nn,cap0,b,off',len,cap,h1,by rw[h2,hve],rfl⟩,λw' _=> ?_⟩;simp only[execOp,hop,hve,ei];exact uX (R7 ht hi p1 (by have h1:=hin;have h2:((n.toNat:Nat):Int)=n:=Mo p1;rw[<- h2];exact Int.ofNat_lt.2 h1) w')
     .cases hv
    .cases hv
   .cases hv
  .cases hv
 .cases hv
theorem bT6(h:aX M src c ow f a w){t:TypeId}{x:Operand}{K:S->Option R}{r:R}(hop:o.op= .call {callee:= .builtin .len,args:= #[x],argTypes:= #[t]})(hv:Yu P f t x K=U r):∃s,Ec P src c ow f a w o s/\K s=U r:=by
 unfold Yu at hv;split at hv
 .rename_i e ty l ht hx;obtain⟨G,hr,hG⟩:=h.getC hx;obtain⟨ad,cap,hve,hm⟩:=Rep.len (es:=l.map (cells ty)) hr;rw[CF]at hve hm;refine⟨_,?_,hv⟩;refine⟨.int .i64 (l.length:Int),xV (c:=c) (ow:=ow) (PY hm),λw' _=>NZ hop w' λty=> ?_⟩;rw[hve];simp[Builtin.len_,run_underlying ht,goInt]
 .rename_i e ht hx;have hve:a.eval x= .slice N 0 0:=h.getC hx;refine⟨_,?_,hv⟩;refine⟨.int .i64 0,xV (c:=c) (ow:=ow) (by decide),λw' _=>NZ hop w' λty=> ?_⟩;rw[hve];simp[Builtin.len_,run_underlying ht,goInt]
 .rename_i e rr ht hx;have hve:a.eval x=c.rv rr:=h.getC hx;split at hv
  .rename_i e' k ty l deep hrow;obtain⟨r0,r1,r2,xs,G,r3,_⟩:=h.obj hrow;obtain⟨ad,cap,hrv,hm⟩:=PK r3;refine⟨_,?_,hv⟩;refine⟨.int .i64 (l.length:Int),xV (c:=c) (ow:=ow) (PY hm),λw' _=>NZ hop w' λty=> ?_⟩;rw[hve,hrv];simp[Builtin.len_,run_underlying ht,goInt]
  .rename_i k ty l hrow;obtain⟨r0,r1,G,r3,_⟩:=h.obj hrow;obtain⟨ad,cap,hrv,hm⟩:=Rep.len (es:=l.map (cells ty)) r3;rw[CF]at hrv hm;refine⟨_,?_,hv⟩;refine⟨.int .i64 (l.length:Int),xV (c:=c) (ow:=ow) (PY hm),λw' _=>NZ hop w' λty=> ?_⟩;rw[hve,hrv];simp[Builtin.len_,run_underlying ht,goInt]
  .cases hv
 .rename_i e rr k i' off ty l ht hx;obtain⟨g,b0,nn,cap0,h1,h2,G,hr,hG⟩:=h.getC hx;obtain⟨ad,cap,hve,hm⟩:=Rep.len (es:=l.map (cells ty)) hr;rw[CF]at hve hm;refine⟨_,?_,hv⟩;refine⟨.int .i64 (l.length:Int),xV (c:=c) (ow:=ow) (PY hm),λw' _=>NZ hop w' λty=> ?_⟩;rw[hve];simp[Builtin.len_,run_underlying ht,goInt]
 .rename_i sb ht hx;obtain⟨hve,hp⟩:=Lc (h.getC hx);refine⟨_,?_,hv⟩;refine⟨.int .i64 (sb.size:Int),xV (c:=c) (ow:=ow) (PY hp),λw' _=>NZ hop w' λty=> ?_⟩;rw[hve];simp[Builtin.len_,run_underlying ht,goInt]
 .cases hv
theorem bJf(h:aX M src c ow f a w){mx:Bool}{cl:Call}{x y:Operand}{K:S->Option R}{r:R}(hop:o.op= .call cl)(hcal:cl.callee= .builtin (if mx then .max else .min))(hargs:cl.args.toList=[x,y])(hv:TY f mx x y K=U r):∃s,Ec P src c ow f a w o s/\K s=U r:=by
 unfold TY at hv;split at hv
 .rename_i k m k' n hx hy;split at hv
  .rename_i hk;subst hk;obtain⟨ex,px⟩:=pA (h.getC hx);obtain⟨ey,py⟩:=pA (h.getC hy);have ha:cl.args= #[x,y]:=by
    apply Array.toList_inj.1;simpa using hargs
   refine⟨_,?_,hv⟩;refine⟨.int k (if mx then (if n>m then n else m) else (if n<m then n else m)),xV (c:=c) (ow:=ow) ?_,λw' _=> ?_⟩
   .cases mx<;>simp only[Cg,zU,zV]<;>split<;>assumption
   .cases mx
    .simp[execOp,hop,resolve,hcal,ha,invoke,builtin,ex,ey,Builtin.min_,Builtin.min2]
    .simp[execOp,hop,resolve,hcal,ha,invoke,builtin,ex,ey,Builtin.max_,Builtin.max2]
  .cases hv
 .cases hv
end
end Go.V
set_option linter.unusedVariables false
set_option linter.unusedSectionVars false
namespace Go.V
open Go.Ab Go.RowKit
section
variable {M src:Nat->Prop} {c:Cx} {ow:Nat->Option Nat} {f:F} {a:Act} {w:World} {P:Program} {o:Oper} {ok:Nat->Prop} {R:Type}
theorem bWs(v:Value)(h1:v.oneCell'=Y):aW c ow w ok v (zC v):=by
 unfold zC;split
 .split
  .exact xV ‹_›
  .rfl
 .exact HV _
 .split
  .rename_i hp;exact Ox (by simpa [plain] using hp)
  .rfl
 .rfl
 .exact h1
theorem V8(vs:List Value)(h1:vs.all Value.oneCell'=Y):bD (aW c ow w ok) vs (vs.map zC):=by
 induction vs with
 | nil=>exact .nil
 | cons v vs ih=>
  simp only[Mk,Ck]at h1;exact .cons (bWs v h1.1) (ih h1.2)
theorem NK(hrv:∀r,∃ad n k,c.rv r= .slice ad n k){x:A}{v:Value}(h:dT c ow w ok v x)(hs:x.cells.all C.solid=Y):
  ∃vs:List Value,v.cells=vs.toArray/\bD (aW c ow w ok) vs x.cells/\ ∀u∈vs,u.oneCell'=Y:=by
 cases x with
 | one t=>
  simp only[A.cells,Mk,List.all_nil,Bool.and_true]at hs;have h1:=Vl hrv h hs;exact⟨[v],h1.2,.cons h .nil,by simpa using h1.1⟩
 | agg ts=>
  obtain⟨vs,rfl,ha⟩:=h;refine⟨vs,rfl,ha,?_⟩;have hs':ts.all C.solid=Y:=hs;clear hs
  induction ha with
  | nil=>simp
  | cons hr hrs ih=>
   simp only[Mk,Ck]at hs';intro u hu;rcases Cl.1 hu with rfl | hu
   .exact (Vl hrv hr hs'.1).1
   .exact ih hs'.2 u hu
theorem bD.sp{α β:Type}{R:α->β->Prop}{as as':List α}{bs bs':List β}(h:bD R as bs)(h':bD R as' bs')(off:Nat):bD R (sp as off as') (sp bs off bs'):=by
 unfold Go.V.sp;rw[h'.length];exact ((h.take off).append h').append (h.drop _)
theorem bJw(h:aX M src c ow f a w){t:TypeId}{x:Operand}{j:Nat}{K:S->Option R}{r:R}(hop:o.op= .field t x j)(hv:VX P f t x j K=U r):∃s,Ec P src c ow f a w o s/\K s=U r:=by
 unfold VX at hv;split at hv
 .rename_i fs ht;split at hv
  .rename_i fd ts hf hx;obtain⟨y,hy,hv⟩:=dV hv;obtain⟨vs,hve,ha⟩:=h.get hx;obtain⟨v,hr,hrun⟩:=bP7 hy ha;refine⟨_,?_,hv⟩;refine⟨v,hr,λw' _=> ?_⟩;simp only[execOp,hop,hve];refine uX ?_;simp[Instr.field,run_underlying ht,hf,asAgg,hrun]
  .cases hv
 .cases hv
theorem bKk:∀{fs:List Field} {ps:List (Nat×Nat)},Qd P fs=U ps-> ∀w':World,(fs.mapM λf=>(do pure (f.offset,<- sizeOf f.type):Sem (Nat×Nat))).run P w'= .ok ps w':=by
 intro fs ps h w';exact bQt h w'
theorem aWo(h:aX M src c ow f a w){place:Nat->Option (Nat×Nat)}:∀{ps:List (Nat×Operand)} {cs r:List C} {vs:List Value},Ra f place cs ps=U r->bD (aW c ow w (BY src c ow f.ob)) vs cs->
  ∃us:List Value,bD (aW c ow w (BY src c ow f.ob)) us r/\Instr.fill place vs.toArray (ps.map λp=>(p.1,a.eval p.2))=U us.toArray:=by
 intro ps
 induction ps with
 | nil=>intro cs r vs hf ha;injection hf with hf;subst hf;exact⟨vs,ha,by simp[Instr.fill]⟩
 | cons p ps ih=>
  intro cs r vs hf ha;obtain⟨i,x⟩:=p;unfold Ra at hf;split at hf
  .rename_i off size y hp hx;split at hf
   .rename_i hc;obtain⟨c1,c2,c3⟩:=hc;obtain⟨ws,hws,hall,_⟩:=NK h.rvs (h.get hx) c3;have hal:=ha.sp hall off;obtain⟨us,hu1,hu2⟩:=ih hf hal;refine⟨us,hu1,?_⟩;rw[CA,bYm (off:=off) (size:=size) hp (by rw[hws];simp[hall.length,c1]) (by rw[ha.length];exact c2),hws];exact hu2
   .cases hf
  .cases hf
theorem bK2(h:aX M src c ow f a w){t:TypeId}{ps:Array (Nat×Operand)}{K:S->Option R}{r:R}(hop:o.op= .build t ps)(hv:Xs P f t ps.toList K=U r):∃s,Ec P src c ow f a w o s/\K s=U r:=by
 unfold Xs at hv;split at hv
 .rename_i i fs hi ht;split at hv
  .rename_i z places hz hpl;have hz1:z.cells.toList.all Value.oneCell'=Y:=by
    cases hq:z.cells.toList.all Value.oneCell' with
    | true=>rfl
    | false=>rw[zS (by rw[hq];decide)]at hv;cases hv
   rw[zT hz1]at hv;obtain⟨cs,hf,hv⟩:=dV hv;obtain⟨us,hu1,hu2⟩:=aWo (a:=a) h hf (V8 z.cells.toList hz1);refine⟨_,?_,hv⟩;refine⟨.agg us.toArray,⟨us,rfl,hu1⟩,λw' _=> ?_⟩;simp only[execOp,hop];refine uX ?_;have hm:(fs.mapM λf=>(do pure (f.offset,<- sizeOf f.type):Sem (Nat×Nat))).run P w'= .ok places.toArray w':=by
    have he:fs=fs.toList.toArray:=by simp
    rw[he,List.mapM_toArray];have :=bKk hpl w';simp only[Sem.run_bind,map_eq_pure_bind,this,Result.andThen_ok];rfl
   simp only[Instr.build,zeroValue,typeInfo,Sem.run_bind,run_program,Result.andThen_ok,hi,hz,Sem.run_pure,run_underlying ht];rw[hm];simp only[Result.andThen_ok,Kj];have hu2':Instr.fill (λx=>places.toArray[x]?) z.cells (List.map (λp=>(p.1,a.eval p.2)) ps.toList)=U us.toArray:=by simpa using hu2
   simp only[hu2'];rfl
  .cases hv
 .rename_i i n e hi ht;split at hv
  .rename_i z ie hz hie;have hz1:z.cells.toList.all Value.oneCell'=Y:=by
    cases hq:z.cells.toList.all Value.oneCell' with
    | true=>rfl
    | false=>rw[zS (by rw[hq];decide)]at hv;cases hv
   rw[zT hz1]at hv;obtain⟨cs,hf,hv⟩:=dV hv;obtain⟨us,hu1,hu2⟩:=aWo (a:=a) h hf (V8 z.cells.toList hz1);refine⟨_,?_,hv⟩;refine⟨.agg us.toArray,⟨us,rfl,hu1⟩,λw' _=> ?_⟩;simp only[execOp,hop];refine uX ?_;simp only[Instr.build,zeroValue,typeInfo,Sem.run_bind,run_program,Result.andThen_ok,hi,hz,Sem.run_pure,run_underlying ht,mH hie,Kj];have hu2':Instr.fill (λx=>U (x * ie.size,ie.size)) z.cells (List.map (λp=>(p.1,a.eval p.2)) ps.toList)=U us.toArray:=by simpa using hu2
   simp only[hu2'];rfl
  .cases hv
 .cases hv
theorem bD8(h:aX M src c ow f a w){dflt:Int}{x:Option Operand}{n:Int}(hb:FT f dflt x=U n):(x=N/\n=dflt)\/ ∃y k,x=U y/\a.eval y= .int k n:=by
 cases x with
 | none=>injection hb with hb;exact .inl ⟨rfl,hb.symm⟩
 | some y=>
  simp only[FT]at hb;split at hb
  .rename_i k n' hg;injection hb with hb;subst hb;exact .inr ⟨y,k,rfl,(pA (h.getC hg)).1⟩
  .cases hb
theorem RG(h:aX M src c ow f a w){sl:Bool}{len cap:Nat}(hlc:len<=cap){lo hi:Option Operand}{l u:Int}(h1:FT f 0 lo=U l)(h2:FT f (len:Int) hi=U u)(hl:0<=l)(hlu:l<=u)(hu:u<=len)(w':World):
  (Instr.sliceBounds sl len cap (lo.map a.eval) (hi.map a.eval) N).run P w'= .ok (l.toNat,u.toNat,cap) w':=by
 have hhi:∀w':World,(match hi.map a.eval,(N:Option Value) with
   | some v,U _=>Instr.sliceBound v cap .slice3B
   | some v,N=>Instr.sliceBound v cap (if sl then .sliceAcap else .sliceAlen)
   | none,N=>pure len
   | none,U _=>stuck "Slice: max without high":Sem Nat).run P w'= .ok u.toNat w':=by
  intro w';rcases bD8 h h2 with ⟨rfl,rfl⟩ | ⟨y,k,rfl,hy⟩
  .simp
  .simp only[Kg,hy,Instr.sliceBound,asIntOf,Sem.run_bind,Sem.run_pure,Result.andThen_ok];rw[zT (by omega)];rfl
 have hlo:∀w':World,(match lo.map a.eval with
   | some v=>Instr.sliceBound v u.toNat .sliceB
   | none=>pure 0:Sem Nat).run P w'= .ok l.toNat w':=by
  intro w';rcases bD8 h h1 with ⟨rfl,rfl⟩ | ⟨y,k,rfl,hy⟩
  .simp
  .simp only[Kg,hy,Instr.sliceBound,asIntOf,Sem.run_bind,Sem.run_pure,Result.andThen_ok];rw[zT (by omega)];rfl
 unfold Instr.sliceBounds;simp only[Sem.run_bind,Sem.run_pure,Result.andThen_ok];have e1:=hhi w';have e2:=hlo w';cases hi with
 | none=>
  simp only[Kh,Sem.run_pure]at e1;injection e1 with e1;cases lo with
  | none=>
   simp only[Kh,Sem.run_pure]at e2;injection e2 with e2;simp[e1,<- e2]
  | some y=>simp only[Kg]at e2;simp[e1,e2]
 | some z=>
  simp only[Kg]at e1;cases lo with
  | none=>
   simp only[Kh,Sem.run_pure]at e2;injection e2 with e2;simp[e1,<- e2]
  | some y=>simp only[Kg]at e2;simp[e1,e2]
theorem NW:∀t:Ty,Li.tyLen t=tyLen t
 | .int _=>rfl
 | .bool=>rfl
 | .str=>rfl
 | .sl _=>rfl
 | .pair a b=>by simp[Li.tyLen,tyLen,NW a,NW b]
theorem Of{l h n:Int}(hs:bG l h n=Y):0<=l/\l<=h/\h<=n:=by simpa [bG] using hs
theorem bNe{α β:Type}(g:α->β)(l:List α)(a b:Int):(cut l a b).map g=((l.map g).drop a.toNat).take (b - a).toNat:=by simp[cut,List.map_take,List.map_drop]
theorem bKr(h:aX M src c ow f a w){t:TypeId}{x:Operand}{lo hi:Option Operand}{K:S->Option R}{r:R}(hop:o.op= .slice t x lo hi N)(hv:Li P f t x lo hi K=U r):∃s,Ec P src c ow f a w o s/\K s=U r:=by
 unfold Li at hv;split at hv
 .rename_i e ty l ht hx;split at hv
  .rename_i i lo' u hi' h1 h2;split at hv
   .rename_i hk;rcases bE hv with ⟨p,hv⟩ | ⟨_,hv⟩
    .obtain⟨p1,p2,p3⟩:=Of p;obtain⟨G,hr,hG⟩:=h.getC hx;obtain⟨ad,len,cap,hve,hlen,hlc,hcm,G',g1,g2⟩:=Rep.cut (es:=l.map (cells ty)) hr (k:=i.size) (l:=lo'.toNat) (n:=(u - lo').toNat) (λz hz=>by obtain⟨y,_,rfl⟩:=Ch.1 hz;rw[dI,hk,NW]) (by rw[CF];omega);rw[CF]at hlen;subst hlen;rw[<- bNe]at g1;refine⟨_,?_,hv⟩;refine⟨_,⟨G',g1,λb hb=>hG b (g2 b hb)⟩,λw' _=> ?_⟩;have hbr:=RG (P:=P) (sl:=Y) h hlc h1 h2 p1 p2 p3 w';simp only[execOp,hop,hve];refine uX ?_;have hsub:u.toNat - lo'.toNat=(u - lo').toNat:=by omega
     simp only[Instr.sliceAt,Sem.run_bind,run_underlying ht,Result.andThen_ok,Instr.slice,Kh,hbr,mH hi',hsub];rfl
    .cases hv
   .cases hv
  .cases hv
 .rename_i sb ht hx;split at hv
  .rename_i l u h1 h2;rcases bE hv with ⟨p,hv⟩ | ⟨_,hv⟩
   .obtain⟨p1,p2,p3⟩:=Of p;obtain⟨hve,hsz⟩:=Lc (h.getC hx);refine⟨_,?_,hv⟩;refine⟨.string (sb.extract l.toNat u.toNat),Ox (c:=c) (ow:=ow) ?_,λw' _=> ?_⟩
    .simp only[ByteArray.size_extract];have h1:u.toNat<=sb.size:=by omega
     omega
    .have hbr:=RG (P:=P) (sl:=Z) h (Cz (ByteArray.size sb)) h1 h2 p1 p2 p3 w';simp only[execOp,hop,hve];refine uX ?_;simp only[Instr.sliceAt,Sem.run_bind,run_underlying ht,Result.andThen_ok,Instr.slice,Kh,Option.isSome_none,Cg,zU,Sem.run_pure,hbr]
   .cases hv
  .cases hv
 .cases hv
theorem gP{s t:Ty}{x:den s}{y:den t}(h:iK s t x=U y):∃e:s=t,e▸x=y:=by
 unfold iK at h;split at h
 .rename_i e;injection h with h;exact⟨e,h⟩
 .cases h
theorem Vs{t:Ty}{d:den t}:∀{cs:List C} {l:List (den t)},QQ t d cs=U l->l.length=cs.length/\ ∀(i:Nat) (y:den t),l[i]? =U y->cs[i]? =U (.v t y)
 | [],l,h=>by injection h with h;subst h;exact⟨rfl,λi y hy=>by simp at hy⟩
 | .v t' x::cs,l,h=>by
  unfold QQ at h;split at h
  .rename_i y ys h1 h2;injection h with h;subst h;obtain⟨rfl,rfl⟩:=gP h1;obtain⟨g1,g2⟩:=Vs h2;refine⟨by simp[g1],λi z hz=> ?_⟩;cases i with
   | zero=>simp at hz ⊢;exact hz
   | succ i=>simpa using g2 i z (by simpa using hz)
  .cases h
 | .nil::_,_,h=>by cases h
 | .row _::_,_,h=>by cases h
 | .ptr _ _::_,_,h=>by cases h
 | .ep _ _ _::_,_,h=>by cases h
 | .rp _ _ _ _::_,_,h=>by cases h
 | .sub _ _ _ _ _ _::_,_,h=>by cases h
 | .ip _ _ _ _ _ _ _::_,_,h=>by cases h
 | .clo _ _::_,_,h=>by cases h
 | .any::_,_,h=>by cases h
theorem bE2(h:aX M src c ow f a w){t e:TypeId}{len:Nat}{x i:Operand}{cs:List C}{kd:IntKind}{n:Int}{inf:TypeInfo}{d:TypeDesc}{y:C}(hop:o.op= .index t x i)(ht:P.underlying t=U (.array len e))(hx:f.get x=U (.val (.agg cs)))(hi:f.getC i=U (.v (.int kd) n))(hinf:P.info? e=U inf)(hd:P.underlying e=U d)
  (hns:∀fs,d≠ .struct fs) (hna:∀n e,d≠ .array n e) (h1:inf.size=1) (h0:0<=n) (hl:n<len) (hy:cs[n.toNat]? =U y):Ec P src c ow f a w o (.val (.one y)):=by
 obtain⟨vs,hve,ha⟩:=h.get hx;obtain⟨ei,_⟩:=pA (h.getC hi);obtain⟨v,hv',hr⟩:=ha.get hy;have hagg:=xU hd hns hna;refine⟨v,hr,λw' _=> ?_⟩;simp only[execOp,hop,hve,ei];refine uX ?_;simp only[Instr.index,asIntOf,Sem.run_bind,Sem.run_pure,Result.andThen_ok,run_underlying ht];rw[zT ⟨h0,hl⟩];simp only[Sem.run_bind,mH hinf,Result.andThen_ok,h1,part,hagg w',Cg,zU,Nat.mul_one];simp[hv']
theorem bUd{s:ByteArray}{i:Nat}{b:UInt8}(h:s.data.toList[i]? =U b):s[i]? =U b:=by
 rw[Array.getElem?_toList]at h;obtain⟨h1,h2⟩:=GG.1 h;exact getElem?_eq_some_iff.2 ⟨h1,h2⟩
theorem bPy(h:aX M src c ow f a w){t:TypeId}{x i:Operand}{K:S->Option R}{r:R}(hop:o.op= .index t x i)(hv:XU P f t x i K=U r):∃s,Ec P src c ow f a w o s/\K s=U r:=by
 unfold XU at hv;split at hv
 .rename_i sb kd n ht hx hi;obtain⟨b,hb,hv⟩:=bind_some hv;obtain⟨p1,p2⟩:=Sq hb;obtain⟨ex,_⟩:=Lc (c:=c) (ow:=ow) (h.get hx);obtain⟨ei,_⟩:=pA (h.getC hi);refine⟨_,?_,hv⟩;refine⟨.int .u8 (b.toNat:Int),xV (c:=c) (ow:=ow) (bNs b),λw' _=> ?_⟩;simp only[execOp,hop,ex,ei];refine uX ?_;have p3:=bUd p2;simp[Instr.index,asIntOf,run_underlying ht,p1,p3]
 .rename_i len e cs kd n ht hx hi;split at hv
  .rename_i inf hinf hd;split at hv
   .rename_i hc;obtain⟨l,hl,hv⟩:=dV hv;obtain⟨y,hy,hv⟩:=bind_some hv;obtain⟨p1,p2⟩:=Sq hy;obtain⟨g1,g2⟩:=Vs hl;have hlt:n.toNat<l.length:=(Cu.1 p2).1;exact⟨_,bE2 h hop ht hx hi hinf hd (by simp) (by simp) hc.1 p1 (by rw[<- hc.2,<- g1];have :=Mo p1;omega) (g2 _ _ p2),hv⟩
   .cases hv
  .rename_i inf k hinf hd;split at hv
   .rename_i hc;obtain⟨l,hl,hv⟩:=dV hv;obtain⟨y,hy,hv⟩:=bind_some hv;obtain⟨p1,p2⟩:=Sq hy;obtain⟨g1,g2⟩:=Vs hl;have hlt:n.toNat<l.length:=(Cu.1 p2).1;exact⟨_,bE2 h hop ht hx hi hinf hd (by simp) (by simp) hc.1 p1 (by rw[<- hc.2,<- g1];have :=Mo p1;omega) (g2 _ _ p2),hv⟩
   .cases hv
  .cases hv
 .cases hv
theorem bNk{e k:Nat}{t:Ty}{v:Value}{l:List (den t)}{xs:List Value}{G:List Nat}{B:Nat}(h:w.ownsRow B e k v l.length xs)(hk0:0<k)(hk:tyLen t=k)(hr:RepL w xs (l.map (cells t)).flatten G):
  ∃G',Rep w v (fX (.sl t) l) G'/\ ∀b∈G',v.ownBlock=U b\/b∈G:=by
 have hkk:∀z∈l.map (cells t),z.length=k:=λz hz=>by obtain⟨y,_,rfl⟩:=Ch.1 hz;rw[dI,hk]
 obtain⟨hl,h2⟩:=h;rcases h2 with ⟨rfl,h0⟩ | ⟨g,cap,cur,rfl,hB,hh,h1,h2,h3,h4⟩
 .have :l=[]:=P8.1 h0;subst this;exact⟨[],.nil (C3 _),by simp⟩
 .rcases P7 l.length with h0 | h0
  .have :l=[]:=P8.1 h0;subst this;exact⟨[],.nil h2,by simp⟩
  .refine⟨g::G,.cons (k:=k) (by simp) h0 hk0 hkk h1 h2 hl (λj u hu=> ?_) hr,λb hb=> ?_⟩
   .rw[Dc];rw[<- h4,Ft]at hu;split at hu
    .simp only[World.cell?,hh];simpa using hu
    .cases hu
   .rcases Cl.1 hb with rfl | hb
    .exact .inl rfl
    .exact .inr hb
theorem Vn(h:aX M src c ow f a w){t:Ty}{x:C}{y:den t}{v:Value}(hd:f.data t x=U y)(hv:aW c ow w (BY src c ow f.ob) v x):∃G,Rep w v (fX t y) G/\ ∀b∈G,src b\/M b\/ ∃r,ow b=U r:=by
 unfold F.data at hd;split at hd
 .rename_i t' z;obtain⟨rfl,rfl⟩:=gP hd;obtain⟨G,hr,hG⟩:=hv;exact⟨G,hr,λb hb=> .inl (hG b hb).1⟩
 .split at hd
  .injection hd with hd;subst hd;have hv:v= .slice N 0 0:=hv;subst hv;exact⟨[],.nil (C3 _),by simp⟩
  .cases hd
 .rename_i r;have hv:v=c.rv r:=hv;subst hv;split at hd
  .rename_i e k t' l deep hrow;obtain⟨rfl,rfl⟩:=gP hd;obtain⟨r0,r1,r2,xs,G,r3,r4,r5,r6⟩:=h.obj hrow;obtain⟨G',g1,g2⟩:=bNk r3 r0 r1 r4;refine⟨G',g1,λb hb=> ?_⟩;rcases g2 b hb with hb | hb
   .exact .inr (.inl (r2 b hb).1)
   .exact .inl (r5 b hb).1
  .rename_i k t' l hrow;obtain⟨rfl,rfl⟩:=gP hd;obtain⟨r0,r1,G,r3,r4,r5⟩:=h.obj hrow;exact⟨G,r3,λb hb=> .inr (.inl (r5 b hb).1)⟩
  .cases hd
 .rename_i r k i off t' l;obtain⟨rfl,rfl⟩:=gP hd;obtain⟨_,_,_,_,_,_,G,hr,hG⟩:=hv;exact⟨G,hr,λb hb=> .inr (.inr ⟨r,hG b hb⟩)⟩
 .cases hd
theorem bA7{w:World}:∀{l:List Int} {xs:List Value} {G:List Nat},RepL w xs (l.map (cells (.int .u8))).flatten G->(∀n∈l,0<=n/\n<=255)
 | [],_,_,_=>by intro n hn;cases hn
 | m::l,xs,G,h=>by
  rw[CA,Fu]at h;cases h with
  | cons h1 h2=>
   intro n hn;rcases Cl.1 hn with rfl | hn
   .cases h1 with
    | lit hp=>simpa [plain,IntKind.min,IntKind.max,IntKind.signed,IntKind.bits] using hp
   .exact bA7 h2 n hn
theorem bXv{l:List Int}(h:∀n∈l,0<=n/\n<=255):l.map (cells (.int .u8))=Ig (LL l):=by
 induction l with
 | nil=>rfl
 | cons n l ih=>
  have h1:=h n (CC ..);have h2:((UInt8.ofNat n.toNat).toNat:Int)=n:=by
   rw[UInt8.toNat_ofNat'];have :n.toNat % 2 ^ 8=n.toNat:=Nat.mod_eq_of_lt (by omega);omega
  show cells (.int .u8) n::l.map (cells (.int .u8))=[T.lit (.int .u8 ((UInt8.ofNat n.toNat).toNat:Int))]::Ig (LL l);rw[h2,ih λm hm=>h m (C1 _ hm)];rfl
theorem cGh{v:Value}{l:List Int}{G:List Nat}(hr:Rep w v (fX (.sl (.int .u8)) l) G){t d e:TypeId}(ht:P.underlying t=U (.slice e))(he:P.underlying e=U (.int .u8))(hd:P.underlying d=U .string):(convert t d v).run P w= .ok (.string (eW l)) w:=by
 have hb:∀n∈l,0<=n/\n<=255:=by
  have hr':=hr;simp only[fX]at hr';generalize hes:l.map (cells (.int .u8))=es at hr';cases hr' with
  | nil _=>
   have :l=[]:=by simpa using hes
   subst this;intro n hn;cases hn
  | cons _ _ _ _ _ _ _ _ hr=>subst hes;exact bA7 hr
 have hbt:=bXv hb;simp only[fX]at hr;rw[hbt]at hr;unfold eW;generalize LL l=l at hr;cases hl:l with
 | nil=>
  subst hl;have hb:Ig []=[]:=rfl;rw[hb]at hr;cases hr with
  | @nil A cc hc=>
   rw[run_convert_bytes_string w t d e A 0 cc ht he hd];cases A with
   | none=>simp[Conv.bytesToString];rfl
   | some ad=>
    have h0:(loadCells ad 0).run P w= .ok (([]:List Int).map (Value.int .u8)).toArray w:=by simp[loadCells,loadCellsFrom]
    rw[run_bytesToString w ad 0 cc [] h0];rfl
  | cons hn h0 _ _ _ _ _ _ _=>simp at hn;omega
 | cons b0 l0=>
  rw[<- hl];generalize hbt:Ig l=es at hr;cases hr with
  | nil hc=>rw[hl]at hbt;simp[Ig]at hbt
  | @cons b off n cc k es' xs F' hn' h0 hk0 hk hc hm hxl hcell hrl=>
   subst hbt;have hxs:=bPo hrl;have hnl:n=l.length:=by rw[<- hn'];simp[Ig]
   rw[run_convert_bytes_string w t d e _ n cc ht he hd];have hload:(loadCells ⟨b,off,N⟩ n).run P w= .ok ((l.map λb=>(b.toNat:Int)).map (Value.int .u8)).toArray w:=by
    have :=run_loadCells_list (P:=P) w ⟨b,off,N⟩ xs (λj u hu=>by rw[Lv];exact hcell j u hu);rw[hxs]at this;have hlen:(l.map λb=>Value.int .u8 (b.toNat:Int)).length=n:=by simp[hnl]
    rw[hlen]at this;rw[this,List.map_map];rfl
   rw[run_bytesToString w _ n cc _ hload,bOb];simp[ByteArray.empty,ByteArray.emptyWithCapacity];rfl
theorem bQ2(h:aX M src c ow f a w){t d:TypeId}{x:Operand}{K:S->Option R}{r:R}(hop:o.op= .convert t d x)(hv:XX P f t d x K=U r):∃s,Ec P src c ow f a w o s/\K s=U r:=by
 unfold XX at hv;split at hv
 .rename_i k0 n ds k hx hs hd;obtain⟨ex,_⟩:=pA (h.getC hx);refine⟨_,?_,hv⟩;exact⟨.int k (k.wrap n),GP (c:=c) (ow:=ow) k n,λw' _=>by simp[execOp,hop,ex,convert,run_underlying hs,run_underlying hd,Conv.intToInt]⟩
 .rename_i y e hx hs hd;split at hv
  .rename_i l he hl;obtain⟨G,hr,_⟩:=Vn h hl (h.getC hx);obtain⟨ad,cap,hve,hm⟩:=Rep.len (es:=l.map (cells (.int .u8))) hr;rw[CF]at hm;refine⟨_,?_,hv⟩;refine⟨.string (eW l),Ox (c:=c) (ow:=ow) ?_,λw' hw'=> ?_⟩
   .show (LL l).toArray.size<=maxLen;simpa [LL] using hm
   .simp only[execOp,hop];exact uX (cGh (hr.frame λb hb=>hw' (by rw[hop];rfl) b (hr.lt b hb)) hs he hd)
  .cases hv
 .cases hv
theorem aWm(h:aX M src c ow f a w){K:S->Option R}{r:R}(hv:JK P f K o.op=U r):∃s,Ec P src c ow f a w o s/\K s=U r:=by
 cases hop:o.op with
 | move x=>rw[hop]at hv;exact aYt h (.inl hop) hv
 | assign x=>rw[hop]at hv;exact aYt h (.inr hop) hv
 | pick z x y=>rw[hop]at hv;exact bOe h hop hv
 | load t p=>rw[hop]at hv;exact bQv h hop hv
 | nilCheck x=>rw[hop]at hv;exact bV1 h hop hv
 | binOp op t x y t'=>
  rw[hop]at hv;simp only[JK,cAl]at hv;split at hv
  .rename_i h1 h2;exact bVc h hop h1 h2 hv
  .exact bZu h hop hv
 | unOp op t x=>
  rw[hop]at hv;cases op with
  | not=>
   simp only[JK]at hv;split at hv
   .rename_i b hx;have ex:=IR (h.getC hx);refine⟨_,?_,hv⟩;exact⟨.bool (!b),HV (c:=c) (ow:=ow) _,λw' _=>by simp[execOp,hop,ex,Op.unary]⟩
   .cases hv
  | neg=>
   simp only[JK]at hv;split at hv
   .rename_i k n hx;obtain⟨ex,_⟩:=pA (h.getC hx);refine⟨_,?_,hv⟩;exact⟨.int k (k.wrap (0 - n)),GP (c:=c) (ow:=ow) _ _,λw' _=>by simp[execOp,hop,ex,Op.unary,Op.intArith]⟩
   .cases hv
  | _=>cases hv
 | convert t d x=>rw[hop]at hv;exact bQ2 h hop hv
 | fieldAddr t x j=>rw[hop]at hv;exact bK0 h hop hv
 | field t x j=>rw[hop]at hv;exact bJw h hop hv
 | build t ps=>rw[hop]at hv;exact bK2 h hop hv
 | slice t x lo hi mx=>
  rw[hop]at hv;cases mx with
  | none=>exact bKr h hop hv
  | some m=>cases hv
 | index t x i=>rw[hop]at hv;exact bPy h hop hv
 | indexAddr t x i=>rw[hop]at hv;exact bKu h hop hv
 | extract x i=>
  rw[hop]at hv;simp only[JK]at hv;split at hv
  .rename_i xs hx;obtain⟨y,hy,hv⟩:=dV hv;obtain⟨vs,hve,ha⟩:=h.get hx;obtain⟨v,hv',hr⟩:=ha.get hy;refine⟨_,?_,hv⟩;refine⟨v,hr,λw' _=> ?_⟩;simp[execOp,hop,hve,Instr.extract,hv']
  .cases hv
 | makeFunc fn first cap=>
  rw[hop]at hv;cases fn with
  | func g=>
   simp only[JK]at hv;split at hv
   .rename_i x h1 h2;split at hv
    .rename_i o' off hx;split at hv
     .rename_i h0;subst h0;have hr:a.eval x= .pointer (U ⟨c.loc o',0,N⟩):=h.getC hx;obtain⟨first⟩:=first
      obtain⟨cap⟩:=cap;simp only at h1 h2;subst h1 h2;refine⟨_,?_,hv⟩;exact⟨.func (.func g) #[] #[.pointer (U ⟨c.loc o',0,N⟩)],rfl,λw' _=>by simp[execOp,hop,Instr.makeFunc,hr]⟩
     .cases hv
    .cases hv
   .cases hv
  | _=>cases hv
 | call cl=>
  rw[hop]at hv;simp only[JK]at hv;split at hv
  .rename_i x t h1 h2 h3;refine bT6 h ?_ hv;rw[hop];congr 1;obtain⟨cal,ar,ty⟩:=cl;simp only at h1 h2 h3;obtain⟨ar⟩:=ar;obtain⟨ty⟩:=ty;simp only at h2 h3;subst h1 h2 h3;rfl
  .rename_i x y h1 h2;exact bJf (mx:=Y) h hop h1 h2 hv
  .rename_i x y h1 h2;exact bJf (mx:=Z) h hop h1 h2 hv
  .cases hv
 | _=>rw[hop]at hv;cases hv
end
end Go.V
set_option linter.unusedVariables false
set_option linter.unusedSectionVars false
namespace Go.V
open Go.Ab Go.RowKit
section
variable {M src:Nat->Prop} {c:Cx} {ow:Nat->Option Nat} {f g:F} {a:Act} {w:World} {ok:Nat->Prop}
theorem bSk(cs:List C):bD C.le (cs.map Qz) cs:=by
 induction cs with
 | nil=>exact .nil
 | cons t ts ih=>exact .cons (by unfold Qz;split<;>simp[C.le]) ih
theorem O.noSub_le(x:O):x.noSub.le x:=by
 cases x with
 | box cs=>exact .box (bSk cs)
 | row e k t l deep=>exact .row id
 | win k t l=>exact .win
theorem O.noSub_self{x:O}(h:x.isSub=Z):x.noSub=x:=by
 cases x with
 | box cs=>
  simp only[O.isSub,Da]at h;simp only[O.noSub];congr 1
  induction cs with
  | nil=>rfl
  | cons c cs ih=>
   rw[CA,ih λx hx=>h x (C1 _ hx)];simp[Qz,h c (CC ..)]
 | row _ _ _ _ _=>rfl
 | win _ _ _=>rfl
theorem O.isSub_noSub(x:O):x.noSub.isSub=Z:=by
 cases x with
 | box cs=>
  simp only[O.noSub,O.isSub,Da,Ch]
  rintro t ⟨u,_,rfl⟩
  unfold Qz;split
  .simp[C.isSub]
  .assumption
 | row _ _ _ _ _=>rfl
 | win _ _ _=>rfl
theorem M0{o n:Nat}{x:O}(h:(o,n,x)∈f.noSubs.ob):∃m y,(o,m,y)∈f.ob/\x=y.noSub:=by
 simp only[F.noSubs,Ch]at h;obtain⟨⟨o',m,y⟩,hm,he⟩:=h;split at he
 .injection he with e1 he;injection he with e2 e3;subst e1 e3;exact⟨m,y,hm,rfl⟩
 .rename_i hs;injection he with e1 he;injection he with e2 e3;subst e1 e2 e3;exact⟨m,y,hm,(O.noSub_self (by simpa using hs)).symm⟩
theorem aX.noSubs(h:aX M src c ow f a w):aX M src c ow f.noSubs a w:=by
 refine h.weak (λs n x hm=>⟨n,(C2.1 hm).1⟩) (λo n x hm=> ?_) (λo n x m y hx hy=> ?_)
 .obtain⟨m,y,hy,rfl⟩:=M0 hm;exact⟨m,y,hy,O.noSub_le y⟩
 .obtain⟨_,x',hx',rfl⟩:=M0 hx;obtain⟨_,y',hy',rfl⟩:=M0 hy;rw[h.uniq _ _ _ _ _ hx' hy']
theorem qE(f:F):f.noSubs.subFree:=by
 refine⟨λs n x h=> ?_,λo n x h=> ?_⟩
 .simpa using (C2.1 h).2
 .obtain⟨m,y,_,rfl⟩:=M0 h;exact O.isSub_noSub y
theorem Ce.noSubs(f:F):Ce f f.noSubs:=by
 refine⟨Et _,λs n x hm _=>(C2.1 hm).1,λo n x hm hn=> ?_⟩;simp only[F.noSubs,Ch]at hm;obtain⟨⟨o',m,y⟩,hm,he⟩:=hm;split at he
 .injection he with _ he;injection he with e _;omega
 .rw[<- he];exact hm
theorem bD6{r:Nat}{t:Ty}{l:List (den t)}{x:C}(h:x.names r=Z):DC r t l x=x:=by
 cases x with
 | row r'=>simp[C.names]at h;simp[DC,h]
 | rp r' k i off=>simp[C.names]at h;simp[DC,h]
 | sub r' k i off t x=>simp[C.names]at h;simp[DC,h]
 | ip r' k i off m j p=>simp[C.names]at h;simp[DC,h]
 | rc r' k lo hi=>simp[C.names]at h;simp[DC,h]
 | _=>rfl
theorem Vq{r:Nat}{t:Ty}{l:List (den t)}:∀{cs:List C},cs.any (C.names r)=Z->cs.map (DC r t l)=cs
 | [],_=>rfl
 | x::xs,h=>by
  simp only[UP,Kf]at h;rw[CA,bD6 h.1,Vq h.2]
theorem A.frz_self{r:Nat}{t:Ty}{l:List (den t)}{x:A}(h:x.names r=Z):x.frz r t l=x:=by
 cases x with
 | one y=>simp only[A.frz];rw[bD6 h]
 | agg cs=>simp only[A.frz];rw[Vq h]
theorem S.frz_self{r:Nat}{t:Ty}{l:List (den t)}{x:S}(h:x.names r=Z):x.frz r t l=x:=by
 cases x with
 | val y=>simp only[S.frz];rw[A.frz_self h]
 | tup xs=>
  simp only[S.frz,S.names]at h ⊢;congr 1
  induction xs with
  | nil=>rfl
  | cons y ys ih=>
   simp only[UP,Kf]at h;rw[CA,A.frz_self h.1,ih h.2]
 | un=>rfl
theorem O.frz_self{r:Nat}{t:Ty}{l:List (den t)}{x:O}(h:x.names r=Z):x.frz r t l=x:=by
 cases x with
 | box cs=>simp only[O.frz];rw[Vq h]
 | row _ _ _ _ _=>rfl
 | win _ _ _=>rfl
theorem cG3{r k i off:Nat}{t:Ty}{x:List (den t)}{v:Value}(h:aW c ow w ok v (.sub r k i off t x)):v.oneCell'=Y:=by
 obtain⟨_,_,_,_,_,_,G,hr,_⟩:=h;generalize fX (.sl t) x=d at hr;cases hr with
 | lit hp=>cases v<;>simp[plain]at hp<;>rfl
 | nil _=>rfl
 | cons _ _ _ _ _ _ _ _ _=>rfl
theorem Vk{ok':Nat->Prop}{r:Nat}{t:Ty}{l:List (den t)}{x:C}{v:Value}(h:aW c ow w ok v x)(hg:∀b,b<w.heap.size->ok b->ok' b)(hr:∃G,Rep w (c.rv r) (fX (.sl t) l) G/\ ∀b∈G,ok' b):aW c ow w ok' v (DC r t l x):=by
 cases x with
 | row r'=>
  simp only[DC];split
  .rename_i he;subst he;have h:v=c.rv r':=h;subst h;exact hr
  .exact h
 | rp r' k i off=>
  simp only[DC];split
  .obtain⟨_,_,_,_,_,rfl⟩:=h;rfl
  .exact h
 | sub r' k i off t x=>
  simp only[DC];split
  .exact cG3 h
  .exact h
 | rc r' k lo hi=>
  simp only[DC];split
  .obtain⟨_,_,_,_,rfl⟩:=h;rfl
  .exact h
 | ip r' k i off m j p=>
  simp only[DC];split
  .obtain⟨_,_,_,_,_,_,_,_,_,_,rfl⟩:=h;rfl
  .exact h
 | v _ _=>exact aW.good h hg
 | nil=>exact h
 | clo _ _=>exact h
 | ptr _ _=>exact h
 | ep _ _ _=>exact aW.good h hg
 | any=>exact h
theorem bD.map_right{α β γ:Type}{R:α->β->Prop}{S:α->γ->Prop}{f:β->γ}{as:List α}{bs:List β}(h:bD R as bs)(hf:∀a b,R a b->S a (f b)):bD S as (bs.map f):=by
 induction h with
 | nil=>exact .nil
 | cons h hs ih=>exact .cons (hf _ _ h) ih
theorem A.frz_sound{ok':Nat->Prop}{r:Nat}{t:Ty}{l:List (den t)}{x:A}{v:Value}(h:dT c ow w ok v x)(hg:∀b,b<w.heap.size->ok b->ok' b)(hr:∃G,Rep w (c.rv r) (fX (.sl t) l) G/\ ∀b∈G,ok' b):dT c ow w ok' v (x.frz r t l):=by
 cases x with
 | one y=>exact Vk h hg hr
 | agg ts=>obtain⟨vs,rfl,ha⟩:=h;exact⟨vs,rfl,ha.map_right λu t hu=>Vk hu hg hr⟩
theorem S.frz_sound{ok':Nat->Prop}{r:Nat}{t:Ty}{l:List (den t)}{x:S}{v:Value}(h:jL c ow w ok v x)(hg:∀b,b<w.heap.size->ok b->ok' b)(hr:∃G,Rep w (c.rv r) (fX (.sl t) l) G/\ ∀b∈G,ok' b):jL c ow w ok' v (x.frz r t l):=by
 cases x with
 | val y=>exact A.frz_sound h hg hr
 | tup xs=>obtain⟨vs,rfl,ha⟩:=h;exact⟨vs,rfl,ha.map_right λu t hu=>A.frz_sound hu hg hr⟩
 | un=>exact h
theorem O.frz_blk(r:Nat)(t:Ty)(l:List (den t))(o b:Nat)(y:O):(y.frz r t l).blk c ow o b↔y.blk c ow o b:=by cases y<;>exact Iff.rfl
structure R6 (f g:F) (r:Nat) (t:Ty) (l:List (den t)):Prop where
 fr:∀s n x,(s,n,x)∈g.fr-> ∃m y,(s,m,y)∈f.fr/\x=y.frz r t l
 ob:∀o n x,(o,n,x)∈g.ob->o≠r/\ ∃m y,(o,m,y)∈f.ob/\x=y.frz r t l
theorem PP{r e k:Nat}{t:Ty}{l:List (den t)}{deep:Bool}(hr:f.obj r=U (.row e k t l deep)):R6 f (f.frzRow r) r t l:=by
 unfold F.frzRow;rw[hr];refine⟨λs n x hm=> ?_,λo n x hm=> ?_⟩
 .simp only[Ch]at hm;obtain⟨⟨s',m,y⟩,hm,he⟩:=hm;split at he
  .injection he with e1 he;injection he with e2 e3;subst e1 e3;exact⟨m,y,hm,rfl⟩
  .rename_i hn;injection he with e1 he;injection he with e2 e3;subst e1 e2 e3;exact⟨m,y,hm,(S.frz_self (by simpa using hn)).symm⟩
 .simp only[Ch,C2]at hm;obtain⟨⟨o',m,y⟩,⟨hm,hne⟩,he⟩:=hm;have hne':o'≠r:=by simpa using hne
  split at he
  .injection he with e1 he;injection he with e2 e3;subst e1 e3;exact⟨hne',m,y,hm,rfl⟩
  .rename_i hn;injection he with e1 he;injection he with e2 e3;subst e1 e2 e3;exact⟨hne',m,y,hm,(O.frz_self (by simpa using hn)).symm⟩
theorem R6.live{r:Nat}{t:Ty}{l:List (den t)}(hf:R6 f g r t l){b:Nat}(h:live c ow g.ob b):live c ow f.ob b:=by
 obtain⟨o,n,x,hm,hx⟩:=h;obtain⟨_,m,y,hy,rfl⟩:=hf.ob o n x hm;exact⟨o,m,y,hy,(O.frz_blk r t l o b y).1 hx⟩
theorem aX.frz(h:aX M src c ow f a w)(hsrc:∀b,M b->src b){r n e k:Nat}{t:Ty}{l:List (den t)}{deep:Bool}(hr:(r,n,.row e k t l deep)∈f.ob)(hf:R6 f g r t l):aX M src c ow g a w/\ ∀b,(c.rv r).ownBlock=U b->BY src c ow g.ob b:=by
 have hok:=h.ob _ _ _ hr;have hg:∀b,b<w.heap.size->BY src c ow f.ob b->BY src c ow g.ob b:=λb _ hb=>⟨hb.1,λhl=>hb.2 (hf.live hl)⟩
 have hmain:∀b,(c.rv r).ownBlock=U b->BY src c ow g.ob b:=by
  intro b hb;obtain⟨_,_,r2,_⟩:=id hok;refine⟨hsrc b (r2 b hb).1,λ⟨o,m,x,hm,hx⟩=> ?_⟩;obtain⟨hne,m',y,hy,rfl⟩:=hf.ob o m x hm;exact hne (h.apart hy hr ((O.frz_blk r t l o b y).1 hx) hb)
 have hdata:∃G,Rep w (c.rv r) (fX (.sl t) l) G/\ ∀b∈G,BY src c ow g.ob b:=by
  obtain⟨r0,r1,r2,xs,G,r3,r4,r5,r6⟩:=hok;obtain⟨G',g1,g2⟩:=bNk r3 r0 r1 r4;exact⟨G',g1,λb hb=>(g2 b hb).elim (hmain b) λhb'=>hg b (r4.lt b hb') (r5 b hb')⟩
 refine⟨⟨h.defers,λs n x hm=> ?_,λo n x hm=> ?_,λo n x m y hx hy=> ?_,h.rvs⟩,hmain⟩
 .obtain⟨m,y,hm',rfl⟩:=hf.fr s n x hm;obtain⟨v,hv,h1⟩:=h.fr _ _ _ hm';exact⟨v,hv,S.frz_sound h1 hg hdata⟩
 .obtain⟨hne,m,y,hy,rfl⟩:=hf.ob o n x hm;have ho:=h.ob _ _ _ hy;cases y with
  | box cs=>
   obtain⟨b1,b2,vs,ty,b3,b4⟩:=ho;exact⟨b1,b2,vs,ty,b3,b4.map_right λu t hu=>Vk hu hg hdata⟩
  | row e' k' t' l' deep'=>
   obtain⟨r0,r1,r2,xs,G,r3,r4,r5,r6⟩:=ho;exact⟨r0,r1,r2,xs,G,r3,r4,λb hb=>hg b (r4.lt b hb) (r5 b hb),r6⟩
  | win _ _ _=>exact ho
 .obtain⟨_,_,z,hz,rfl⟩:=hf.ob _ _ _ hx;obtain⟨_,_,z',hz',rfl⟩:=hf.ob _ _ _ hy;rw[h.uniq _ _ _ _ _ hz hz']
theorem aX.frzRow(h:aX M src c ow f a w)(hsrc:∀b,M b->src b)(r:Nat):aX M src c ow (f.frzRow r) a w:=by
 cases hr:f.obj r with
 | none=>unfold F.frzRow;rw[hr];exact h
 | some x=>
  cases x with
  | row e k t l deep=>obtain⟨n,hm⟩:=vE hr;exact (h.frz hsrc hm (PP hr)).1
  | box _=>unfold F.frzRow;rw[hr];exact h
  | win _ _ _=>unfold F.frzRow;rw[hr];exact h
theorem Ce.frzRow(f:F)(r:Nat):Ce f (f.frzRow r):=by
 unfold F.frzRow;split
 .refine⟨Et _,λs n x hm hn=> ?_,λo n x hm hn=> ?_⟩
  .simp only[Ch]at hm;obtain⟨⟨s',m,y⟩,hm,he⟩:=hm;split at he
   .injection he with _ he;injection he with e _;omega
   .rw[<- he];exact hm
  .simp only[Ch,C2]at hm;obtain⟨⟨o',m,y⟩,⟨hm,_⟩,he⟩:=hm;split at he
   .injection he with _ he;injection he with e _;omega
   .rw[<- he];exact hm
 .exact .refl _
theorem Ce.frzAll(f:F)(ids:List Nat):Ce f (f.frzAll ids):=by
 induction ids generalizing f with
 | nil=>exact .refl _
 | cons r rs ih=>exact (Ce.frzRow f r).trans (ih (f.frzRow r))
theorem aX.frzAll(h:aX M src c ow f a w)(hsrc:∀b,M b->src b)(ids:List Nat):aX M src c ow (f.frzAll ids) a w:=by
 induction ids generalizing f with
 | nil=>exact h
 | cons r rs ih=>exact ih (h.frzRow hsrc r)
theorem Vf{r:Nat}{t:Ty}{l:List (den t)}{x:C}(h:x.isSub=Z):(DC r t l x).isSub=Z:=by
 cases x with
 | row r'=>simp only[DC];split<;>rfl
 | rp r' k i off=>simp only[DC];split<;>rfl
 | rc r' k lo hi=>simp only[DC];split<;>rfl
 | sub _ _ _ _ _ _=>cases h
 | ip _ _ _ _ _ _ _=>cases h
 | _=>rfl
theorem A.frz_isSub{r:Nat}{t:Ty}{l:List (den t)}{x:A}(h:x.isSub=Z):(x.frz r t l).isSub=Z:=by
 cases x with
 | one y=>exact Vf h
 | agg cs=>
  simp only[A.isSub,A.frz,Da,Ch]at h ⊢
  rintro _ ⟨u,hu,rfl⟩
  rw[Vf (by simpa using h u hu)];simp
theorem S.frz_isSub{r:Nat}{t:Ty}{l:List (den t)}{x:S}(h:x.isSub=Z):(x.frz r t l).isSub=Z:=by
 cases x with
 | val y=>exact A.frz_isSub h
 | tup xs=>
  simp only[S.isSub,S.frz,Da,Ch]at h ⊢
  rintro _ ⟨u,hu,rfl⟩
  rw[A.frz_isSub (by simpa using h u hu)];simp
 | un=>rfl
theorem O.frz_isSub{r:Nat}{t:Ty}{l:List (den t)}{x:O}(h:x.isSub=Z):(x.frz r t l).isSub=Z:=by
 cases x with
 | box cs=>
  simp only[O.isSub,O.frz,Da,Ch]at h ⊢
  rintro _ ⟨u,hu,rfl⟩
  rw[Vf (by simpa using h u hu)];simp
 | row _ _ _ _ _=>rfl
 | win _ _ _=>rfl
theorem bDb(h:f.subFree)(r:Nat):(f.frzRow r).subFree:=by
 cases hr:f.obj r with
 | none=>unfold F.frzRow;rw[hr];exact h
 | some x=>
  cases x with
  | row e k t l deep=>
   have hf:=PP hr;refine⟨λs n x hm=> ?_,λo n x hm=> ?_⟩
   .obtain⟨m,y,hm',rfl⟩:=hf.fr s n x hm;exact S.frz_isSub (h.1 _ _ _ hm')
   .obtain⟨_,m,y,hm',rfl⟩:=hf.ob o n x hm;exact O.frz_isSub (h.2 _ _ _ hm')
  | box _=>unfold F.frzRow;rw[hr];exact h
  | win _ _ _=>unfold F.frzRow;rw[hr];exact h
theorem PH(h:f.subFree)(ids:List Nat):(f.frzAll ids).subFree:=by
 induction ids generalizing f with
 | nil=>exact h
 | cons r rs ih=>exact ih (bDb h r)
theorem bPf{r o n:Nat}{x:O}(h:(o,n,x)∈(f.frzRow r).ob):∃m y,(o,m,y)∈f.ob:=by
 cases hr:f.obj r with
 | none=>unfold F.frzRow at h;rw[hr]at h;exact⟨n,x,h⟩
 | some z=>
  cases z with
  | row e k t l deep=>obtain⟨_,m,y,hy,_⟩:=(PP hr).ob o n x h;exact⟨m,y,hy⟩
  | box _=>unfold F.frzRow at h;rw[hr]at h;exact⟨n,x,h⟩
  | win _ _ _=>unfold F.frzRow at h;rw[hr]at h;exact⟨n,x,h⟩
theorem bOi{ids:List Nat}{o n:Nat}{x:O}(h:(o,n,x)∈(f.frzAll ids).ob):∃m y,(o,m,y)∈f.ob:=by
 induction ids generalizing f with
 | nil=>exact⟨n,x,h⟩
 | cons r rs ih=>obtain⟨m,y,hy⟩:=ih (f:=f.frzRow r) h;exact bPf hy
theorem bK9{r b:Nat}(h:live c ow (f.frzRow r).ob b):live c ow f.ob b:=by
 cases hr:f.obj r with
 | none=>unfold F.frzRow at h;rw[hr]at h;exact h
 | some z=>
  cases z with
  | row e k t l deep=>exact (PP hr).live h
  | box _=>unfold F.frzRow at h;rw[hr]at h;exact h
  | win _ _ _=>unfold F.frzRow at h;rw[hr]at h;exact h
theorem aWd{ids:List Nat}{b:Nat}:live c ow (f.frzAll ids).ob b->live c ow f.ob b:=by
 induction ids generalizing f with
 | nil=>exact id
 | cons r rs ih=>exact λh=>bK9 (ih (f:=f.frzRow r) h)
theorem aY3(h:aX M src c ow f a w){o n:Nat}{x:O}(hm:(o,n,x)∈f.ob):f.obj o=U x:=by
 unfold F.obj;cases hf:f.ob.find? λe=>e.1==o with
 | none=>have :=List.find?_eq_none.1 hf _ hm;simp at this
 | some p=>
  obtain⟨o',n',y⟩:=p;have h1:=H4 hf;have h2:=Ki hf;simp at h2;subst h2;rw[h.uniq _ _ _ _ _ h1 hm];rfl
theorem bBb(h:aX M src c ow f a w)(hsrc:∀b,M b->src b){ids:List Nat}{r:Nat}(hr:r∈ids){n e k:Nat}{t:Ty}{l:List (den t)}{deep:Bool}(hm:(r,n,.row e k t l deep)∈f.ob):
  (∀b,(c.rv r).ownBlock=U b->BY src c ow (f.frzAll ids).ob b)/\ ∀n x,(r,n,x)∉(f.frzAll ids).ob:=by
 induction ids generalizing f n with
 | nil=>cases hr
 | cons r1 rs ih=>
  have h1:=h.frzRow hsrc r1
  by_cases he:r=r1
  .subst he;have hobj:=aY3 h hm;have hfz:=PP hobj;have hf:=h.frz hsrc hm hfz;refine⟨λg hg=> ?_,λn x hx=> ?_⟩
   .have :=hf.2 g hg;exact⟨this.1,λhl=>this.2 (aWd (f:=f.frzRow r) (ids:=rs) hl)⟩
   .obtain⟨m,y,hy⟩:=bOi (f:=f.frzRow r) (ids:=rs) hx;exact (hfz.ob _ _ _ hy).1 rfl
  .have hr':r∈rs:=(Cl.1 hr).resolve_left he;have hx:∃m,(r,m,.row e k t l deep)∈(f.frzRow r1).ob:=by
    unfold F.frzRow;split
    .rename_i e1 k1 t1 l1 deep1 hrow;refine⟨n,?_⟩;simp only[Ch,C2];exact⟨(r,n,.row e k t l deep),⟨hm,by simpa using he⟩,by simp[O.names]⟩
    .exact⟨n,hm⟩
   obtain⟨m,hm'⟩:=hx;exact ih h1 hr' hm'
theorem bO6{d b:Nat}(h:live c ow (f.scrub d).ob b):live c ow f.ob b:=by
 obtain⟨o,n,x,hm,hx⟩:=h;obtain⟨_,m,y,hy,rfl⟩:=fW hm;refine⟨o,m,y,hy,?_⟩;cases y<;>exact hx
theorem cEm{c':Cx}{d:Nat}(hf:∀o n x,(o,n,x)∈f.ob->o≠d)(k:c.but c' d):BY src c' ow f.ob=BY src c ow f.ob:=by
 have hblk:∀o n x,(o,n,x)∈f.ob-> ∀b,x.blk c' ow o b↔x.blk c ow o b:=by
  intro o n x hm b;have hne:=hf o n x hm;cases x with
  | box cs=>simp[O.blk,k.loc o hne]
  | row e kk t l deep=>simp[O.blk,k.rv o hne]
  | win _ _ _=>exact Iff.rfl
 funext b;apply propext;constructor
 .rintro⟨h1,h2⟩
  exact⟨h1,λ⟨o,n,x,hm,hx⟩=>h2 ⟨o,n,x,hm,(hblk o n x hm b).2 hx⟩⟩
 .rintro⟨h1,h2⟩
  exact⟨h1,λ⟨o,n,x,hm,hx⟩=>h2 ⟨o,n,x,hm,(hblk o n x hm b).1 hx⟩⟩
theorem bD.scrub{vs:List Value}{cs:List C}(h:bD (aW c ow w ok) vs cs)(hrv:∀r,∃ad n k,c.rv r= .slice ad n k)(d:Nat):bD (aW c ow w ok) vs (cs.map (wR d)):=h.map_right λu x hr=>by
 unfold wR;split
 .exact Sn hrv hr
 .exact hr
theorem Ce.add(f:F)(d:Nat)(x:O):Ce f (f.add d x):=by
 refine (Ce.scrub f d).trans ⟨Et _,λ_ _ _ h _=>h,λo n y hm hn=> ?_⟩;rcases Cl.1 hm with he | hm
 .injection he with _ he;injection he with e _;simp[F.scrub]at hn e;omega
 .exact hm
theorem Ce.newOb(f:F)(d:Nat)(x:O)(y:C):Ce f (f.newOb d x y):=(Ce.add f d x).trans (Ce.put _ _ _)
theorem aUx(h:aX M src c ow f a w)(hsf:f.subFree){d:Nat}(hd:d<a.tmps.size){vs:List Value}{cs:List C}(ty:TypeId)(hv:bD (aW c ow w (BY src c ow f.ob)) vs cs)(hcs:∀x∈cs,x.isSub=Z)(hM:M w.heap.size):
  ∃ow',aX M src (c.setLoc d w.heap.size) ow' (f.newOb d (.box (cs.map (wR d))) (.ptr d 0)) (a.put (U d) (.pointer (U ⟨w.heap.size,0,N⟩))) (w.alloc (.cells vs.toArray ty (0,0))):=by
 have h1:=h.scrub d;have hf:=bRu f d;have h2:=h1.recx hf (c.but_loc d w.heap.size) h.rvs;have hloc:(c.setLoc d w.heap.size).loc d=w.heap.size:=by simp[Cx.setLoc]
 have hsz:(w.alloc (.cells vs.toArray ty (0,0))).heap.size=w.heap.size+1:=by simp
 have hblk:∀b,b<w.heap.size->(w.alloc (.cells vs.toArray ty (0,0))).heap[b]? =w.heap[b]? :=λb hb=>Below.heap_alloc _ _ _ hb
 let ow':Nat->Option Nat:=λb=>if b=w.heap.size then U d else ow b
 have ho:∀b,b<w.heap.size->ow' b=ow b:=λb hb=>by simp only[ow'];rw[zS (by omega)]
 have hokeq:BY src (c.setLoc d w.heap.size) ow (f.scrub d).ob=BY src c ow (f.scrub d).ob:=cEm (λo n x hm=>(hf.2 o n x hm).1) (c.but_loc d w.heap.size);have h3:=h2.add (bFv hsf d) (w':=w.alloc (.cells vs.toArray ty (0,0))) (ow':=ow') (d:=d) (m:=(f.scrub d).ctr) (n':=(f.scrub d).ctr+1) (x:= .box (cs.map (wR d))) (λo n y hy=>(hf.2 o n y hy).1) (by omega) hblk ho (λb hb=>by have hb:(c.setLoc d w.heap.size).loc d=b:=hb;omega) ?_
 .exact⟨ow',h3.put (d:=d) (v:= .pointer (U ⟨w.heap.size,0,N⟩)) hd (by simp[jL,dT,aW,Cx.setLoc])⟩
 .refine⟨by rw[hloc];exact hM,by rw[hloc];simp[ow'],vs,ty,by rw[hloc];exact heap_alloc_new w _,?_⟩;have hv1:=hv.scrub h.rvs d;refine hv1.mono λu x hx hr=> ?_
  have hns:x.isSub=Z:=by obtain⟨y,hy,rfl⟩:=Ch.1 hx;exact C.isSub_scrub (hcs y hy)
  have hnm:x.names d=Z:=by obtain⟨y,hy,rfl⟩:=Ch.1 hx;exact C.names_scrub d y
  refine (hr.but hnm (c.but_loc d w.heap.size)).keep hns ⟨by omega,λb hb _=>hblk b hb,λb hb hok=>⟨hok.1,λhl=> ?_⟩⟩;obtain⟨o,n,y,hy,hyb⟩:=hl;rcases Cl.1 hy with he | hy
  .injection he with e1 he;injection he with _ e2;subst e1 e2;have hyb:(c.setLoc o w.heap.size).loc o=b:=hyb;omega
  .refine hok.2 (bO6 (d:=d) ⟨o,n,y,hy,?_⟩);have hne:=(hf.2 o n y hy).1;cases y with
   | box _=>simpa [O.blk,Cx.setLoc,hne] using hyb
   | row _ _ _ _ _=>exact hyb
   | win _ _ _=>show ow b=U o;rw[<- ho b hb];exact hyb
theorem aYz{P:Program}{t:TypeId}{v:Value}(w:World):(newVar t v).run P w= .ok ⟨w.heap.size,0,N⟩ (w.alloc (.cells v.cells t (0,0))):=by
 simp[newVar,newRow]
end
end Go.V
set_option linter.unusedVariables false
set_option linter.unusedSectionVars false
namespace Go.V
open Go.Ab Go.RowKit
section
variable {P:Program} {w:World} {a:Act} {o:Oper} {B:Nat}
theorem kP:∀{l:List Nat},xS l=Y->l.Nodup
 | [],_=>Rz
 | x::xs,h=>by
  simp only[xS,Ck,Bool.not_eq_true']at h;exact EW.2 ⟨by simpa using h.1,kP h.2⟩
theorem aQn{vs:List Value}{ts:List T}(h:RepL w vs ts []):∀n,RepL w (Dx n vs).flatten (Dx n ts).flatten []
 | 0=> .nil
 | n+1=>by
  rw[List.replicate_succ,List.replicate_succ,Fu,Fu];exact h.append (aQn h n)
theorem aWc(z:Array Value)(hz:0<z.size):∀n,(madeCells z (n * z.size)).toList=(Dx n z.toList).flatten:=by
 intro n;apply List.ext_getElem?;intro j
 induction n generalizing j with
 | zero=>simp[madeCells]
 | succ n ih=>
  rw[List.replicate_succ',R3,Fu,List.flatten_nil,CU];have hlen:(Dx n z.toList).flatten.length=n * z.size:=by simp[List.length_flatten]
  by_cases hj:j<n * z.size
  .rw[List.getElem?_append_left (by omega),<- ih j];simp only[madeCells,Kj,Array.toList_range,FV];rw[List.getElem?_range hj,List.getElem?_range (by rw[CZ];omega)]
  .rw[List.getElem?_append_right (by omega),hlen];simp only[madeCells,Kj,Array.toList_range,FV]
   by_cases hj2:j<(n+1) * z.size
   .rw[List.getElem?_range hj2];have hlt:j - n * z.size<z.size:=by rw[CZ]at hj2;omega
    have hmod:j % z.size=j - n * z.size:=by
     have :j=(j - n * z.size)+z.size * n:=by rw[Nat.mul_comm z.size n];omega
     rw[this,Nat.add_mul_mod_self_left,Nat.mod_eq_of_lt (by omega),<- this]
    simp[hmod,hlt]
   .rw[List.getElem?_eq_none (by simpa using hj2)];have : ¬ j - n * z.size<z.size:=by rw[CZ]at hj2;omega
    simp[this]
theorem aWn{e k n:Nat}(cells:List Value)(hB:B<=w.heap.size)(hn:n<=maxLen)(hl:cells.length=n * k):
  (w.alloc (.cells cells.toArray e (0,0))).ownsRow B e k (.slice (U ⟨w.heap.size,0,N⟩) n n) n cells:=
 ⟨hl,.inr ⟨w.heap.size,n,cells.toArray,rfl,hB,heap_alloc_new w _,Cz _,hn,by simpa using hl,by simpa using cQt (ID hl)⟩⟩
theorem bJb(size:Nat):∀(vs:List Value) (j:Nat) (cells:Array Value),(∀v∈vs,v.cells.size=size)->(j+vs.length) * size<=cells.size->
  Instr.fill (λi=>U (i * size,size)) cells ((List.range' j vs.length).zip vs)=U (cells.toList.take (j * size)++(vs.map λv=>v.cells.toList).flatten++cells.toList.drop ((j+vs.length) * size)).toArray
 | [],j,cells,_,_=>by simp[Instr.fill]
 | v::vs,j,cells,hv,hle=>by
  have hsz:v.cells.size=size:=hv v (CC ..);have hle':(j+1+vs.length) * size<=cells.size:=by rw[show j+1+vs.length=j+(v::vs).length by simp;omega];exact hle
  have h1:j * size+size<=cells.size:=by
   have :(j+1) * size<=(j+1+vs.length) * size:=DA _ (by omega);rw[CZ]at this;omega
  rw[C6,List.range'_succ,List.zip_cons_cons];unfold Instr.fill;simp only[hsz,ne_eq,not_true_eq_false,decide_false,Bool.false_or];have hif: ¬ (j * size+size>cells.size):=by omega
  simp only[gt_iff_lt,zR];rw[zS (by omega)];have hfold:(v.cells.zipIdx.foldl (λcs (x:Value×Nat)=>cs.setIfInBounds (j * size+x.2) x.1) cells)=(cells.toList.take (j * size)++v.cells.toList++cells.toList.drop (j * size+size)).toArray:=by
   rw[<- Array.foldl_toList,Array.toList_zipIdx];have :=VC (j * size) v.cells.toList 0 cells (by simpa [hsz] using h1);simpa [hsz] using this
  have hfold':(v.cells.zipIdx.foldl (λcs x=>match x with | (c,j_1)=>cs.setIfInBounds (j * size+j_1) c) cells)=(cells.toList.take (j * size)++v.cells.toList++cells.toList.drop (j * size+size)).toArray:=hfold;rw[hfold'];have hlen1:(cells.toList.take (j * size)++v.cells.toList).length=(j+1) * size:=by
   rw[C7,Dy,N9,N9,hsz,CZ];omega
  rw[bJb size vs (j+1) _ (λu hu=>hv u (C1 _ hu)) (by
   simp only[List.size_toArray,C7,Dy,IJ,N9,hsz];omega)]
  congr 2;have e1:(cells.toList.take (j * size)++v.cells.toList++cells.toList.drop (j * size+size)).take ((j+1) * size)=cells.toList.take (j * size)++v.cells.toList:=by
   rw[<- hlen1,Mn]
  have e2:(cells.toList.take (j * size)++v.cells.toList++cells.toList.drop (j * size+size)).drop ((j+1+vs.length) * size)=cells.toList.drop ((j+(vs.length+1)) * size):=by
   rw[List.drop_append,Mm (by rw[hlen1];exact DA _ (by omega)),CH,R0,hlen1];congr 1;have :(j+1+vs.length) * size=(j+1) * size+vs.length * size:=by rw[Nat.add_mul]
   have :(j+(vs.length+1)) * size=j * size+size+vs.length * size:=by rw[Nat.add_mul,CZ];omega
   have :(j+1) * size=j * size+size:=CZ _ _;omega
  simp only[e1,e2];simp
theorem NJ{k:Nat}:∀{es:List (List T)} {i:Nat} {el':List T},(∀x∈es,x.length=k)->i<es.length->el'.length=k->(es.set i el').flatten=sp es.flatten (i * k) el'
 | [],i,el',_,hi,_=>by simp at hi
 | e::es,0,el',hk,_,hl=>by
  have he:e.length=k:=hk e (CC ..);simp[sp,hl,<- he]
 | e::es,i+1,el',hk,hi,hl=>by
  have he:e.length=k:=hk e (CC ..);have ih:=NJ (es:=es) (i:=i) (el':=el') (λx hx=>hk x (C1 _ hx)) (by simpa using hi) hl;rw[List.set_cons_succ,Fu,ih,Fu];unfold sp;have h1:(i+1) * k=e.length+i * k:=by rw[CZ,he];omega
  rw[h1,List.take_length_add_append,GJ,List.drop_length_add_append];simp
theorem IM{α:Type}{L cs:List α}{off:Nat}(h:off+cs.length<=L.length):(sp L off cs).length=L.length:=by
 unfold sp;simp;omega
theorem QV{L el ts:List T}{p k off:Nat}(hel:el=(L.drop p).take k)(hp:p+k<=L.length)(ho:off+ts.length<=k):sp L p (sp el off ts)=sp L (p+off) ts:=by
 have hel':el.length=k:=by rw[hel];simp;omega
 have hsl:(sp el off ts).length=k:=by rw[IM (by omega)];exact hel'
 unfold sp at hsl ⊢;rw[hsl];have e1:el.take off=(L.drop p).take off:=by rw[hel,UN];congr 1;omega
 have e2:el.drop (off+ts.length)=((L.drop p).drop (off+ts.length)).take (k - (off+ts.length)):=by rw[hel,List.drop_take]
 rw[e1,e2];have e3:L.take (p+off)=L.take p++(L.drop p).take off:=List.take_add;rw[e3];have e4:L.drop (p+off+ts.length)=((L.drop p).drop (off+ts.length)).take (k - (off+ts.length))++L.drop (p+k):=by
  rw[R0];have :L.drop (p+k)=(L.drop (p+(off+ts.length))).drop (k - (off+ts.length)):=by
   rw[R0];congr 1;omega
  rw[this,FW];congr 1;omega
 rw[e4];simp
theorem X0{v:Value}{t:T}{F:List Nat}(h:Rep w v t F):v.oneCell'=Y:=by
 cases h with
 | lit hp=>cases v<;>simp[plain]at hp<;>rfl
 | nil hc=>rfl
 | cons hn h0 hk0 hk hc hm hx hcell hr=>rfl
theorem bGx{vs:List Value}{ts:List T}{F:List Nat}(h:RepL w vs ts F):∀u∈vs,u.oneCell'=Y:=by
 induction vs generalizing ts F with
 | nil=>simp
 | cons v vs ih=>
  cases h with
  | cons h hs=>
   intro u hu;rcases Cl.1 hu with rfl | hu
   .exact X0 h
   .exact ih hs u hu
theorem bK5{t ty e:TypeId}{i:TypeInfo}{k n:Nat}(ht:P.underlying t=U (.slice e))(hi:P.info? e=U i){v:Value}{xs:List Value}(hown:w.ownsRow B e k v n xs)(c:Nat):(Builtin.append_ #[t,t] ty #[v,.slice N 0 c]).run P w= .ok v w:=by
 rcases hown.2 with ⟨rfl,rfl⟩ | ⟨g,cap,cur,rfl,_,_,hnc,_⟩
 .simp[Builtin.append_,run_underlying ht,sizeOf,typeInfo,hi,Builtin.lenOf,Builtin.firstCells]
 .simp[Builtin.append_,run_underlying ht,sizeOf,typeInfo,hi,Builtin.lenOf,Builtin.firstCells,hnc,storeCells]
theorem O7{t ty e:TypeId}{i:TypeInfo}{z:Value}{n:Nat}(ht:P.underlying t=U (.slice e))(hi:P.info? e=U i)(hz:i.zero=U z)(hzs:z.cells.size=i.size)(h0:0<i.size){v u:Value}{xs:List Value}{es:List (List T)}{F:List Nat}
  (hown:w.ownsRow B e i.size v n xs) (hu:Rep w u (.sl es) F) (hk:∀x∈es,x.length=i.size) (hle:(n+es.length) * (i.bytes+1)<=140737488355328) (hB:B<=w.heap.size):
  ∃v' w' news G,(Builtin.append_ #[t,t] ty #[v,u]).run P w= .ok v' w'/\w'.ownsRow B e i.size v' (n+es.length) (xs++news)/\w.grownBy w' v.ownBlock/\(v'.ownBlock=v.ownBlock\/v'.ownBlock=U w.heap.size)/\RepL w news es.flatten G/\(∀b∈G,b∈F)/\(F.Nodup->G.Nodup):=by
 have hle1:(n+es.length) * i.bytes<=140737488355328:=B5 (Nat.mul_le_mul_left _ (Et _)) hle;have hle2:n+es.length<=maxLen:=by
  have :n+es.length<=(n+es.length) * (i.bytes+1):=Nat.le_mul_of_pos_right _ (Nat.succ_pos _);simp only[maxLen];omega
 cases hu with
 | @nil A cc hc=>
  cases A with
  | none=>exact⟨v,w,[],[],bK5 ht hi hown cc,by simpa using hown,World.grownBy.refl w _,.inl rfl,by simpa using .nil,by simp,λ_=>Rz⟩
  | some ad=>
   obtain⟨v',w',g1,g2,g3,_,g5⟩:=run_append_own_at (P:=P) w B t ty e i z i.size i.bytes ht hi hz rfl rfl hzs h0 v n xs hown ad 0 cc [] (by simp) (by simp) (by simp) (by simpa using hle2) (by simpa using hle1) hB;exact⟨v',w',[],[],g1,g2,g3,g5,by simpa using .nil,by simp,λ_=>Rz⟩
 | @cons b off m cc k es news F hn hp hk0 hk' hc hm hx hcell hr=>
  subst hn;have hkk:k=i.size:=by
   obtain⟨x,hx⟩:=ZD hp;rw[<- hk' x hx,hk x hx]
  subst hkk;obtain⟨v',w',g1,g2,g3,_,g5⟩:=run_append_own_at (P:=P) w B t ty e i z i.size i.bytes ht hi hz rfl rfl hzs h0 v n xs hown ⟨b,off,N⟩ es.length cc news hx (λj u hu=>by rw[Lv];exact hcell j u hu) (bGx hr) hle2 hle1 hB;exact⟨v',w',news,F,g1,g2,g3,g5,hr,λb hb=>C1 _ hb,λh=>(EW.1 h).2⟩
def _root_.Go.Ab.T.isSl:T->Bool
 | .sl _=>Y
 | _=>Z
theorem _root_.Go.Ab.Rep.noSl{t:T}{v:Value}{F:List Nat}(h:Rep w v t F)(ht:t.isSl=Z):F=[]:=by
 cases h with
 | lit hp=>rfl
 | nil hc=>cases ht
 | cons hn h0 hk0 hk hc hm hx hcell hr=>cases ht
theorem _root_.Go.Ab.RepL.noSl{ts:List T}{vs:List Value}{F:List Nat}(h:RepL w vs ts F)(ht:ts.any T.isSl=Z):F=[]:=by
 induction vs generalizing ts F with
 | nil=>cases h;rfl
 | cons v vs ih=>
  cases h with
  | cons h hs=>
   simp only[UP,Kf]at ht;rw[h.noSl ht.1,ih hs ht.2];rfl
theorem bDy{es:List (List T)}(h:∀x∈es,x.any T.isSl=Z):es.flatten.any T.isSl=Z:=by
 rw[Da];intro t ht;obtain⟨x,hx,hm⟩:=List.mem_flatten.1 ht;have :=Da.1 (h x hx) t hm;exact this
theorem _root_.Go.Ab.RepL.sp{xs us:List Value}{ts ts':List T}{F G:List Nat}(h:RepL w xs ts F)(h':RepL w us ts' G)(off:Nat):∃F1 F3,RepL w (sp xs off us) (sp ts off ts') (F1++G++F3)/\(∀b∈F1++F3,b∈F)/\(F.Nodup->(F1++F3).Nodup):=by
 unfold Go.V.sp;rw[h'.length];obtain⟨F1,F2,F3,a1,a2,a3,a4⟩:=h.parts off ts'.length;refine⟨F1,F3,(a1.append h').append a3,?_,?_⟩
 .intro b hb;rw[a4];rcases C0.1 hb with hb | hb
  .exact Ds _ hb
  .exact D5 _ (D5 _ hb)
 .intro hnd;rw[a4]at hnd;obtain⟨n1,n2,n3⟩:=DB.1 hnd;exact DB.2 ⟨n1,(DB.1 n2).2.1,λx hx y hy=>n3 x hx y (D5 _ hy)⟩
end
end Go.V
set_option linter.unusedVariables false
set_option linter.unusedSectionVars false
namespace Go.V
open Go.Ab Go.RowKit
section
variable {M src:Nat->Prop} {c:Cx} {ow:Nat->Option Nat} {f:F} {a:Act} {w:World} {P:Program} {o:Oper} {ok:Nat->Prop}
theorem O.blk_but{c':Cx}{d:Nat}(k:c.but c' d){o b:Nat}(hne:o≠d)(x:O):x.blk c' ow o b↔x.blk c ow o b:=by
 cases x with
 | box cs=>simp[O.blk,k.loc o hne]
 | row e kk t l deep=>simp[O.blk,k.rv o hne]
 | win _ _ _=>exact Iff.rfl
theorem yT.but{c':Cx}{d o:Nat}{x:O}(h:yT M c ow w ok o x)(hne:o≠d)(hn:x.names d=Z)(k:c.but c' d):yT M c' ow w ok o x:=by
 cases x with
 | box cs=>
  obtain⟨b1,b2,vs,ty,b3,b4⟩:=h;simp only[O.names,Da]at hn;exact⟨by rw[k.loc o hne];exact b1,by rw[k.loc o hne];exact b2,vs,ty,by rw[k.loc o hne];exact b3,b4.mono λu t ht hr=>hr.but (by simpa using hn t ht) k⟩
 | row e kk t l deep=>
  obtain⟨r0,r1,r2,xs,G,r3,r4,r5,r6⟩:=h;exact⟨r0,r1,by rw[k.rv o hne];exact r2,xs,G,by rw[k.rv o hne];exact r3,r4,r5,by rw[k.rv o hne];exact r6⟩
 | win kk t l=>
  obtain⟨r0,r1,G,r2,r3,r4⟩:=h;exact⟨r0,r1,G,by rw[k.rv o hne];exact r2,r3,r4⟩
theorem yT.le{o:Nat}{x y:O}(h:yT M c ow w ok o y)(hrv:∀r,∃ad n k,c.rv r= .slice ad n k)(hle:x.le y):yT M c ow w ok o x:=by
 cases hle with
 | box hall=>
  obtain⟨b1,b2,vs,ty,b3,b4⟩:=h;exact⟨b1,b2,vs,ty,b3,b4.comp hall λu t t' hr ht=>by
   rcases ht with rfl | rfl
   .exact hr
   .exact Sn hrv hr⟩
 | row hd=>
  obtain⟨r0,r1,r2,xs,G,r3,r4,r5,r6⟩:=h;exact⟨r0,r1,r2,xs,G,r3,r4,r5,λhd'=>r6 (hd hd')⟩
 | win=>exact h
theorem O.scrub_blk(d o b:Nat)(y:O):(y.scrub d).blk c ow o b↔y.blk c ow o b:=by cases y<;>exact Iff.rfl
theorem O.scrub_isSub{d:Nat}{y:O}(h:y.isSub=Z):(y.scrub d).isSub=Z:=by
 cases y with
 | box cs=>
  simp only[O.isSub,O.scrub,Da,Ch]at h ⊢
  rintro t ⟨u,hu,rfl⟩
  have :=C.isSub_scrub (d:=d) (by simpa using h u hu);simp[this]
 | row _ _ _ _ _=>rfl
 | win _ _ _=>rfl
theorem aX.putRow(h:aX M src c ow f a w)(hsf:f.subFree){w':World}{d:Nat}{was:Option Nat}(hwas:∀b,was=U b->ow b=U d/\live c ow f.ob b){v:Value}{e k:Nat}{t:Ty}{l:List (den t)}{xs:List Value}{G:List Nat}{deep:Bool}
  (hs:w.heap.size<=w'.heap.size) (hb:∀b,b<w.heap.size->U b≠was->w'.heap[b]? =w.heap[b]?) (hv:v.ownBlock=N\/v.ownBlock=was\/v.ownBlock=U w.heap.size) (hM:∀b,v.ownBlock=U b->M b) (hown:w'.ownsRow 0 e k v l.length xs) (hk0:0<k) (hk:tyLen t=k)
  (hrep:RepL w' xs (l.map (cells t)).flatten G) (hG:∀b∈G,b<w.heap.size/\BY src c ow f.ob b) (hdeep:deep=Y->G.Nodup/\ ∀b∈G,M b/\DN w' b/\ ∃r,ow b=U r/\(r=d\/ ∀n x,(r,n,x)∉f.ob)):
  ∃ow',aX M src (c.setRv d v) ow' (f.add d (.row e k t l deep)) a w':=by
 obtain⟨ad,cap,hve,_⟩:=PK hown;have hrvs:∀q,∃ad n k,(c.setRv d v).rv q= .slice ad n k:=by
  intro q;simp only[Cx.setRv];split
  .exact⟨_,_,_,hve⟩
  .exact h.rvs q
 have kb:=c.but_rv d v;have hrv:(c.setRv d v).rv d=v:=by simp[Cx.setRv]
 let ow':Nat->Option Nat:=λb=>if v.ownBlock=U b\/(deep=Y/\b∈G) then U d else ow b
 have how:∀b o,b<w.heap.size->(∃n x,(o,n,x)∈f.ob)->o≠d->(ow' b=U o↔ow b=U o):=by
  intro b o hlt ⟨n,x,hm⟩ hne;show (if v.ownBlock=U b\/(deep=Y/\b∈G) then U d else ow b)=U o↔_;split
  .rename_i hc;constructor
   .intro e;injection e with e;exact absurd e.symm hne
   .intro e;exfalso;rcases hc with hc | ⟨hd,hbG⟩
    .rcases hv with hv | hv | hv
     .rw[hv]at hc;cases hc
     .rw[hv]at hc;rw[(hwas b hc).1]at e;injection e with e;exact hne e.symm
     .rw[hv]at hc;injection hc with hc;omega
    .obtain⟨_,_,r,q1,q2⟩:=(hdeep hd).2 b hbG;rw[q1]at e;injection e with e;subst e;rcases q2 with q2 | q2
     .exact hne q2
     .exact q2 n x hm
  .exact Iff.rfl
 have hnw:∀b,BY src c ow f.ob b->U b≠was:=λb hok e=>hok.2 (hwas b e.symm).2
 have hlv:∀b,b<w.heap.size->live (c.setRv d v) ow' (f.add d (.row e k t l deep)).ob b->live c ow f.ob b:=by
  rintro b hlt ⟨o,n,x,hm,hx⟩
  rcases Cl.1 hm with he | hm
  .injection he with e1 he;injection he with _ e2;subst e1 e2;have hx:((c.setRv o v).rv o).ownBlock=U b:=hx;rw[hrv]at hx;rcases hv with hv | hv | hv
   .rw[hv]at hx;cases hx
   .rw[hv]at hx;exact (hwas b hx).2
   .rw[hv]at hx;injection hx with hx;omega
  .obtain⟨hne,m,y,hy,rfl⟩:=fW hm;refine⟨o,m,y,hy,?_⟩;rw[O.scrub_blk]at hx;cases y with
   | box _=>exact (O.blk_but kb hne (.box _)).1 hx
   | row _ _ _ _ _=>exact (O.blk_but (ow:=ow') kb hne _).1 hx
   | win _ _ _=>exact (how b o hlt ⟨m,_,hy⟩ hne).1 hx
 have kp:Ix w w' (BY src c ow f.ob) (BY src (c.setRv d v) ow' (f.add d (.row e k t l deep)).ob):=⟨hs,λb hlt hok=>hb b hlt (hnw b hok),λb hlt hok=>⟨hok.1,λhl=>hok.2 (hlv b hlt hl)⟩⟩
 refine⟨ow',h.defers,λs n x hm=> ?_,λo n x hm=> ?_,λo n x m y hx hy=> ?_,hrvs⟩
 .have hm1:=(C2.1 hm).1;have hm2:x.names d=Z:=by simpa using (C2.1 hm).2
  obtain⟨u,hu,h1⟩:=h.fr s n x hm1;exact⟨u,hu,(h1.but hm2 kb).keep (hsf.1 s n x hm1) kp⟩
 .rcases Cl.1 hm with he | hm
  .injection he with e1 he;injection he with _ e2;subst e1 e2;refine⟨hk0,hk,λg hg=> ?_,xs,G,by rw[hrv];exact hown,hrep,λb hbG=>kp.good b (hG b hbG).1 (hG b hbG).2,λhd=> ?_⟩
   .rw[hrv]at hg;exact⟨hM g hg,by simp[ow',hg]⟩
   .obtain⟨hnd,hall⟩:=hdeep hd;refine⟨hnd,λb hbG=> ?_⟩;obtain⟨q1,q2,_⟩:=hall b hbG;refine⟨q1,by simp[ow',hd,hbG],?_,q2⟩;rw[hrv];intro hvb;obtain⟨hlt,hok⟩:=hG b hbG;rcases hv with hv | hv | hv
    .rw[hv]at hvb;cases hvb
    .rw[hv]at hvb;exact hnw b hok hvb.symm
    .rw[hv]at hvb;injection hvb with hvb;omega
  .obtain⟨hne,m,y,hy,rfl⟩:=fW hm;have h1:=((h.ob o m y hy).le h.rvs (O.scrub_le d y)).but hne (O.scrub_names y d) kb;refine h1.keep (O.scrub_isSub (hsf.2 o m y hy)) kp (λb hlt how' hbb=>hb b hlt λe=> ?_) (λb hlt how'=>(how b o hlt ⟨m,y,hy⟩ hne).2 how');rw[(hwas b e.symm).1]at how';injection how' with how';exact hne how'.symm
 .rcases Cl.1 hx with he | hx1
  .injection he with e1 e2;injection e2 with _ e2;rcases Cl.1 hy with he' | hy1
   .injection he' with e3 e4;injection e4 with _ e4;rw[e2,e4]
   .exact absurd e1 (fW hy1).1
  .rcases Cl.1 hy with he' | hy1
   .injection he' with e3 e4;exact absurd e3 (fW hx1).1
   .obtain⟨_,_,x',hx',rfl⟩:=fW hx1;obtain⟨_,_,y',hy',rfl⟩:=fW hy1;rw[h.uniq _ _ _ _ _ hx' hy']
def Fd(M:Nat->Prop)(c:Cx)(ow:Nat->Option Nat)(w:World)(ok:Nat->Prop)(ids:List Nat)(dp:Bool)(G:List Nat):Prop:=
 (∀b∈G,ok b\/ ∃r∈ids,(c.rv r).ownBlock=U b)/\(dp=Y->G.Nodup/\ ∀b∈G,M b/\DN w b/\ ∃r∈ids,ow b=U r)
theorem Fd.append{i1 i2:List Nat}{d1 d2:Bool}{G H:List Nat}(h1:Fd M c ow w ok i1 d1 G)(h2:Fd M c ow w ok i2 d2 H)(hn:(i1++i2).Nodup):Fd M c ow w ok (i1++i2) (d1&&d2) (G++H):=by
 refine⟨λb hb=> ?_,λhd=> ?_⟩
 .rcases C0.1 hb with hb | hb
  .exact (h1.1 b hb).imp id λ⟨r,hr,he⟩=>⟨r,Ds _ hr,he⟩
  .exact (h2.1 b hb).imp id λ⟨r,hr,he⟩=>⟨r,D5 _ hr,he⟩
 .simp only[Ck]at hd;obtain⟨n1,a1⟩:=h1.2 hd.1;obtain⟨n2,a2⟩:=h2.2 hd.2;refine⟨DB.2 ⟨n1,n2,λx hx y hy hxy=> ?_⟩,λb hb=> ?_⟩
  .subst hxy;obtain⟨_,_,r1,hr1,e1⟩:=a1 x hx;obtain⟨_,_,r2,hr2,e2⟩:=a2 x hy;rw[e1]at e2;injection e2 with e2;subst e2;exact (DB.1 hn).2.2 r1 hr1 r1 hr2 rfl
  .rcases C0.1 hb with hb | hb
   .obtain⟨p1,p2,r,hr,he⟩:=a1 b hb;exact⟨p1,p2,r,Ds _ hr,he⟩
   .obtain⟨p1,p2,r,hr,he⟩:=a2 b hb;exact⟨p1,p2,r,D5 _ hr,he⟩
theorem RW(h:aX M src c ow f a w){r e k:Nat}{t:Ty}{l:List (den t)}{deep:Bool}(hr:f.obj r=U (.row e k t l deep)):∃G,Rep w (c.rv r) (fX (.sl t) l) G/\Fd M c ow w (BY src c ow f.ob) [r] deep G:=by
 obtain⟨r0,r1,r2,xs,G,r3,r4,r5,r6⟩:=h.obj hr;have hkk:∀z∈l.map (cells t),z.length=k:=λz hz=>by obtain⟨y,_,rfl⟩:=Ch.1 hz;rw[dI,r1]
 obtain⟨hl,hform⟩:=r3;rcases hform with ⟨hnil,h0⟩ | ⟨g,cap,cur,hrv,hB,hh,h1,h2,h3,h4⟩
 .have :l=[]:=P8.1 h0;subst this;rw[hnil];exact⟨[],.nil (C3 _),by simp,λ_=>by simp⟩
 .rcases P7 l.length with h0 | h0
  .have :l=[]:=P8.1 h0;subst this;rw[hrv];exact⟨[],.nil h2,by simp,λ_=>by simp⟩
  .have hob:(c.rv r).ownBlock=U g:=by simp[hrv,Value.ownBlock]
   refine⟨g::G,?_,λb hb=> ?_,λhd=> ?_⟩
   .rw[hrv];refine .cons (k:=k) (by simp) h0 r0 hkk h1 h2 hl (λj u hu=> ?_) r4;rw[Dc];rw[<- h4,Ft]at hu;split at hu
    .simp only[World.cell?,hh];simpa using hu
    .cases hu
   .rcases Cl.1 hb with rfl | hb
    .exact .inr ⟨r,Cy.2 rfl,hob⟩
    .exact .inl (r5 b hb)
   .obtain⟨n1,n2⟩:=r6 hd;refine⟨EW.2 ⟨λhg=>(n2 g hg).2.2.1 hob,n1⟩,λb hb=> ?_⟩;rcases Cl.1 hb with rfl | hb
    .exact⟨(r2 _ hob).1,⟨cur,e,hh⟩,r,Cy.2 rfl,(r2 _ hob).2⟩
    .obtain⟨m1,m2,m3,m4⟩:=n2 b hb;exact⟨m1,m4,r,Cy.2 rfl,m2⟩
theorem bT0:∀{t:Ty} {x:den t} {v:Value} {G:List Nat},Rep w v (fX t x) G->(∀t',t≠ .sl t')->G=[]
 | .int _,_,_,_,h,_=>by cases h;rfl
 | .bool,_,_,_,h,_=>by cases h;rfl
 | .str,_,_,_,h,_=>by cases h;rfl
 | .sl t,_,_,_,h,hn=>absurd rfl (hn t)
 | .pair _ _,_,_,_,h,_=>by cases h
theorem bT2(h:aX M src c ow f a w){t:Ty}{x:C}{y:den t}{v:Value}{ids:List Nat}{dp:Bool}(hm:R5 f x=U (ids,dp))(hd:f.data t x=U y)(hv:aW c ow w (BY src c ow f.ob) v x):∃G,Rep w v (fX t y) G/\Fd M c ow w (BY src c ow f.ob) ids dp G:=by
 unfold F.data at hd;split at hd
 .rename_i t' z;obtain⟨rfl,rfl⟩:=gP hd;obtain⟨G,hr,hG⟩:=hv;cases t' with
  | sl t'=>
   injection hm with hm;injection hm with e1 e2;subst e1 e2;exact⟨G,hr,λb hb=> .inl (hG b hb),λh=>by cases h⟩
  | _=>
   injection hm with hm;injection hm with e1 e2;subst e1 e2;have hG0:=bT0 hr (by simp);subst hG0;exact⟨[],hr,by simp,λ_=>by simp⟩
 .split at hd
  .injection hm with hm;injection hm with e1 e2;subst e1 e2;injection hd with hd;subst hd;have hv:v= .slice N 0 0:=hv;subst hv;exact⟨[],.nil (C3 _),by simp,λ_=>by simp⟩
  .cases hd
 .rename_i r;have hv:v=c.rv r:=hv;subst hv;simp only[R5]at hm;split at hd
  .rename_i e k t' l deep hrow;obtain⟨rfl,rfl⟩:=gP hd;rw[hrow]at hm;injection hm with hm;injection hm with e1 e2;subst e1 e2;exact RW h hrow
  .rename_i k t' l hrow;rw[hrow]at hm;cases hm
  .cases hd
 .cases hm
 .cases hd
theorem cF3{x:C}{ids:List Nat}{dp:Bool}(hm:R5 f x=U (ids,dp)):∀r∈ids,∃n e k,∃(t:Ty) (l:List (den t)),∃deep,(r,n,O.row e k t l deep)∈f.ob:=by
 cases x with
 | row r=>
  simp only[R5]at hm;split at hm
  .rename_i e k t l deep hrow;injection hm with hm;injection hm with e1 e2;subst e1 e2;obtain⟨n,hm⟩:=vE hrow;intro r' hr';rw[Cy.1 hr'];exact⟨n,e,k,t,l,deep,hm⟩
  .cases hm
 | v t y=>cases t<;>(injection hm with hm;injection hm with e1 e2;subst e1;simp)
 | nil=>injection hm with hm;injection hm with e1 e2;subst e1;simp
 | ptr _ _=>cases hm
 | ep _ _ _=>cases hm
 | rp _ _ _ _=>cases hm
 | sub _ _ _ _ _ _=>cases hm
 | ip _ _ _ _ _ _ _=>cases hm
 | clo _ _=>cases hm
 | rc _ _ _ _=>cases hm
 | any=>cases hm
theorem bIi:∀{cs:List C} {ids:List Nat} {dp:Bool},I9 f cs=U (ids,dp)-> ∀r∈ids,∃n e k,∃(t:Ty) (l:List (den t)),∃deep,(r,n,O.row e k t l deep)∈f.ob:=by
 intro cs
 induction cs with
 | nil=>intro ids dp hm;injection hm with hm;injection hm with e1 e2;subst e1;simp
 | cons x xs ih=>
  intro ids dp hm;unfold I9 at hm;split at hm
  .rename_i i1 d1 i2 d2 h1 h2;injection hm with hm;injection hm with e1 e2;subst e1;intro r hr;exact (C0.1 hr).elim (cF3 h1 r) (ih h2 r)
  .cases hm
theorem Jh{α β:Type}{x:Option α}{cs r:β}{y:α}(h:x.map (λz=>(z,cs))=U (y,r)):x=U y/\cs=r:=by
 obtain⟨z,hz,he⟩:=CX.1 h;injection he with e1 e2;subst e1 e2;exact⟨hz,rfl⟩
theorem Vd:∀{t:Ty} {us r:List C} {y:den t} (rest:List C),f.dataL t us=U (y,r)->f.dataL t (us++rest)=U (y,r++rest)
 | .int k,[],r,y,rest,h=>by cases h
 | .bool,[],r,y,rest,h=>by cases h
 | .str,[],r,y,rest,h=>by cases h
 | .sl t,[],r,y,rest,h=>by cases h
 | .int k,c::cs,r,y,rest,h=>by obtain⟨h1,rfl⟩:=Jh h;show (f.data _ c).map (λz=>(z,cs++rest))=_;rw[h1];rfl
 | .bool,c::cs,r,y,rest,h=>by obtain⟨h1,rfl⟩:=Jh h;show (f.data _ c).map (λz=>(z,cs++rest))=_;rw[h1];rfl
 | .str,c::cs,r,y,rest,h=>by obtain⟨h1,rfl⟩:=Jh h;show (f.data _ c).map (λz=>(z,cs++rest))=_;rw[h1];rfl
 | .sl t,c::cs,r,y,rest,h=>by obtain⟨h1,rfl⟩:=Jh h;show (f.data _ c).map (λz=>(z,cs++rest))=_;rw[h1];rfl
 | .pair a b,us,r,y,rest,h=>by
  simp only[F.dataL]at h ⊢;split at h
  .rename_i x cs1 h1;split at h
   .rename_i z cs2 h2;injection h with h;injection h with e1 e2;subst e1 e2;rw[Vd rest h1];simp only;rw[Vd rest h2]
   .cases h
  .cases h
theorem VD:∀{t:Ty} {cs rest:List C} {y:den t},f.dataL t cs=U (y,rest)-> ∃us,cs=us++rest/\us.length=tyLen t/\f.dataL t us=U (y,[])
 | .int k,[],rest,y,h=>by cases h
 | .bool,[],rest,y,h=>by cases h
 | .str,[],rest,y,h=>by cases h
 | .sl t,[],rest,y,h=>by cases h
 | .int k,c::cs,rest,y,h=>by obtain⟨h1,rfl⟩:=Jh h;exact⟨[c],rfl,rfl,by show (f.data _ c).map (λz=>(z,[]))=_;rw[h1];rfl⟩
 | .bool,c::cs,rest,y,h=>by obtain⟨h1,rfl⟩:=Jh h;exact⟨[c],rfl,rfl,by show (f.data _ c).map (λz=>(z,[]))=_;rw[h1];rfl⟩
 | .str,c::cs,rest,y,h=>by obtain⟨h1,rfl⟩:=Jh h;exact⟨[c],rfl,rfl,by show (f.data _ c).map (λz=>(z,[]))=_;rw[h1];rfl⟩
 | .sl t,c::cs,rest,y,h=>by obtain⟨h1,rfl⟩:=Jh h;exact⟨[c],rfl,rfl,by show (f.data _ c).map (λz=>(z,[]))=_;rw[h1];rfl⟩
 | .pair a b,cs,rest,y,h=>by
  simp only[F.dataL]at h;split at h
  .rename_i x cs1 h1;split at h
   .rename_i z cs2 h2;injection h with h;injection h with e1 e2;subst e1 e2;obtain⟨u1,rfl,l1,g1⟩:=VD h1;obtain⟨u2,rfl,l2,g2⟩:=VD h2;refine⟨u1++u2,by simp,by simp[tyLen,l1,l2],?_⟩;simp only[F.dataL];rw[Vd u2 g1];simp only[CH];rw[g2]
   .cases h
  .cases h
theorem bQr{a b:Ty}{cs:List C}{y:den (.pair a b)}(h:f.dataL (.pair a b) cs=U (y,[])):∃u1 u2,cs=u1++u2/\u1.length=tyLen a/\f.dataL a u1=U (y.1,[])/\f.dataL b u2=U (y.2,[]):=by
 simp only[F.dataL]at h;split at h
 .rename_i x cs1 h1;split at h
  .rename_i z cs2 h2;injection h with h;injection h with e1 e2;subst e1 e2;obtain⟨u1,rfl,l1,g1⟩:=VD h1;exact⟨u1,cs1,rfl,l1,g1,h2⟩
  .cases h
 .cases h
theorem RX{t:Ty}(ht:∀a b,t≠ .pair a b){cs:List C}{y:den t}(h:f.dataL t cs=U (y,[])):∃x,cs=[x]/\f.data t x=U y:=by
 cases t with
 | pair a b=>exact absurd rfl (ht a b)
 | _=>
  cases cs with
  | nil=>cases h
  | cons x xs=>obtain⟨h1,h2⟩:=Jh h;subst h2;exact⟨x,rfl,h1⟩
theorem bAi:∀{cs:List C} {ids:List Nat} {dp:Bool},I9 f cs=U (ids,dp)->cs.all C.solid=Y/\cs.any C.isSub=Z:=by
 intro cs
 induction cs with
 | nil=>intros;exact⟨rfl,rfl⟩
 | cons x xs ih=>
  intro ids dp h;unfold I9 at h;split at h
  .rename_i i1 d1 i2 d2 h1 h2;obtain⟨g1,g2⟩:=ih h2;refine⟨?_,?_⟩
   .simp only[Mk,Ck];exact⟨by cases x<;>first | rfl | (cases h1;done),g1⟩
   .simp only[UP,Kf];exact⟨by cases x<;>first | rfl | (cases h1;done),g2⟩
  .cases h
theorem Fd.frozen(h:aX M src c ow f a w)(hsrc:∀b,M b->src b){ids all:List Nat}{dp:Bool}{G:List Nat}(hsub:∀r∈ids,r∈all)(hids:∀r∈ids,∃n e k,∃(t:Ty) (l:List (den t)),∃deep,(r,n,O.row e k t l deep)∈f.ob)(ht:Fd M c ow w (BY src c ow f.ob) ids dp G):
  (∀b∈G,BY src c ow (f.frzAll all).ob b)/\(dp=Y->G.Nodup/\ ∀b∈G,M b/\DN w b/\ ∃r,ow b=U r/\ ∀n x,(r,n,x)∉(f.frzAll all).ob):=by
 refine⟨λb hb=> ?_,λhd=> ?_⟩
 .rcases ht.1 b hb with hok | ⟨r,hr,he⟩
  .exact⟨hok.1,λhl=>hok.2 (aWd hl)⟩
  .obtain⟨n,e,k,t,l,deep,hm⟩:=hids r hr;exact (bBb h hsrc (hsub r hr) hm).1 b he
 .obtain⟨n1,n2⟩:=ht.2 hd;refine⟨n1,λb hb=> ?_⟩;obtain⟨m1,m2,r,hr,he⟩:=n2 b hb;obtain⟨n,e,k,t,l,deep,hm⟩:=hids r hr;exact⟨m1,m2,r,he,(bBb h hsrc (hsub r hr) hm).2⟩
end
end Go.V
set_option linter.unusedVariables false
set_option linter.unusedSectionVars false
namespace Go.V
open Go.Ab Go.RowKit
theorem qI.alloc{M:Nat->Prop}{a w:World}(h:qI M a w)(o:Obj):qI M a (w.alloc o):=
 h.trans ⟨rfl,rfl,rfl,by simp,λk hk _=>Below.heap_alloc _ _ _ hk⟩
theorem qI.grown{M:Nat->Prop}{a w w':World}{row:Option Nat}(h:qI M a w)(hg:w.grownBy w' row)(hr:∀k,row=U k->M k):qI M a w':=
 h.trans ⟨hg.os,hg.tape,hg.output,hg.size,λk hk hm=>hg.block k hk (λe=>hm (hr k e.symm))⟩
def Ei:Value->Option Nat
 | .slice (U ad) _ _=>U ad.block
 | .pointer (U ad)=>U ad.block
 | _=>N
structure IL (E:List Con) (o:Oper) (a:Act) (w:World) (a':Act) (w':World):Prop where
 stays:ED E o.op=Z->FG w w'
 put:∃u,a'=a.put o.dst u/\(Ls o.op=Y-> ∀b,Ei u=U b->w.heap.size<=b)/\(E1 o.op=Y-> ∀x,vD o.op=U x-> ∀b,Ei u=U b->w.heap.size<=b\/Ei (a.eval x)=U b)
 app:∀x,vD o.op=U x-> ∀b,b<w.heap.size->(∀b',Ei (a.eval x)=U b'->b≠b')->w'.heap[b]? =w.heap[b]?
 size:w.heap.size<=w'.heap.size
theorem Qr{E:List Con}{o:Oper}{a:Act}{w w':World}{d:Nat}{v:Value}(hdst:o.dst=U d)(hst:FG w w')(hsz:w.heap.size<=w'.heap.size)(hna:vD o.op=N)(hal:Ls o.op=Y-> ∀b,Ei v=U b->w.heap.size<=b):IL E o a w (a.put (U d) v) w':=
 ⟨λ_=>hst,⟨v,by rw[hdst],hal,λ_ x hx=>by rw[hna]at hx;cases hx⟩,(λx hx=>by rw[hna]at hx;cases hx),hsz⟩
theorem RP{E:List Con}{o:Oper}{a:Act}{w w':World}{t:TypeId}{p x:Operand}(hop:o.op= .store t p x)(hdst:o.dst=N)(hsz:w.heap.size<=w'.heap.size)(hb:∀b,b<w.heap.size->(∀b',Ei (a.eval p)=U b'->b≠b')->w'.heap[b]? =w.heap[b]?):IL E o a w a w':=
 ⟨(λhw=>by rw[hop]at hw;cases hw),⟨undef,by rw[hdst];rfl,(λha=>by rw[hop]at ha;cases ha),λha=>by rw[hop]at ha;cases ha⟩,(λy hy=>by rw[hop]at hy;injection hy with hy;subst hy;exact hb),hsz⟩
def DF{R:Type}(X:Dn)(E:List Con)(o:Oper)(a:Act)(w:World)(f:F)(K:F->Option R)(r:R):Prop:=
 ∃g,K g=U r/\Ce f g/\ ∀(Kp:Act->World->Prop) (Q:Exit->Act->World->Prop),(∀a' w',At X g a' w'->IL E o a w a' w'->Kp a' w')->o.wp X.P a w Kp Q
section
variable {X:Dn} {E:List Con} {f:F} {a:Act} {w:World} {o:Oper} {R:Type} {K:F->Option R} {r:R}
theorem At.hM(h:At X f a w):X.M w.heap.size:=X.hM _ h.2.1.size
theorem bVw{cs:List C}(h:cs.any C.isSub=Z):∀x∈cs,x.isSub=Z:=λx hx=>by simpa using Da.1 h x hx
theorem WQ(hsf:f.subFree){x:Operand}{s:S}(h:f.get x=U s):s.isSub=Z:=by
 cases x with
 | tmp t=>obtain⟨n,hm⟩:=M9 h;exact hsf.1 _ _ _ hm
 | const v=>
  simp only[F.get]at h;unfold Tc at h;split at h
  .split at h
   .injection h with h;subst h;rfl
   .cases h
  .injection h with h;subst h;rfl
  .split at h
   .injection h with h;subst h;rfl
   .cases h
  .injection h with h;subst h;rfl
  .injection h with h;subst h;rfl
  .cases h
 | global g=>cases h
 | func f=>cases h
theorem V6{y:A}(h:(S.val y).isSub=Z):∀x∈y.cells,x.isSub=Z:=by
 cases y with
 | one c=>intro x hx;rw[Cy.1 hx];exact h
 | agg cs=>exact bVw h
theorem cId(v:Value):(zC v).isSub=Z:=by
 unfold zC
 repeat' split
 all_goals rfl
theorem bQp(h:At X f a w)(hsf:f.subFree){t:TypeId}{d:Nat}{i:TypeInfo}{z:Value}(hop:o.op= .alloc t)(hdst:o.dst=U d)(hd:kQ X.n o.dst=Y)(hi:X.P.info? t=U i)(hz:i.zero=U z)(hz1:z.cells.toList.all Value.oneCell'=Y)(hp:pinned d=Z)
  (hk:K (f.newOb d (.box ((z.cells.toList.map zC).map (wR d))) (.ptr d 0))=U r):DF X E o a w f K r:=by
 refine⟨_,hk,Ce.newOb f d _ _,λKp Q hK=> ?_⟩;obtain⟨⟨c,ow,hs,hpin⟩,hb,hn⟩:=id h;have hlt:d<a.tmps.size:=by rw[hn];rw[hdst]at hd;exact yS hd
 obtain⟨ow',h1⟩:=aUx hs hsf hlt t (V8 (c:=c) (ow:=ow) (w:=w) (ok:=BY X.src c ow f.ob) z.cells.toList hz1) (λx hx=>by obtain⟨v,_,rfl⟩:=Ch.1 hx;exact cId v) h.hM;unfold Oper.wp;have hrun:(execOp a.eval o).run X.P w= .ok (.value (.pointer (U ⟨w.heap.size,0,N⟩))) (w.alloc (.cells z.cells t (0,0))):=by
  simp[execOp,hop,Instr.alloc,zeroValue,typeInfo,hi,hz,aYz]
 rw[hrun];simp only[Oper.upon,hdst];refine hK _ _ ⟨⟨_,ow',by simpa using h1,hpin.loc hp _⟩,hb.alloc _,by rw[HW];exact hn⟩ (Qr hdst (λb hb'=>Below.heap_alloc _ _ _ hb') (by simp) (by rw[hop];rfl) (λ_ b hb0=>by injection hb0 with hb0;exact ID hb0))
theorem bZw(h:At X f a w)(hsf:f.subFree){t:TypeId}{x:Operand}{d:Nat}{y:A}(hop:o.op= .box t x)(hdst:o.dst=U d)(hd:kQ X.n o.dst=Y)(hx:f.get x=U (.val y))(hsol:y.cells.all C.solid=Y)(hp:pinned d=Z)
  (hk:K (f.newOb d (.box (y.cells.map (wR d))) (.ptr d 0))=U r):DF X E o a w f K r:=by
 refine⟨_,hk,Ce.newOb f d _ _,λKp Q hK=> ?_⟩;obtain⟨⟨c,ow,hs,hpin⟩,hb,hn⟩:=id h;have hlt:d<a.tmps.size:=by rw[hn];rw[hdst]at hd;exact yS hd
 obtain⟨vs,hvs,hall,_⟩:=NK hs.rvs (hs.get hx) hsol;obtain⟨ow',h1⟩:=aUx hs hsf hlt t hall (V6 (WQ hsf hx)) h.hM;unfold Oper.wp;have hrun:(execOp a.eval o).run X.P w= .ok (.value (.pointer (U ⟨w.heap.size,0,N⟩))) (w.alloc (.cells vs.toArray t (0,0))):=by
  simp[execOp,hop,Instr.box,aYz,hvs]
 rw[hrun];simp only[Oper.upon,hdst];exact hK _ _ ⟨⟨_,ow',h1,hpin.loc hp _⟩,hb.alloc _,by rw[HW];exact hn⟩ (Qr hdst (λb hb'=>Below.heap_alloc _ _ _ hb') (by simp) (by rw[hop];rfl) (λ_ b hb0=>by injection hb0 with hb0;exact ID hb0))
theorem iV{i:Nat}{x:O}{o' n:Nat}{y:O}(h:(o',n,y)∈(f.setOb i x).ob):(o'≠i/\(o',n,y)∈f.ob)\/(o'=i/\y=x):=by
 simp only[F.setOb,Ch]at h;obtain⟨⟨o1,m,z⟩,hz,he⟩:=h;split at he
 .injection he with e1 he;injection he with _ e2;exact .inr ⟨e1.symm,e2.symm⟩
 .rename_i hne;injection he with e1 he;injection he with e2 e3;subst e1 e2 e3;exact .inl ⟨hne,hz⟩
theorem Ce.setOb(f:F)(i:Nat)(x:O):Ce f (f.setOb i x):=by
 refine⟨Et _,λ_ _ _ h _=>h,λo n y hm hn=> ?_⟩;simp only[F.setOb,Ch]at hm;obtain⟨⟨o1,m,z⟩,hz,he⟩:=hm;split at he
 .injection he with _ he;injection he with e _;omega
 .rw[<- he];exact hz
theorem aX.turn{M src:Nat->Prop}{c:Cx}{ow ow':Nat->Option Nat}(h:aX M src c ow f a w)(hsf:f.subFree){i n:Nat}{x y:O}{w':World}(hx:(i,n,x)∈f.ob)(hs:w.heap.size<=w'.heap.size)(hb:∀b,b<w.heap.size-> ¬ x.blk c ow i b->w'.heap[b]? =w.heap[b]?)
  (hbl:∀b,b<w.heap.size->y.blk c ow' i b->x.blk c ow i b) (how:∀b o,b<w.heap.size->o≠i->(∃m z,(o,m,z)∈f.ob)->(ow' b=U o↔ow b=U o))
  (hy:∀ok',(∀b,b<w.heap.size->BY src c ow f.ob b->ok' b)->(ok'=BY src c ow' (f.setOb i y).ob)->yT M c ow' w' ok' i y):aX M src c ow' (f.setOb i y) a w':=by
 have hl:∀b,b<w.heap.size->live c ow' (f.setOb i y).ob b->live c ow f.ob b:=by
  rintro b hlt ⟨o,m,z,hm,hz⟩
  rcases iV hm with ⟨hne,hm⟩ | ⟨rfl,rfl⟩
  .refine⟨o,m,z,hm,?_⟩;cases z with
   | box _=>exact hz
   | row _ _ _ _ _=>exact hz
   | win _ _ _=>exact (how b o hlt hne ⟨m,_,hm⟩).1 hz
  .exact⟨o,n,x,hx,hbl b hlt hz⟩
 refine h.step hsf hs (λb hlt hnl=>hb b hlt λhxb=>hnl ⟨i,n,x,hx,hxb⟩) hl (λo m z hm=> ?_) (λo m z m' z' hm hm'=> ?_)
 .rcases iV hm with ⟨hne,hm⟩ | ⟨rfl,rfl⟩
  .exact .inl ⟨⟨m,hm⟩,λb hlt hown hzb=>hb b hlt λhxb=>hne (h.apart hm hx hzb hxb),λb hlt hown=>(how b o hlt hne ⟨m,z,hm⟩).2 hown⟩
  .exact .inr (hy _ (λb hlt hok=>⟨hok.1,λhl'=>hok.2 (hl b hlt hl')⟩) rfl)
 .rcases iV hm with ⟨hne,hm⟩ | ⟨e1,rfl⟩
  .rcases iV hm' with ⟨_,hm'⟩ | ⟨e2,_⟩
   .exact h.uniq _ _ _ _ _ hm hm'
   .exact absurd e2 hne
  .rcases iV hm' with ⟨hne,_⟩ | ⟨_,rfl⟩
   .exact absurd e1 hne
   .rfl
theorem bFw(h:At X f a w)(hsf:f.subFree){t:TypeId}{p x:Operand}{i off:Nat}{y:A}{inf:TypeInfo}{cs:List C}(hop:o.op= .store t p x)(hdst:o.dst=N)(hp:f.getC p=U (.ptr i off))(hx:f.get x=U (.val y))(hi:X.P.info? t=U inf)(hbx:f.obj i=U (.box cs))
  (c1:y.cells.length=inf.size) (c2:off+y.cells.length<=cs.length) (c3:y.cells.all C.solid=Y) (hk:K (f.setOb i (.box (sp cs off y.cells)))=U r):DF X E o a w f K r:=by
 refine⟨_,hk,Ce.setOb f i _,λKp Q hK=> ?_⟩;obtain⟨⟨c,ow,hs,hpin⟩,hb,hn⟩:=id h;have hpv:a.eval p= .pointer (U ⟨c.loc i,off,N⟩):=hs.getC hp;obtain⟨us,hvs,hall,hone⟩:=NK hs.rvs (hs.get hx) c3;obtain⟨n,hmem⟩:=vE hbx;have hbxo:Hg X.M c ow w (BY X.src c ow f.ob) i cs:=hs.ob _ _ _ hmem;have hlt:=hbxo.lt;obtain⟨b1,b2,vs,ty,hh,ha⟩:=hbxo;have hlen:us.length=y.cells.length:=hall.length;have hvl:vs.length=cs.length:=ha.length;have hrun:=run_storeCells_at (P:=X.P) (c.loc i) off ty us 0 vs.toArray w hh (by simp;omega) hone;simp only[ZB]at hrun;have hother:∀b,b≠c.loc i->(w.setRow (c.loc i) (vs.take off++us++vs.drop (off+us.length)).toArray).heap[b]? =w.heap[b]? :=by
  intro b hne;simp only[World.setRow,ZF];rw[zS (Ne.symm hne)]
 have hsz:(w.setRow (c.loc i) (vs.take off++us++vs.drop (off+us.length)).toArray).heap.size=w.heap.size:=by simp[World.setRow]
 have h1:=hs.turn hsf (ow':=ow) (y:= .box (sp cs off y.cells)) (w':=w.setRow (c.loc i) (vs.take off++us++vs.drop (off+us.length)).toArray) hmem (by omega) (λb hlt hnb=>hother b λe=>hnb e.symm) (λb _ hy=>hy) (λb o _ _ _=>Iff.rfl) (λok' hok' hokeq=>by
  refine⟨b1,b2,_,ty,setRow_heap w _ _ _ ty _ hh,?_⟩;have hal:=ha.sp hall off;unfold sp at hal ⊢;have hsub1:=hsf.2 _ _ _ hmem;have hsub2:=V6 (WQ hsf hx);simp only[O.isSub,Da]at hsub1;refine hal.mono λu z hz hr=>hr.keep ?_ ⟨by omega,λb hlt' hok=>hother b λe=>hok.2 ⟨i,n,_,hmem,e.symm⟩,hok'⟩
  rcases C0.1 hz with hz | hz
  .rcases C0.1 hz with hz | hz
   .simpa using hsub1 z (IE hz)
   .exact hsub2 z hz
  .simpa using hsub1 z (IH hz))
 unfold Oper.wp;have hlen':us.length=inf.size:=by omega
 have hrun':(execOp a.eval o).run X.P w= .ok .skip (w.setRow (c.loc i) (vs.take off++us++vs.drop (off+us.length)).toArray):=by
  simp[execOp,hop,Instr.storeAt,hpv,Instr.sureAddr,storeVar,mH hi,hvs,hlen',hrun]
 rw[hrun'];simp only[Oper.upon,hdst];exact hK _ _ ⟨⟨c,ow,h1,hpin⟩,hb.trans ⟨rfl,rfl,rfl,by omega,λk hk hm=>hother k λe=>hm (e▸b1)⟩,hn⟩ (RP hop hdst (by omega) λb _ hne=>hother b (hne _ (by rw[hpv];rfl)))
end
end Go.V
set_option linter.unusedVariables false
set_option linter.unusedSectionVars false
namespace Go.V
open Go.Ab Go.RowKit
section
variable {X:Dn} {E:List Con} {f:F} {a:Act} {w:World} {o:Oper} {R:Type} {K:F->Option R} {r:R}
theorem aQa{ids:List Nat}{q n e k:Nat}{t:Ty}{l:List (den t)}{deep:Bool}(hr:ids.contains q=Z)(hm:(q,n,O.row e k t l deep)∈f.ob):∃m,(q,m,O.row e k t l deep)∈(f.frzAll ids).ob:=by
 induction ids generalizing f n with
 | nil=>exact⟨n,hm⟩
 | cons i is ih=>
  simp only[List.contains_cons,Kf]at hr;have hx:∃m,(q,m,O.row e k t l deep)∈(f.frzRow i).ob:=by
   unfold F.frzRow;split
   .refine⟨n,?_⟩;simp only[Ch,C2];exact⟨(q,n,.row e k t l deep),⟨hm,by simpa using hr.1⟩,by simp[O.names]⟩
   .exact⟨n,hm⟩
  obtain⟨m,hm'⟩:=hx;exact ih (f:=f.frzRow i) hr.2 hm'
theorem PX{t:Ty}{l:List (den t)}(i:Nat)(z:den t):(l.set i z).map (cells t)=(l.map (cells t)).set i (cells t z):=by rw[List.map_set]
theorem bCj{M src:Nat->Prop}{c:Cx}{ow:Nat->Option Nat}{P:Program}(h:aX M src c ow f a w)(hsf:f.subFree){q n e k:Nat}{t:Ty}{l:List (den t)}{deep:Bool}(hr:(q,n,.row e k t l deep)∈f.ob){i off:Nat}{z:den t}{ts:List T}{us:List Value}{G:List Nat}{dp:Bool}(hi:i<l.length)(ho:off+ts.length<=k)
  (hz:(cells t z)=sp (cells t l[i]) off ts) (hu:RepL w us ts G) (hG:∀b∈G,BY src c ow f.ob b) (hdp:dp=Y->G.Nodup/\ ∀b∈G,M b/\DN w b/\ ∃r',ow b=U r'/\ ∀n x,(r',n,x)∉f.ob) {g b0 nn cap:Nat} (hrv:c.rv q= .slice (U ⟨g,b0,N⟩) nn cap):
  ∃w' ow',(storeCells ⟨g,b0+(i * k+off),N⟩ us).run P w= .ok () w'/\aX M src c ow' (f.setOb q (.row e k t (l.set i z) (deep&&dp))) a w'/\qI M w w'/\ ∀b,b≠g->w'.heap[b]? =w.heap[b]? :=by
 obtain⟨r0,r1,r2,xs,F1,r3,r4,r5,r6⟩:=h.ob _ _ _ hr;have hkk:∀y∈l.map (cells t),y.length=k:=λy hy=>by obtain⟨y',_,rfl⟩:=Ch.1 hy;rw[dI,r1]
 have hob:(c.rv q).ownBlock=U g:=by simp[hrv,Value.ownBlock]
 have hglt:=(NN r3 hob).1;obtain⟨hMg,howg⟩:=r2 g hob;have r3':=r3;obtain⟨hxl,hform⟩:=r3;rcases hform with ⟨hn,_⟩ | ⟨g',cap',cur,hrv',_,hh,h1,h2,h3,h4⟩
 .rw[hrv]at hn;cases hn
 .rw[hrv]at hrv';injection hrv' with e1 e2 e3;injection e1 with e1;injection e1 with e1 e0 _;subst e1 e0 e2 e3;rw[Dc];have hul:us.length=ts.length:=hu.length;have hik:i * k+k<=l.length * k:=by rw[<- CZ];exact DA _ hi
  have hnc:l.length * k<=cap * k:=DA _ h1;have s1:((l.set i z).map (cells t)).flatten=sp (l.map (cells t)).flatten (i * k+off) ts:=by
   rw[PX,NJ hkk (by simpa using hi) (by rw[dI,r1]),hz];refine QV (rU hkk (by simp[hi])).symm ?_ ho;rw[sY hkk,CF];exact hik
  have hrun:=run_storeCells_at (P:=P) g (i * k+off) e us 0 cur w hh (by omega) (bGx hu);simp only[ZB]at hrun;have hother:∀b,b≠g->(w.setRow g (cur.toList.take (i * k+off)++us++cur.toList.drop (i * k+off+us.length)).toArray).heap[b]? =w.heap[b]? :=by
   intro b hne;simp only[World.setRow,ZF];rw[zS (Ne.symm hne)]
  have hsz:(w.setRow g (cur.toList.take (i * k+off)++us++cur.toList.drop (i * k+off+us.length)).toArray).heap.size=w.heap.size:=by simp[World.setRow]
  have hokb:∀b,BY src c ow f.ob b->b≠g:=λb hok e=>hok.2 ⟨q,n,_,hr,e▸hob⟩
  refine⟨_,λb=>if dp=Y/\b∈G then U q else ow b,hrun,?_,⟨rfl,rfl,rfl,by omega,λb hlt hnm=>hother b λe=>hnm (e▸hMg)⟩,hother⟩;refine h.turn hsf (y:= .row e k t (l.set i z) (deep&&dp)) hr (by omega) (λb hlt hnb=>hother b λe=>hnb (by rw[e];exact hob)) (λb _ hy=>hy) (λb o' hlt hne hm=> ?_) (λok' hok' _=> ?_)
  .obtain⟨m,x,hm⟩:=hm;show (if dp=Y/\b∈G then U q else ow b)=U o'↔ow b=U o';split
   .rename_i hc;constructor
    .intro e;injection e with e;exact absurd e.symm hne
    .intro how;obtain⟨_,_,r',q1,q2⟩:=(hdp hc.1).2 b hc.2;rw[q1]at how;injection how with how;subst how;exact absurd hm (q2 m x)
   .exact Iff.rfl
  .obtain⟨F2,F3,t1,t2,t3⟩:=r4.sp hu (i * k+off);rw[<- s1]at t1;have hFF:∀b∈F2++G++F3,BY src c ow f.ob b:=by
    intro b hb;rcases C0.1 hb with hb | hb
    .rcases C0.1 hb with hb | hb
     .exact r5 b (t2 b (Ds _ hb))
     .exact hG b hb
    .exact r5 b (t2 b (D5 _ hb))
   refine⟨r0,r1,λb hbo=>⟨(r2 b hbo).1,?_⟩,sp xs (i * k+off) us,F2++G++F3,?_,t1.frame λb hb=>hother b (hokb b (hFF b hb)),λb hb=>hok' b (t1.lt b hb) (hFF b hb),λhd=> ?_⟩
   .show (if dp=Y/\b∈G then U q else ow b)=U q;split
    .rfl
    .exact (r2 b hbo).2
   .rw[List.length_set];refine⟨by rw[IM (by rw[hxl,hul];omega)];exact hxl,.inr ⟨g,cap,_,hrv,C3 _,setRow_heap w g cur _ e (0,0) hh,h1,h2,?_,?_⟩⟩
    .simp[hul];omega
    .show (cur.toList.take (i * k+off)++us++cur.toList.drop (i * k+off+us.length)).take (l.length * k)=sp xs (i * k+off) us;unfold sp;rw[<- h4,List.take_append,List.take_append,UN,UN,List.drop_take];have a1:min (l.length * k) (i * k+off)=i * k+off:=by omega
     have a2:min (i * k+off) (l.length * k)=i * k+off:=by omega
     have a3:(cur.toList.take (i * k+off)).length=i * k+off:=by simp;omega
     rw[a1,a2,C7,a3,cQt (l:=us) (by omega)]
   .simp only[Ck]at hd;obtain⟨n1,n2⟩:=r6 hd.1;obtain⟨n3,n4⟩:=hdp hd.2;have hap:∀b,b∈F2++F3->b∈G->False:=by
     intro b hb hbG;obtain⟨_,q2,_⟩:=n2 b (t2 b hb);obtain⟨_,_,r',q3,q4⟩:=n4 b hbG;rw[q2]at q3;injection q3 with q3;subst q3;exact q4 _ _ hr
    have hnd13:=t3 n1;refine⟨?_,λb hb=> ?_⟩
    .obtain⟨m1,m2,m3⟩:=DB.1 hnd13;refine DB.2 ⟨DB.2 ⟨m1,n3,λx hx y hy hxy=>hap x (Ds _ hx) (hxy▸hy)⟩,m2,λx hx y hy hxy=> ?_⟩;rcases C0.1 hx with hx | hx
     .exact m3 x hx y hy hxy
     .exact hap x (D5 _ (hxy▸hy)) hx
    .have hne:=hokb b (hFF b hb)
     by_cases hbG:b∈G
     .obtain⟨q1,q2,_⟩:=n4 b hbG;exact⟨q1,by simp[hd.2,hbG],by rw[hob];intro e;injection e with e;exact hne e.symm,q2.keep (hother b hne)⟩
     .have hb13:b∈F2++F3:=by
       rcases C0.1 hb with hb | hb
       .rcases C0.1 hb with hb | hb
        .exact Ds _ hb
        .exact absurd hb hbG
       .exact D5 _ hb
      obtain⟨q1,q2,q3,q4⟩:=n2 b (t2 b hb13);exact⟨q1,by simp[hbG,q2],q3,q4.keep (hother b hne)⟩
end
end Go.V
set_option linter.unusedVariables false
set_option linter.unusedSectionVars false
namespace Go.V
open Go.Ab Go.RowKit
section
variable {M src:Nat->Prop} {c:Cx} {ow:Nat->Option Nat} {f:F} {a:Act} {w:World} {P:Program} {ok:Nat->Prop}
def DT(f:F)(x:C)(τ:T):Prop:= ∃(t:Ty) (y:den t),f.data t x=U y/\τ=fX t y
theorem NL:∀{t:Ty} {cs:List C} {z:den t},f.dataL t cs=U (z,[])->bD (DT f) cs (cells t z)
 | .int k,cs,z,h=>by obtain⟨x,rfl,hx⟩:=RX (by simp) h;exact .cons ⟨_,z,hx,rfl⟩ .nil
 | .bool,cs,z,h=>by obtain⟨x,rfl,hx⟩:=RX (by simp) h;exact .cons ⟨_,z,hx,rfl⟩ .nil
 | .str,cs,z,h=>by obtain⟨x,rfl,hx⟩:=RX (by simp) h;exact .cons ⟨_,z,hx,rfl⟩ .nil
 | .sl t,cs,z,h=>by obtain⟨x,rfl,hx⟩:=RX (by simp) h;exact .cons ⟨_,z,hx,rfl⟩ .nil
 | .pair a b,cs,z,h=>by
  obtain⟨u1,u2,rfl,_,h1,h2⟩:=bQr h;exact (NL h1).append (NL h2)
theorem lB{t:Ty}(x:den t):iK t t x=U x:=by simp[iK]
theorem Vu(f:F):∀(t:Ty) (x:den t),bD (DT f) (split t x) (cells t x)
 | .int k,x=> .cons ⟨.int k,x,lB (t:= .int k) x,rfl⟩ .nil
 | .bool,x=> .cons ⟨.bool,x,lB (t:= .bool) x,rfl⟩ .nil
 | .str,x=> .cons ⟨.str,x,lB (t:= .str) x,rfl⟩ .nil
 | .sl t,x=> .cons ⟨.sl t,x,lB (t:= .sl t) x,rfl⟩ .nil
 | .pair a b,x=>(Vu f a x.1).append (Vu f b x.2)
theorem SY:∀(t:Ty) (x:den t),∀y∈split t x,∃(t':Ty) (z:den t'),y= .v t' z
 | .int k,x,y,h=>⟨_,_,Cy.1 h⟩
 | .bool,x,y,h=>⟨_,_,Cy.1 h⟩
 | .str,x,y,h=>⟨_,_,Cy.1 h⟩
 | .sl t,x,y,h=>⟨_,_,Cy.1 h⟩
 | .pair a b,x,y,h=>(C0.1 h).elim (SY a x.1 y) (SY b x.2 y)
theorem JU{t:Ty}{z:den t}{τ:T}(h:DT f (.v t z) τ):τ=fX t z:=by
 obtain⟨t',y,hy,rfl⟩:=h;obtain⟨rfl,rfl⟩:=gP hy;rfl
theorem bVz:∀{cs:List C} {xs ys:List T},(∀y∈cs,∃(t':Ty) (z:den t'),y= .v t' z)->bD (DT f) cs xs->bD (DT f) cs ys->xs=ys:=by
 intro cs
 induction cs with
 | nil=>intro xs ys _ h1 h2;cases h1;cases h2;rfl
 | cons x cs ih=>
  intro xs ys hv h1 h2;cases h1 with
  | cons a1 b1=>
   cases h2 with
   | cons a2 b2=>
    obtain⟨t,z,rfl⟩:=hv x (CC ..);rw[JU a1,JU a2,ih (λy hy=>hv y (C1 _ hy)) b1 b2]
theorem Qc{t:Ty}{el z:den t}{off:Nat}{ys:List C}(hle:off+ys.length<=tyLen t)(h:f.dataL t (sp (split t el) off ys)=U (z,[])):∃ts,bD (DT f) ys ts/\cells t z=sp (cells t el) off ts:=by
 have h1:=NL h;have h2:=Vu f t el;have hl:(split t el).length=tyLen t:=NU t el;unfold sp at h1;have ht:((split t el).take off).length=off:=by simp;omega
 refine⟨((cells t z).drop off).take ys.length,?_,?_⟩
 .have :=((h1.drop off).take ys.length)
  rw[CY,List.drop_append,ht,Nat.sub_self,List.drop_zero,Mm (by omega),CH,Mn]at this;exact this
 .have hlz:(cells t z).length=tyLen t:=dI t z;have hle2:(cells t el).length=tyLen t:=dI t el;have e1:(cells t z).take off=(cells t el).take off:=by
   have a1:=h1.take off;rw[CY,List.take_append,ht,Nat.sub_self,List.take_zero,CU,UN,Nat.min_self]at a1;exact bVz (f:=f) (λy hy=>SY t el y (IE hy)) a1 (h2.take off)
  have e2:(cells t z).drop (off+ys.length)=(cells t el).drop (off+ys.length):=by
   have a1:=h1.drop (off+ys.length);rw[List.drop_append,C7,ht,Nat.sub_self,List.drop_zero,Mm (by simp;omega),CH]at a1;exact bVz (f:=f) (λy hy=>SY t el y (IH hy)) a1 (h2.drop (off+ys.length))
  unfold sp;have hll:(((cells t z).drop off).take ys.length).length=ys.length:=by simp;omega
  rw[hll,<- e1,<- e2,<- R0];rw[CY,FW,FW]
theorem bEk(h:aX M src c ow f a w):∀{cs:List C} {ts:List T} {vs:List Value} {ids:List Nat} {dp:Bool},bD (DT f) cs ts->I9 f cs=U (ids,dp)->bD (aW c ow w (BY src c ow f.ob)) vs cs->ids.Nodup-> ∃G,RepL w vs ts G/\Fd M c ow w (BY src c ow f.ob) ids dp G:=by
 intro cs
 induction cs with
 | nil=>
  intro ts vs ids dp hd hm hv _;cases hd;cases hv;injection hm with hm;injection hm with e1 e2;subst e1 e2;exact⟨[],.nil,by simp,λ_=>by simp⟩
 | cons x cs ih=>
  intro ts vs ids dp hd hm hv hn;unfold I9 at hm;split at hm
  .rename_i i1 d1 i2 d2 h1 h2;injection hm with hm;injection hm with e1 e2;subst e1 e2;cases hd with
   | cons hdx hds=>
    cases hv with
    | cons hr hrs=>
     obtain⟨t,y,hy,rfl⟩:=hdx;obtain⟨G,g1,g2⟩:=bT2 h h1 hy hr;obtain⟨H,g3,g4⟩:=ih hds h2 hrs (DB.1 hn).2.1;exact⟨G++H,.cons g1 g3,g2.append g4 hn⟩
  .cases hm
end
section
variable {X:Dn} {E:List Con} {f:F} {a:Act} {w:World} {o:Oper} {R:Type} {K:F->Option R} {r:R}
theorem aS2(h:At X f a w)(hsf:f.subFree){t:TypeId}{p x:Operand}{q k i off n e:Nat}{y:A}{inf:TypeInfo}{ty:Ty}{l:List (den ty)}{deep dp:Bool}{ids:List Nat}{z:den ty}(hop:o.op= .store t p x)(hdst:o.dst=N)(hp:f.getC p=U (.rp q k i off))(hx:f.get x=U (.val y))(hi:X.P.info? t=U inf)(hrow:f.obj q=U (.row e k ty l deep))
  (hmv:I9 f y.cells=U (ids,dp)) (c1:y.cells.length=inf.size) (c2:off+y.cells.length<=k) (c3:xS ids=Y) (c4:ids.contains q=Z) (hil:i<l.length) (hz:∃ts,bD (DT f) y.cells ts/\cells ty z=sp (cells ty l[i]) off ts)
  (hk:K ((f.frzAll ids).setOb q (.row e k ty (l.set i z) (deep&&dp)))=U r):DF X E o a w f K r:=by
 refine⟨_,hk,(Ce.frzAll f ids).trans (Ce.setOb _ q _),λKp Q hK=> ?_⟩;obtain⟨⟨c,ow,hs,hpin⟩,hb,hn⟩:=id h;obtain⟨g,b0,nn,cap,hrv,hpv⟩:=hs.getC hp;obtain⟨hsol,hnsub⟩:=bAi hmv;obtain⟨us,hvs,hall,hone⟩:=NK hs.rvs (hs.get hx) hsol;obtain⟨ts,hts,hzz⟩:=hz;have hnd:=kP c3;obtain⟨G,g1,g2⟩:=bEk hs hts hmv hall hnd;obtain⟨t1,t2⟩:=g2.frozen hs X.hsrc (λr hr=>hr) (bIi hmv);obtain⟨m,hmem⟩:=vE hrow;obtain⟨m',hmem'⟩:=aQa c4 hmem;have htl:ts.length=y.cells.length:=hts.length.symm;obtain⟨w',ow',hrun,hsim,hbel,hoth⟩:=bCj (P:=X.P) (hs.frzAll X.hsrc ids) (PH hsf ids) hmem' hil (by rw[htl];exact c2) hzz g1 t1 t2 hrv;unfold Oper.wp;have hlen':us.length=inf.size:=by rw[hall.length];exact c1
 have hrun':(execOp a.eval o).run X.P w= .ok .skip w':=by
  simp[execOp,hop,Instr.storeAt,hpv,Instr.sureAddr,storeVar,mH hi,hvs,hlen',hrun]
 rw[hrun'];simp only[Oper.upon,hdst];exact hK _ _ ⟨⟨c,ow',hsim,hpin⟩,hb.trans hbel,hn⟩ (RP hop hdst hbel.size λb _ hne=>hoth b (hne g (by rw[hpv];rfl)))
theorem bVd{M:Nat->Prop}{c:Cx}{ow:Nat->Option Nat}{P:Program}{q k i off:Nat}{t:Ty}{l:List (den t)}{z:den t}(h:JI M c ow w q k t l)(hi:i<l.length){τ:T}{u v0:Value}(ho:off<k)(hold:(cells t l[i])[off]? =U (.lit v0))(hz:cells t z=sp (cells t l[i]) off [τ])(hu:Rep w u τ []){g b0 n cap:Nat}(hrv:c.rv q= .slice (U ⟨g,b0,N⟩) n cap):
  ∃w',(storeCells ⟨g,b0+(i * k+off),N⟩ [u]).run P w= .ok () w'/\JI M c ow w' q k t (l.set i z)/\(∀b,b≠g->w'.heap[b]? =w.heap[b]?)/\w'.heap.size=w.heap.size/\w'.os=w.os/\w'.tape=w.tape/\w'.output=w.output/\M g/\ow g=U q:=by
 obtain⟨h0,h1,G,h2,h3,h4⟩:=h;have hkk:∀y∈l.map (cells t),y.length=k:=λy hy=>by obtain⟨y',_,rfl⟩:=Ch.1 hy;rw[dI,h1]
 rw[hrv]at h2;simp only[fX]at h2;generalize hes:l.map (cells t)=es at h2;cases h2 with
 | nil hc=>
  have :l=[]:=by simpa using hes
  subst this;simp at hi
 | @cons b off' n' cap' k' es xs G' hnn hp0 hk0 hk' hc hm hxl hcell hr=>
  subst hes;have hkk':k'=k:=by
   obtain⟨y,hy⟩:=ZD (l:=l.map (cells t)) (by simp;omega);rw[<- hk' y hy,hkk y hy]
  subst hkk';obtain⟨hMg,howg,cs,e,hh⟩:=h4 g (CC ..);rw[CF]at hnn;subst hnn;have hik:i * k'+k'<=l.length * k':=by rw[<- CZ];exact DA _ hi
  have hlt:i * k'+off<xs.length:=by omega
  have hcell':=hcell (i * k'+off) _ (Cs hlt);have hbound:b0+(i * k'+off)<cs.size:=by
   simp only[World.cell?,hh]at hcell';exact (GG.1 hcell').1
  have hrun:=run_storeCells_at (P:=P) g (b0+(i * k'+off)) e [u] 0 cs w hh (by simp;omega) (by intro x hx;rw[Cy.1 hx];exact X0 hu);simp only[ZB,List.length_singleton]at hrun;have hother:∀b,b≠g->(w.setRow g (cs.toList.take (b0+(i * k'+off))++[u]++cs.toList.drop (b0+(i * k'+off)+1)).toArray).heap[b]? =w.heap[b]? :=by
   intro b hne;simp only[World.setRow,ZF];rw[zS (Ne.symm hne)]
  have hgG:∀b∈G',b≠g:=λb hb e=>(EW.1 h3).1 (e▸hb)
  have hnew:=setRow_heap w g cs (cs.toList.take (b0+(i * k'+off))++[u]++cs.toList.drop (b0+(i * k'+off)+1)).toArray e (0,0) hh;refine⟨_,hrun,?_,hother,by simp[World.setRow],rfl,rfl,rfl,hMg,howg⟩;have s1:((l.set i z).map (cells t)).flatten=sp (l.map (cells t)).flatten (i * k'+off) [τ]:=by
   rw[PX,NJ hkk (by simpa using hi) (by rw[dI,h1]),hz];refine QV (rU hkk (by simp[hi])).symm ?_ (by simp;omega);rw[sY hkk,CF];exact hik
  obtain⟨F1,F2,F3,a1,a2,a3,a4⟩:=hr.parts (i * k'+off) 1;have hmid:((l.map (cells t)).flatten.drop (i * k'+off)).take 1=[.lit v0]:=by
   have hfg:=rU hkk (i:=i) (e:=cells t l[i]) (by simp[hi]);have :((l.map (cells t)).flatten)[i * k'+off]? =U (.lit v0):=by
    have h5:(((l.map (cells t)).flatten.drop (i * k')).take k')[off]? =U (.lit v0):=by rw[hfg];exact hold
    rw[Ft,zT ho,Ex]at h5;exact h5
   rw[List.take_one,List.head?_drop,this];rfl
  rw[hmid]at a2;have hF2:F2=[]:=by
   generalize hxs:(xs.drop (i * k'+off)).take 1=ys at a2;cases a2 with
   | cons p1 p2=>cases p1;cases p2;rfl
  subst hF2;rw[CH]at a4;have hrep:RepL w (sp xs (i * k'+off) [u]) (sp (l.map (cells t)).flatten (i * k'+off) [τ]) G':=by
   have :=(a1.append (RepL.cons hu RepL.nil)).append a3;rw[a4];simpa [sp] using this
  rw[<- s1]at hrep;refine⟨h0,h1,g::G',?_,h3,λb hb=>⟨(h4 b hb).1,(h4 b hb).2.1,?_⟩⟩
  .rw[hrv];simp only[fX];refine .cons (k:=k') (by simp) hp0 hk0 (λy hy=>by obtain⟨y',_,rfl⟩:=Ch.1 hy;rw[dI,h1]) hc hm (by rw[IM (by simp;omega)];exact hxl) (λj x hx=> ?_) (hrep.frame λb hb=>hother b (hgG b hb));simp only[World.cell?,hnew];have hjlt:j<xs.length:=by have :=(Cu.1 hx).1;rw[IM (by simp;omega)]at this;exact this
   have hold':=hcell j _ (Cs hjlt);simp only[World.cell?,hh]at hold';have hcs:(cs.toList.take (b0+(i * k'+off))++[u]++cs.toList.drop (b0+(i * k'+off)+1))=cs.toList.set (b0+(i * k'+off)) u:=by
    rw[R4,zT (by simpa using hbound)];simp
   have hsp:sp xs (i * k'+off) [u]=xs.set (i * k'+off) u:=by
    unfold sp;rw[R4,zT hlt];simp
   rw[hsp]at hx;rw[hcs];rw[List.getElem?_set]at hx;have hgoal:(cs.toList.set (b0+(i * k'+off)) u)[b0+j]? =U x:=by
    rw[List.getElem?_set];split at hx
    .rename_i e1;rw[zT (by omega)];rw[zT (by simpa using hbound)];exact hx
    .rename_i e1;rw[zS (by omega)];rw[Cs hjlt]at hx;rw[<- hx];simpa using hold'
   simpa using hgoal
  .by_cases hbg:b=g
   .subst hbg;exact⟨_,e,hnew⟩
   .exact (h4 b hb).2.2.keep (hother b hbg)
theorem Sg:∀{t:Ty} {x:den t} {v:Value} {G:List Nat},Rep w v (fX t x) G->flat t=Y->G=[]/\ ∃u,fX t x= .lit u
 | .int _,_,_,_,h,_=>by cases h;exact⟨rfl,_,rfl⟩
 | .bool,_,_,_,h,_=>by cases h;exact⟨rfl,_,rfl⟩
 | .str,_,_,_,h,_=>by cases h;exact⟨rfl,_,rfl⟩
 | .sl t,_,_,_,h,hn=>by cases hn
 | .pair _ _,_,_,_,h,_=>by cases h
theorem NQ:∀(t:Ty) (x:den t) {i:Nat} {t':Ty} {y:den t'},(split t x)[i]? =U (.v t' y)->(cells t x)[i]? =U (fX t' y)/\ ∀a b,t'≠ .pair a b
 | .int k,x,i,t',y,h=>by cases i with | zero=>simp[split]at h;obtain⟨rfl,h⟩:=h;subst h;exact⟨rfl,by simp⟩ | succ i=>simp[split]at h
 | .bool,x,i,t',y,h=>by cases i with | zero=>simp[split]at h;obtain⟨rfl,h⟩:=h;subst h;exact⟨rfl,by simp⟩ | succ i=>simp[split]at h
 | .str,x,i,t',y,h=>by cases i with | zero=>simp[split]at h;obtain⟨rfl,h⟩:=h;subst h;exact⟨rfl,by simp⟩ | succ i=>simp[split]at h
 | .sl t,x,i,t',y,h=>by cases i with | zero=>simp[split]at h;obtain⟨rfl,h⟩:=h;subst h;exact⟨rfl,by simp⟩ | succ i=>simp[split]at h
 | .pair a b,x,i,t',y,h=>by
  simp only[split,cells]at h ⊢;rw[List.getElem?_append]at h ⊢;rw[NU]at h;rw[dI];split at h
  .rename_i hlt;rw[zT hlt];exact NQ a x.1 h
  .rename_i hlt;rw[zS hlt];exact NQ b x.2 h
theorem bFx(h:At X f a w)(hsf:f.subFree){t:TypeId}{p x:Operand}{q k i off:Nat}{y:A}{inf:TypeInfo}{ty tz ty':Ty}{l:List (den ty)}{el el':den ty}{z:den tz}{z':den ty'}(hop:o.op= .store t p x)(hdst:o.dst=N)(hp:f.getC p=U (.rp q k i off))(hx:f.get x=U (.val y))(hi:X.P.info? t=U inf)(hrow:f.obj q=U (.win k ty l))
  (c1:y.cells.length=inf.size) (c2:inf.size=1) (c3:off<k) (hel:l[i]? =U el) (hy:y.cells=[.v tz z]) (hold:(split ty el)[off]? =U (.v ty' z')) (hf1:flat tz=Y) (hf2:flat ty'=Y) (hd:f.dataL ty (sp (split ty el) off [.v tz z])=U (el',[]))
  (hk:K (f.setOb q (.win k ty (l.set i el')))=U r):DF X E o a w f K r:=by
 refine⟨_,hk,Ce.setOb f q _,λKp Q hK=> ?_⟩;obtain⟨⟨c,ow,hs,hpin⟩,hb,hn⟩:=id h;obtain⟨g,b0,nn,cap,hrv,hpv⟩:=hs.getC hp;obtain⟨m,hmem⟩:=vE hrow;have hwin:JI X.M c ow w q k ty l:=hs.ob _ _ _ hmem;have hsol:y.cells.all C.solid=Y:=by rw[hy];rfl
 obtain⟨us,hvs,hall,hone⟩:=NK hs.rvs (hs.get hx) hsol;rw[hy]at hall;have hil:i<l.length:=(Cu.1 hel).1;have hele:l[i]=el:=(Cu.1 hel).2;obtain⟨ts,hts,hzz⟩:=Qc (f:=f) (by simp;rw[hwin.2.1];exact c3) hd;cases hts with
 | @cons _ τ _ _ hτ hnil=>
  cases hnil;have hτe:=JU hτ;subst hτe;generalize hus:us=us' at hall;cases hall with
  | @cons u _ _ _ hru hnil=>
   cases hnil;obtain⟨G,hrep,_⟩:=hru;obtain⟨rfl,_⟩:=Sg hrep hf1;obtain⟨hcell,hnp⟩:=NQ ty el hold;have hv0:∃v0,fX ty' z'= .lit v0:=by
    cases ty' with
    | int k=>exact⟨_,rfl⟩
    | bool=>exact⟨_,rfl⟩
    | str=>exact⟨_,rfl⟩
    | sl t=>cases hf2
    | pair a b=>exact absurd rfl (hnp a b)
   obtain⟨v0,hv0⟩:=hv0;rw[hv0,<- hele]at hcell;rw[<- hele]at hzz;obtain⟨w',hrun,hwin',hoth,hsz,e1,e2,e3,hMg,howg⟩:=bVd (P:=X.P) hwin hil c3 hcell hzz hrep hrv;have h1:=hs.turn hsf (ow':=ow) (y:= .win k ty (l.set i el')) (w':=w') hmem (by omega) (λb hlt hnb=>hoth b λe=>hnb (e▸howg)) (λb _ hy=>hy) (λb o _ _ _=>Iff.rfl) (λok' _ _=>hwin');unfold Oper.wp;have hrun':(execOp a.eval o).run X.P w= .ok .skip w':=by
    simp[execOp,hop,Instr.storeAt,hpv,Instr.sureAddr,storeVar,mH hi,hvs,hus,c2,hrun]
   rw[hrun'];simp only[Oper.upon,hdst];exact hK _ _ ⟨⟨c,ow,h1,hpin⟩,hb.trans ⟨e1,e2,e3,by omega,λb hlt hnm=>hoth b λe=>hnm (e▸hMg)⟩,hn⟩ (RP hop hdst (by omega) λb _ hne=>hoth b (hne g (by rw[hpv];rfl)))
end
end Go.V
set_option linter.unusedVariables false
set_option linter.unusedSectionVars false
namespace Go.V
open Go.Ab Go.RowKit
section
variable {X:Dn} {E:List Con} {f:F} {a:Act} {w:World} {o:Oper} {R:Type} {K:F->Option R} {r:R}
theorem cMa{v:Value}{τ:T}(h:DT f (zC v) τ):Rep w v τ []:=by
 unfold zC at h;split at h
 .split at h
  .rename_i hp;rw[JU h];exact .lit hp
  .obtain⟨t,y,hy,_⟩:=h;cases hy
 .rw[JU h];exact .lit rfl
 .split at h
  .rename_i hp;rw[JU h];exact .lit hp
  .obtain⟨t,y,hy,_⟩:=h;cases hy
 .obtain⟨t,y,hy,rfl⟩:=h;simp only[F.data]at hy;split at hy
  .injection hy with hy;subst hy;exact .nil (C3 _)
  .cases hy
 .obtain⟨t,y,hy,_⟩:=h;cases hy
theorem bS5:∀{vs:List Value} {ts:List T},bD (DT f) (vs.map zC) ts->RepL w vs ts []
 | [],_,h=>by cases h;exact .nil
 | v::vs,_,h=>by
  rw[CA]at h;cases h with
  | cons h hs=>exact .cons (cMa h) (bS5 hs)
theorem VJ{c:Cx}{ow':Nat->Option Nat}{w':World}{d e k:Nat}{t:Ty}{l:List (den t)}{deep:Bool}{v:Value}(h:aX X.M X.src (c.setRv d v) ow' (f.add d (.row e k t l deep)) a w')(hd:d<a.tmps.size):aX X.M X.src (c.setRv d v) ow' (f.newOb d (.row e k t l deep) (.row d)) (a.put (U d) v) w':=
 h.put hd (by simp[jL,dT,aW,Cx.setRv])
theorem bC0{t:Ty}(n:Nat)(z:den t):(Dx n z).map (cells t)=Dx n (cells t z):=by simp
theorem bT7(h:At X f a w)(hsf:f.subFree){d:Nat}(hdst:o.dst=U d)(hd:kQ X.n o.dst=Y){t e:TypeId}{x y:Operand}{k1 k2:IntKind}{n m:Int}{i:TypeInfo}{z:Value}{ty:Ty}{z0:den ty}(hop:o.op= .makeSlice t x y)(ht:X.P.underlying t=U (.slice e))(hx:f.getC x=U (.v (.int k1) n))(hy:f.getC y=U (.v (.int k2) m))
  (hi:X.P.info? e=U i) (hz:i.zero=U z) (hz0:f.dataL ty (z.cells.toList.map zC)=U (z0,[])) (c1:i.size=z.cells.size) (c2:0<i.size) (hp:pinned d=Z) (hok:Nn i.bytes n m=Y) (hk:K (f.newOb d (.row e i.size ty (Dx n.toNat z0) Y) (.row d))=U r):DF X E o a w f K r:=by
 refine⟨_,hk,Ce.newOb f d _ _,λKp Q hK=> ?_⟩;obtain⟨⟨c,ow,hs,hpin⟩,hb,hn⟩:=id h;have hlt:d<a.tmps.size:=by rw[hn];rw[hdst]at hd;exact yS hd
 simp only[Nn,Ck,zR]at hok;obtain⟨p1,p2,p3,p4⟩:=hok;subst p1;obtain⟨ex,_⟩:=pA (hs.getC hx);obtain⟨ey,_⟩:=pA (hs.getC hy);have hrun:=run_make (P:=X.P) w t e i z ht hi hz k1 k2 m m p2 (Int.le_refl _) p3 (by omega);have hzp:0<z.cells.size:=by omega
 have hcells:madeCells z.cells (m.toNat * i.size)=(Dx m.toNat z.cells.toList).flatten.toArray:=by
  rw[c1];apply Array.toList_inj.1;rw[aWc z.cells hzp]
 have hzz:RepL w z.cells.toList (cells ty z0) []:=bS5 (NL hz0);have hlen0:tyLen ty=i.size:=by rw[<- dI ty z0,<- hzz.length,c1];simp
 have hflat:((Dx m.toNat z0).map (cells ty)).flatten=(Dx m.toNat (cells ty z0)).flatten:=by rw[bC0]
 have hrepl:RepL w (Dx m.toNat z.cells.toList).flatten ((Dx m.toNat z0).map (cells ty)).flatten []:=by rw[hflat];exact aQn hzz m.toNat
 have hln:(Dx m.toNat z.cells.toList).flatten.length=m.toNat * i.size:=by simp[List.length_flatten,c1]
 have hrun':(execOp a.eval o).run X.P w= .ok (.value (.slice (U ⟨w.heap.size,0,N⟩) m.toNat m.toNat)) (w.alloc (.cells (Dx m.toNat z.cells.toList).flatten.toArray e (0,0))):=by
  simp only[execOp,hop,ex,ey];rw[hcells]at hrun;simp[hrun]
 have hblk:∀b,b<w.heap.size->(w.alloc (.cells (Dx m.toNat z.cells.toList).flatten.toArray e (0,0))).heap[b]? =w.heap[b]? :=λb hb=>Below.heap_alloc _ _ _ hb
 have hown:=aWn (B:=0) (w:=w) (e:=e) (k:=i.size) (n:=m.toNat) (Dx m.toNat z.cells.toList).flatten (C3 _) (by simp[maxLen];omega) hln;obtain⟨ow',h1⟩:=hs.putRow hsf (d:=d) (was:=N) (by simp) (deep:=Y) (l:=Dx m.toNat z0) (t:=ty) (v:= .slice (U ⟨w.heap.size,0,N⟩) m.toNat m.toNat) (by simp) (λb hb _=>hblk b hb) (.inr (.inr rfl)) (λb hb=>by simp[Value.ownBlock]at hb;subst hb;exact h.hM) (by simpa using hown) c2 hlen0 (hrepl.frame (by simp)) (by simp) (λ_=>by simp);unfold Oper.wp;rw[hrun'];simp only[Oper.upon,hdst];exact hK _ _ ⟨⟨_,ow',VJ h1 hlt,hpin.rv hp _⟩,hb.alloc _,by rw[HW];exact hn⟩ (Qr hdst (λb hb'=>hblk b hb') (by simp) (by rw[hop];rfl) (λ_ b hb0=>by injection hb0 with hb0;exact ID hb0))
theorem bHw{M src:Nat->Prop}{c:Cx}{ow:Nat->Option Nat}(h:aX M src c ow f a w){k:Nat}{t:Ty}:∀{ps:List (Nat×Operand)} {es:List (den t)} {ids:List Nat} {dp:Bool},Q3 f k t ps=U (es,ids,dp)->ids.Nodup->
  ∃(vss:List (List Value)) (G:List Nat),ps.map (λp=>(a.eval p.2).cells)=vss.map List.toArray/\(∀x∈vss,x.length=k)/\es.length=ps.length/\RepL w vss.flatten (es.map (cells t)).flatten G/\Fd M c ow w (BY src c ow f.ob) ids dp G/\
   ∀r∈ids,∃n e k,∃(t:Ty) (l:List (den t)),∃deep,(r,n,O.row e k t l deep)∈f.ob:=by
 intro ps
 induction ps with
 | nil=>
  intro es ids dp hl _;injection hl with hl;injection hl with e1 hl;injection hl with e2 e3;subst e1 e2 e3;exact⟨[],[],rfl,by simp,rfl,.nil,⟨by simp,λ_=>by simp⟩,by simp⟩
 | cons p ps ih=>
  intro es ids dp hl hn;obtain⟨i,x⟩:=p;unfold Q3 at hl;split at hl
  .rename_i y es' i2 d2 hg hrest;split at hl
   .rename_i hk;split at hl
    .rename_i e i1 d1 hdat hmv;injection hl with hl;injection hl with e1 hl;injection hl with e2 e3;subst e1 e2 e3;obtain⟨vss,G,q1,q3,q4,q5,q6,q7⟩:=ih hrest (DB.1 hn).2.1;obtain⟨hsol,_⟩:=bAi hmv;obtain⟨vs,hvs,hall,_⟩:=NK h.rvs (h.get hg) hsol;obtain⟨H,g1,g2⟩:=bEk h (NL hdat) hmv hall (DB.1 hn).1;refine⟨vs::vss,H++G,by simp[q1,hvs],?_,by simp[q4],?_,g2.append q6 hn,λr hr=>(C0.1 hr).elim (bIi hmv r) (q7 r)⟩
     .intro z hz;rcases Cl.1 hz with rfl | hz
      .rw[hall.length];exact hk
      .exact q3 z hz
     .simpa using g1.append q5
    .cases hl
   .cases hl
  .cases hl
theorem bXb(h:At X f a w)(hsf:f.subFree){d:Nat}(hdst:o.dst=U d)(hd:kQ X.n o.dst=Y){t e:TypeId}{len:Nat}{ps:Array (Nat×Operand)}{i:TypeInfo}{ty:Ty}{es:List (den ty)}{ids:List Nat}{dp:Bool}(hop:o.op= .buildSlice t len ps)(ht:X.P.underlying t=U (.slice e))(hi:X.P.info? e=U i)
  (hl:Q3 f i.size ty ps.toList=U (es,ids,dp)) (c1:0<i.size) (c0:Li.tyLen ty=i.size) (c2:ps.toList.map (·.1)=Es len) (c3:len * i.size<=1000) (c4:i.zero.isSome=Y) (c5:xS ids=Y) (hp:pinned d=Z) (hk:K ((f.frzAll ids).newOb d (.row e i.size ty es dp) (.row d))=U r):DF X E o a w f K r:=by
 refine⟨_,hk,(Ce.frzAll f ids).trans (Ce.newOb _ d _ _),λKp Q hK=> ?_⟩;obtain⟨⟨c,ow,hs,hpin⟩,hb,hn⟩:=id h;have hlt:d<a.tmps.size:=by rw[hn];rw[hdst]at hd;exact yS hd
 have hnd:=kP c5;obtain⟨vss,G,q1,q3,q4,q5,q6,q7⟩:=bHw hs hl hnd;have hplen:ps.toList.length=len:=by have :=congrArg List.length c2;simpa using this
 obtain⟨z,hz⟩:=Option.isSome_iff_exists.1 c4;obtain⟨t1,t2⟩:=q6.frozen hs X.hsrc (λr hr=>hr) q7;have hes:es.length=len:=by rw[q4,hplen]
 have hkk:∀y∈es.map (cells ty),y.length=i.size:=λy hy=>by obtain⟨y',_,rfl⟩:=Ch.1 hy;rw[dI,<- NW,c0]
 have hlenv:vss.flatten.length=len * i.size:=by rw[q5.length,sY hkk,CF,hes]
 have hlenm:len<=maxLen:=by
  have :len<=len * i.size:=Nat.le_mul_of_pos_right _ c1;simp[maxLen];omega
 have hblk:∀b,b<w.heap.size->(w.alloc (.cells vss.flatten.toArray e (0,0))).heap[b]? =w.heap[b]? :=λb hb=>Below.heap_alloc _ _ _ hb
 have hown:=aWn (B:=0) (w:=w) (e:=e) (k:=i.size) (n:=len) vss.flatten (C3 _) hlenm hlenv;obtain⟨ow',h1⟩:=(hs.frzAll X.hsrc ids).putRow (PH hsf ids) (d:=d) (was:=N) (by simp) (deep:=dp) (l:=es) (t:=ty) (v:= .slice (U ⟨w.heap.size,0,N⟩) len len) (by simp) (λb hb _=>hblk b hb) (.inr (.inr rfl)) (λb hb=>by simp[Value.ownBlock]at hb;subst hb;exact h.hM) (by rw[hes];exact hown) c1 (by rw[<- NW,c0])
  (q5.frame λb hb=>hblk b (q5.lt b hb)) (λb hb=>⟨q5.lt b hb,t1 b hb⟩) (λhd'=>by
   obtain⟨n1,n2⟩:=t2 hd';refine⟨n1,λb hb=> ?_⟩;obtain⟨m1,m2,r',m3,m4⟩:=n2 b hb;exact⟨m1,m2.keep (hblk b (q5.lt b hb)),r',m3,.inr m4⟩)
 have hvals:(ps.toList.map λp=>(p.1,a.eval p.2))=(List.range' 0 (ps.toList.map λp=>a.eval p.2).length).zip (ps.toList.map λp=>a.eval p.2):=by
  rw[CF,hplen,<- List.range_eq_range',<- c2];rw[List.zip_map']
 have hfill:=bJb i.size (ps.toList.map λp=>a.eval p.2) 0 ((Array.range (len * i.size)).map λx=>(if len * i.size=0 then #[] else z.cells)[x % (if len * i.size=0 then #[] else z.cells).size]!) (by
  intro v hv;have h1:v.cells∈(ps.toList.map λp=>a.eval p.2).map Value.cells:=Ch.2 ⟨v,hv,rfl⟩;rw[List.map_map]at h1;have h2:v.cells∈vss.map List.toArray:=by rw[<- q1];exact h1
  obtain⟨us,hus,he⟩:=Ch.1 h2;rw[<- he];simpa using q3 us hus) (by simp[hplen])
 rw[<- hvals]at hfill;have hflat:((ps.toList.map λp=>a.eval p.2).map λv=>v.cells.toList).flatten=vss.flatten:=by
  congr 1;have :(ps.toList.map λp=>a.eval p.2).map (λv=>v.cells.toList)=(ps.toList.map λp=>(a.eval p.2).cells).map Array.toList:=by simp[List.map_map,Function.comp_def]
  rw[this,q1,List.map_map];exact List.map_id vss
 rw[hflat]at hfill;have hdrop:((Array.range (len * i.size)).map λx=>(if len * i.size=0 then #[] else z.cells)[x % (if len * i.size=0 then #[] else z.cells).size]!).toList.drop ((0+(ps.toList.map λp=>a.eval p.2).length) * i.size)=[]:=by
  apply Mm;simp[hplen]
 rw[hdrop]at hfill;simp only[Nat.zero_mul,List.take_zero,CH,CU]at hfill;unfold Oper.wp;have hrun:(execOp a.eval o).run X.P w= .ok (.value (.slice (U ⟨w.heap.size,0,N⟩) len len)) (w.alloc (.cells vss.flatten.toArray e (0,0))):=by
  simp only[execOp,hop,Instr.buildSlice,Sem.run_bind,run_underlying ht,Result.andThen_ok,mH hi]
  by_cases h0:len * i.size=0
  .have hps:ps.toList=[]:=P8.1 (by rcases Nat.mul_eq_zero.1 h0 with h | h<;>omega);have hvs:vss=[]:=by
    rw[hps]at q1;simpa using q1.symm
   have hl0:len=0:=by rw[hps]at hplen;simpa using hplen.symm
   subst hvs;simp[hl0,hps,Instr.fill,newRow,Array.range_zero']
  .simp only[h0,zU]at hfill ⊢;simp only[Kj,zeroValue,typeInfo];have h24: ¬ 16777216<len * i.size:=by omega
   simp[hi,hz,h24,hfill,newRow]
 rw[hrun];simp only[Oper.upon,hdst];exact hK _ _ ⟨⟨_,ow',VJ h1 hlt,hpin.rv hp _⟩,hb.alloc _,by rw[HW];exact hn⟩ (Qr hdst (λb hb'=>hblk b hb') (by simp) (by rw[hop];rfl) (λ_ b hb0=>by injection hb0 with hb0;exact ID hb0))
theorem RC:∀{t:Ty},flat t=Y-> ∀x:den t,(cells t x).any T.isSl=Z
 | .int _,_,_=>rfl
 | .bool,_,_=>rfl
 | .str,_,_=>rfl
 | .sl _,h,_=>by cases h
 | .pair a b,h,x=>by
  simp only[flat,Ck]at h;simp only[cells,List.any_append,Kf];exact⟨RC h.1 x.1,RC h.2 x.2⟩
theorem bKi{M src:Nat->Prop}{c:Cx}{ow:Nat->Option Nat}(h:aX M src c ow f a w){k:Nat}{t:Ty}{x:C}{u:Value}{es:List (den t)}{ids:List Nat}{dp:Bool}(hs:YQ f k t x=U (es,ids,dp))(hv:aW c ow w (BY src c ow f.ob) u x):
  ∃G,Rep w u (fX (.sl t) es) G/\(∀r∈ids,∃n e k,∃(t:Ty) (l:List (den t)),∃deep,(r,n,O.row e k t l deep)∈f.ob)/\ids.Nodup/\(Fd M c ow w (BY src c ow f.ob) ids dp G\/(flat t=Y/\Fd M c ow w (BY src c ow f.ob) ids Z G)):=by
 unfold YQ at hs;split at hs
 .injection hs with hs;injection hs with e1 hs;injection hs with e2 e3;subst e1 e2 e3;have :u= .slice N 0 0:=hv;subst this;exact⟨[],.nil (C3 _),by simp,Rz,.inl ⟨by simp,λ_=>by simp⟩⟩
 .rename_i t' y;obtain⟨l,hl,he⟩:=CX.1 hs;injection he with e1 he;injection he with e2 e3;subst e1 e2 e3;obtain⟨rfl,rfl⟩:=gP hl;obtain⟨G,hr,hG⟩:=hv;refine⟨G,hr,by simp,Rz,?_⟩;cases hf:flat t with
  | true=>exact .inr ⟨rfl,λb hb=> .inl (hG b hb),λh=>by cases h⟩
  | false=>exact .inl ⟨λb hb=> .inl (hG b hb),λh=>by cases h⟩
 .rename_i q;split at hs
  .rename_i e k' t' l deep hrow;split at hs
   .obtain⟨l',hl,he⟩:=CX.1 hs;injection he with e1 he;injection he with e2 e3;subst e1 e2 e3;obtain⟨e0,rfl⟩:=gP hl;injection e0 with e0;subst e0;have hv:u=c.rv q:=hv;subst hv;obtain⟨G,g1,g2⟩:=RW h hrow;obtain⟨n,hm⟩:=vE hrow;exact⟨G,g1,λr' hr'=>by rw[Cy.1 hr'];exact⟨n,e,k',_,_,deep,hm⟩,by simp,.inl g2⟩
   .cases hs
  .cases hs
 .cases hs
theorem aZ6{M src:Nat->Prop}{c:Cx}{ow:Nat->Option Nat}(h:aX M src c ow f a w)(hsrc:∀b,M b->src b){ids:List Nat}{dp:Bool}{G H:List Nat}{t:Ty}{es:List (den t)}{news:List Value}(hids:∀r∈ids,∃n e k,∃(t:Ty) (l:List (den t)),∃deep,(r,n,O.row e k t l deep)∈f.ob)
  (ht:Fd M c ow w (BY src c ow f.ob) ids dp G\/(flat t=Y/\Fd M c ow w (BY src c ow f.ob) ids Z G)) (hr:RepL w news (es.map (cells t)).flatten H) (hsub:∀b∈H,b∈G) (hnd:G.Nodup->H.Nodup):
  (∀b∈H,BY src c ow (f.frzAll ids).ob b)/\(dp=Y->H.Nodup/\ ∀b∈H,M b/\DN w b/\ ∃r,ow b=U r/\ ∀n x,(r,n,x)∉(f.frzAll ids).ob):=by
 rcases ht with ht | ⟨hno,ht⟩
 .obtain⟨t1,t2⟩:=ht.frozen h hsrc (λr hr=>hr) hids;refine⟨λb hb=>t1 b (hsub b hb),λhd=> ?_⟩;obtain⟨n1,n2⟩:=t2 hd;exact⟨hnd n1,λb hb=>n2 b (hsub b hb)⟩
 .rw[hr.noSl (bDy λx hx=>by obtain⟨y,_,rfl⟩:=Ch.1 hx;exact RC hno y)];exact⟨by simp,λ_=>by simp⟩
theorem Xz{w:World}{B e k:Nat}{v:Value}{n:Nat}{xs:List Value}(h:w.ownsRow B e k v n xs){b:Nat}(hb:Ei v=U b):v.ownBlock=U b:=by
 rcases h.2 with ⟨h,_⟩ | ⟨g,cap,cur,h,_⟩
 .rw[h]at hb;cases hb
 .rw[h]at hb ⊢;exact hb
theorem bYl(h:At X f a w)(hsf:f.subFree){d:Nat}(hdst:o.dst=U d)(hd:kQ X.n o.dst=Y){t:TypeId}{s x:Operand}(hop:o.op= .call {callee:= .builtin .append,args:= #[s,x],argTypes:= #[t,t]})(hv:Yb X.P f d t s x K=U r):DF X E o a w f K r:=by
 unfold Yb at hv;split at hv
 .rename_i e ht;split at hv
  .rename_i i ty hi hty;split at hv
   .rename_i z hz;split at hv
    .rename_i hcond;obtain⟨c1,c2,c3,hp⟩:=hcond;rw[NW]at c3;split at hv
     .rename_i cs cx hs' hx;split at hv
      .rename_i es2 ids dp hsr;obtain⟨⟨c,ow,hs,hpin⟩,hb,hn⟩:=id h;have hlt:d<a.tmps.size:=by rw[hn];rw[hdst]at hd;exact yS hd
       have hexec:∀(v u v':Value) (w':World),a.eval s=v->a.eval x=u->(∀ty,(Builtin.append_ #[t,t] ty #[v,u]).run X.P w= .ok v' w')->(execOp a.eval o).run X.P w= .ok (.value v') w':=by
        intro v u v' w' hv1 hu1 hr;simp[execOp,hop,resolve,invoke,builtin,hv1,hu1,hr]
       obtain⟨F0,f1,f3,f4,f5⟩:=bKi hs hsr (hs.getC hx);have hk2:∀y∈es2.map (cells ty),y.length=i.size:=λy hy=>by obtain⟨y',_,rfl⟩:=Ch.1 hy;rw[dI,c3]
       split at hv
       .rcases bE hv with ⟨p1,hv⟩ | ⟨_,hv⟩
        .have p1:(0+es2.length) * (i.bytes+1)<=140737488355328:=by simpa [aF] using p1
         refine⟨_,hv,(Ce.frzAll f ids).trans (Ce.newOb _ d _ _),λKp Q hK=> ?_⟩;have hvs:a.eval s= .slice N 0 0:=hs.getC hs';have hown:w.ownsRow 0 e i.size (.slice N 0 0) 0 []:=⟨by simp,.inl ⟨rfl,rfl⟩⟩
         obtain⟨v',w',news,G,g1,g2,g3,g4,g5,g6,g7⟩:=O7 (P:=X.P) (ty:=0) (es:=es2.map (cells ty)) ht hi hz c1 c2 hown f1 hk2 (by rw[CF];exact p1) (C3 _);have hsame:∀ty,(Builtin.append_ #[t,t] ty #[.slice N 0 0,a.eval x]).run X.P w= .ok v' w':=λty=>g1
         have hG:=aZ6 hs X.hsrc f3 f5 g5 g6 g7;have hbk:∀b,b<w.heap.size->w'.heap[b]? =w.heap[b]? :=λb hlt=>g3.block b hlt (by simp[Value.ownBlock])
         rw[Dc,CH,CF]at g2;obtain⟨ow',h1⟩:=(hs.frzAll X.hsrc ids).putRow (PH hsf ids) (d:=d) (was:=N) (by simp) (deep:=dp) (l:=es2) (t:=ty) (v:=v') g3.size (λb hb _=>hbk b hb) (by
           rcases g4 with g4 | g4
           .exact .inl g4
           .exact .inr (.inr g4)) (λb hb=>by
           rcases g4 with g4 | g4
           .rw[g4]at hb;cases hb
           .rw[g4]at hb;injection hb with hb;subst hb;exact h.hM) g2 c2 c3
          (g5.frame λb hb=>hbk b (g5.lt b hb)) (λb hb=>⟨g5.lt b hb,hG.1 b hb⟩) (λhdp=>by
           obtain⟨n1,n2⟩:=hG.2 hdp;refine⟨n1,λb hb=> ?_⟩;obtain⟨m1,m2,r',m3,m4⟩:=n2 b hb;exact⟨m1,m2.keep (hbk b (g5.lt b hb)),r',m3,.inr m4⟩)
         unfold Oper.wp;rw[hexec _ _ v' w' hvs rfl hsame];simp only[Oper.upon,hdst];exact hK _ _ ⟨⟨_,ow',VJ h1 hlt,hpin.rv hp _⟩,hb.grown g3 (by simp[Value.ownBlock]),by rw[HW];exact hn⟩ ⟨(λhw=>by rw[hop]at hw;simp[ED]at hw),⟨v',by rw[hdst],(λha=>by rw[hop]at ha;cases ha),λ_ _ _ b hb0=> .inl (by
          have hbo:=Xz g2 hb0;rcases g4 with g4 | g4
          .rw[g4]at hbo;cases hbo
          .rw[g4]at hbo;injection hbo with hbo;omega)⟩,λ_ _ b hlt _=>hbk b hlt,g3.size⟩
        .cases hv
       .rename_i q;split at hv
        .rename_i e1 k1 t1 l1 deep1 hrow;split at hv
         .rename_i es1 hcast;obtain⟨e0,he0⟩:=gP hcast;injection e0 with e0;subst e0;have he0:l1=es1:=he0;subst he0;split at hv
          .rename_i hc2;obtain⟨rfl,rfl,hrd,hrids,hpq⟩:=hc2;rcases bE hv with ⟨p1,hv⟩ | ⟨_,hv⟩
           .have p1:(l1.length+es2.length) * (i.bytes+1)<=140737488355328:=by simpa [aF] using p1
            refine⟨_,hv,((Ce.frzAll f ids).trans (Ce.add _ q _)).trans (Ce.put _ _ _),λKp Q hK=> ?_⟩;have hvs:a.eval s=c.rv q:=hs.getC hs';obtain⟨m,hmem⟩:=vE hrow;obtain⟨m1,hm1⟩:=aQa hrids hmem;have h0:=hs.frzAll X.hsrc ids;obtain⟨r0,r1,r2,xs,F1,r3,r4,r5,r6⟩:=h0.ob _ _ _ hm1;obtain⟨v',w',news,G,g1,g2,g3,g4,g5,g6,g7⟩:=O7 (P:=X.P) (ty:=0) (es:=es2.map (cells t1)) ht hi hz c1 c2 r3 f1 hk2 (by rw[CF];exact p1) (C3 _);have hsame:∀ty,(Builtin.append_ #[t,t] ty #[c.rv q,a.eval x]).run X.P w= .ok v' w':=λty=>g1
            have hG:=aZ6 hs X.hsrc f3 f5 g5 g6 g7;have hnl:∀b,BY X.src c ow (f.frzAll ids).ob b->U b≠(c.rv q).ownBlock:=λb hok e=>hok.2 ⟨q,m1,_,hm1,e.symm⟩
            have hbk:∀b,b<w.heap.size->BY X.src c ow (f.frzAll ids).ob b->w'.heap[b]? =w.heap[b]? :=λb hlt hok=>g3.block b hlt (hnl b hok)
            have hrep:RepL w' (xs++news) ((l1++es2).map (cells t1)).flatten (F1++G):=by
             rw[List.map_append,R3];exact (r4.frame λb hb=>hbk b (r4.lt b hb) (r5 b hb)).append (g5.frame λb hb=>hbk b (g5.lt b hb) (hG.1 b hb))
            rw[CF]at g2;obtain⟨ow',h1⟩:=h0.putRow (PH hsf ids) (d:=q) (was:=(c.rv q).ownBlock) (λb hb=>⟨(r2 b hb).2,⟨q,m1,_,hm1,hb⟩⟩) (deep:=deep1&&dp) (l:=l1++es2) (t:=t1) (v:=v') g3.size (λb hlt hne=>g3.block b hlt hne) (.inr g4) (λb hb=>by
              rcases g4 with g4 | g4
              .rw[g4]at hb;exact (r2 b hb).1
              .rw[g4]at hb;injection hb with hb;subst hb;exact h.hM) (by rw[C7];exact g2) c2 c3 hrep (λb hb=>by
              rcases C0.1 hb with hb | hb
              .exact⟨r4.lt b hb,r5 b hb⟩
              .exact⟨g5.lt b hb,hG.1 b hb⟩)
             (λhdp=>by
              simp only[Ck]at hdp;obtain⟨n1,n2⟩:=r6 hdp.1;obtain⟨n3,n4⟩:=hG.2 hdp.2;refine⟨DB.2 ⟨n1,n3,λz hz z' hz' hzz=> ?_⟩,λb hb=> ?_⟩
              .subst hzz;obtain⟨_,m2,_⟩:=n2 z hz;obtain⟨_,_,r',m3,m4⟩:=n4 z hz';rw[m2]at m3;injection m3 with m3;subst m3;exact m4 _ _ hm1
              .rcases C0.1 hb with hb | hb
               .obtain⟨m1,m2,m3,m4⟩:=n2 b hb;exact⟨m1,m4.keep (hbk b (r4.lt b hb) (r5 b hb)),q,m2,.inl rfl⟩
               .obtain⟨m1,m2,r',m3,m4⟩:=n4 b hb;exact⟨m1,m2.keep (hbk b (g5.lt b hb) (hG.1 b hb)),r',m3,.inr m4⟩)
            unfold Oper.wp;rw[hexec _ _ v' w' hvs rfl hsame];simp only[Oper.upon,hdst];exact hK _ _ ⟨⟨_,ow',h1.put hlt (by simp[jL,dT,aW,Cx.setRv]),hpin.rv hpq _⟩,hb.grown g3 (λb hb=>(r2 b hb).1),by rw[HW];exact hn⟩ ⟨(λhw=>by rw[hop]at hw;simp[ED]at hw),⟨v',by rw[hdst],(λha=>by rw[hop]at ha;cases ha),λ_ y hy b hb0=>by
             rw[hop]at hy;injection hy with hy;subst hy;have hbo:=Xz g2 hb0;rcases g4 with g4 | g4
             .rw[g4]at hbo;refine .inr ?_;rw[hvs];obtain⟨ad,nn,cc,hrv⟩:=hs.rvs q;rw[hrv]at hbo ⊢;cases ad with
              | none=>cases hbo
              | some ad=>exact hbo
             .rw[g4]at hbo;injection hbo with hbo;exact .inl (ID hbo)⟩,λy hy b hlt hne=>g3.block b hlt (λe=>by
             rw[hop]at hy;injection hy with hy;subst hy;obtain⟨ad,nn,cc,hrv⟩:=hs.rvs q;rw[hrv]at e;cases ad with
             | none=>cases e
             | some ad=>injection e with e;exact hne ad.block (by rw[hvs,hrv];rfl) e),g3.size⟩
           .cases hv
          .cases hv
         .cases hv
        .cases hv
       .cases hv
      .cases hv
     .cases hv
    .cases hv
   .cases hv
  .cases hv
 .cases hv
end
end Go.V
