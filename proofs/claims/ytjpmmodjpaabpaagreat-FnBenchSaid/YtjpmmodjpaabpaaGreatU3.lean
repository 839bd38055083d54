/-
  Typed frames and what code makes of them, over any program: part 3. Conditions: none.
-/
import Derived.Test.YtjpmmodjpaabpaaGreatU2
open List renaming append_nil->CU,map_cons->CA,sum_cons->D6,length_append->C7,length_cons->C6,map_append->IG
set_option linter.unusedVariables false
open Option renaming some→U
open Decidable renaming decide→D
namespace Go.V
open Go.Ab Go.RowKit
theorem yB{α:Type}(l:List α):l=[]\/ ∃m z,l=m++[z]:=by
 cases l with
 | nil=>exact .inl rfl
 | cons a l=>exact .inr ⟨(a::l).dropLast,(a::l).getLast (by simp),(List.dropLast_concat_getLast (by simp)).symm⟩
section
variable {α S σ R:Type}
def DV(B:Nat->α->σ->σ⊕R)(out:σ->R):Nat->List α->σ->R
 | _,[],a=>out a
 | k,x::xs,a=>match B k x a with
  | .inl a'=>DV B out (k+1) xs a'
  | .inr r=>r
theorem Hi(enc:Nat->σ->S)(s0:S)(a0:σ)(l:List α)(B:Nat->α->σ->σ⊕R)(I:Nat->σ->Prop)(out:σ->R){step:S->Option (S⊕R)}(hs:s0=enc 0 a0)(hl:l.length<=4611686018427387904)(h0:I 0 a0)
  (h:∀(k:Nat) (x:α) (a:σ),idx l (k:Int)=U x->l[k]? =U x->D ((k:Int)<(l.length:Int))=true->IntKind.i64.wrap ((k:Int)+1)=((k+1:Nat):Int)->k<l.length->I k a->
   step (enc k a)=U ((B k x a).elim (λa'=> .inl (enc (k+1) a')) .inr)/\ ∀a',B k x a= .inl a'->I (k+1) a')
  (he:∀a,I l.length a->step (enc l.length a)=U (.inr (out a))):aB step s0=U (DV B out 0 l a0):=by
 subst hs;have key:∀(rest pre:List α) (a:σ),pre++rest=l->I pre.length a->aB step (enc pre.length a)=U (DV B out pre.length rest a):=by
  intro rest
  induction rest with
  | nil=>intro pre a hp hI;rw[CU]at hp;subst hp;exact aH (he a hI)
  | cons x rest ih=>
   intro pre a hp hI;have hlt:pre.length<l.length:=by rw[<- hp];simp
   have hx:l[pre.length]? =U x:=by rw[<- hp];simp
   obtain⟨h1,h2⟩:=h pre.length x a (by rw[aQ];exact hx) hx (by simpa using hlt) (by rw[wri (by omega) (by omega)];omega) hlt hI;simp only[DV];cases hB:B pre.length x a with
   | inl a'=>
    rw[hB]at h1;rw[aO h1];have :=ih (pre++[x]) a' (by simpa using hp) (by simpa using h2 a' hB);simpa using this
   | inr r=>rw[hB]at h1;exact aH h1
 exact key l [] a0 rfl h0
def cW(f:Nat->α->σ->σ):Nat->List α->σ->σ
 | _,[],a=>a
 | k,x::xs,a=>cW f (k+1) xs (f k x a)
theorem jJ(enc:Nat->σ->S)(s0:S)(a0:σ)(l:List α)(f:Nat->α->σ->σ)(m:σ->Nat)(cost:α->Nat)(N:Nat)(out:σ->R){step:S->Option (S⊕R)}(hs:s0=enc 0 a0)(hl:l.length<=4611686018427387904)(hN:m a0+(l.map cost).sum<=N)
  (h:∀(k:Nat) (x:α) (a:σ),idx l (k:Int)=U x->l[k]? =U x->D ((k:Int)<(l.length:Int))=true->IntKind.i64.wrap ((k:Int)+1)=((k+1:Nat):Int)->k<l.length->m a+cost x<=N->
   step (enc k a)=U (.inl (enc (k+1) (f k x a)))/\m (f k x a)<=m a+cost x)
  (he:∀a,step (enc l.length a)=U (.inr (out a))):aB step s0=U (out (cW f 0 l a0))/\m (cW f 0 l a0)<=m a0+(l.map cost).sum:=by
 subst hs;have key:∀(rest pre:List α) (a:σ),pre++rest=l->m a+(rest.map cost).sum<=N->aB step (enc pre.length a)=U (out (cW f pre.length rest a))/\m (cW f pre.length rest a)<=m a+(rest.map cost).sum:=by
  intro rest
  induction rest with
  | nil=>intro pre a hp hI;rw[CU]at hp;subst hp;exact⟨aH (he a),by simp[cW]⟩
  | cons x rest ih=>
   intro pre a hp hI;have hlt:pre.length<l.length:=by rw[<- hp];simp
   have hx:l[pre.length]? =U x:=by rw[<- hp];simp
   simp only[CA,D6]at hI ⊢;obtain⟨h1,h2⟩:=h pre.length x a (by rw[aQ];exact hx) hx (by simpa using hlt) (by rw[wri (by omega) (by omega)];omega) hlt (by omega);simp only[cW];rw[aO h1];have :=ih (pre++[x]) (f pre.length x a) (by simpa using hp) (by omega);simp only[C7,C6,List.length_nil,Nat.zero_add]at this;exact⟨this.1,by omega⟩
 exact key l [] a0 rfl hN
theorem fV(enc:Nat->σ->S)(s0:S)(a0:σ)(l:List α)(f:Nat->α->σ->σ)(m:σ->Nat)(cost:α->Nat)(N:Nat)(out:σ->R){step:S->Option (S⊕R)}(hs:s0=enc 0 a0)(hl:l.length<=4611686018427387904)(hN:m a0+(l.map cost).sum<=N)(hm:∀k x a,m (f k x a)<=m a+cost x)
  (h:∀(k:Nat) (x:α) (a:σ),idx l (k:Int)=U x->l[k]? =U x->D ((k:Int)<(l.length:Int))=true->IntKind.i64.wrap ((k:Int)+1)=((k+1:Nat):Int)->k<l.length->m a+cost x<=N->
   step (enc k a)=U (.inl (enc (k+1) (f k x a))))
  (he:∀a,step (enc l.length a)=U (.inr (out a))):aB step s0=U (out (cW f 0 l a0)):=
 (jJ enc s0 a0 l f m cost N out hs hl hN (λk x a h1 h2 h3 h4 h5 h6=>⟨h k x a h1 h2 h3 h4 h5 h6,hm k x a⟩) he).1
theorem Ib{f:Nat->α->σ->σ}{m:σ->Nat}{cost:α->Nat}(hm:∀k x a,m (f k x a)<=m a+cost x):∀(l:List α) (k:Nat) (a:σ),m (cW f k l a)<=m a+(l.map cost).sum
 | [],_,_=>by simp[cW]
 | x::xs,k,a=>by
  have h1:=hm k x a;have h2:=Ib hm xs (k+1) (f k x a);simp only[cW,CA,D6];omega
theorem TP(enc:Int->σ->S)(s0:S)(a0:σ)(l:List α)(f:α->σ->σ)(m:σ->Nat)(cost:α->Nat)(N:Nat)(out:σ->R){step:S->Option (S⊕R)}(hs:s0=enc ((l.length:Int) - 1) a0)(hl:l.length<=4611686018427387904)(hN:m a0+(l.map cost).sum<=N)(hm:∀x a,m (f x a)<=m a+cost x)
  (h:∀(k:Nat) (x:α) (a:σ),idx l (k:Int)=U x->l[k]? =U x->D ((k:Int)>=(0:Int))=true->IntKind.i64.wrap ((k:Int) - 1)=(k:Int) - 1->k<l.length->m a+cost x<=N->step (enc (k:Int) a)=U (.inl (enc ((k:Int) - 1) (f x a))))
  (he:∀a,step (enc (-1) a)=U (.inr (out a))):aB step s0=U (out (l.foldr f a0)):=by
 subst hs;have key:∀(n:Nat) (pre post:List α) (a:σ),pre++post=l->pre.length=n->m a+(pre.map cost).sum<=N->aB step (enc ((pre.length:Int) - 1) a)=U (out (pre.foldr f a)):=by
  intro n
  induction n with
  | zero=>
   intro pre post a hp hn hI;have :pre=[]:=List.length_eq_zero_iff.1 hn;subst this;exact aH (he a)
  | succ n ih=>
   intro pre post a hp hn hI;rcases yB pre with rfl | ⟨q,x,rfl⟩
   .simp at hn
   .have hq:q.length=n:=by simpa using hn
    have hx:l[q.length]? =U x:=by rw[<- hp];simp
    have hlt:q.length<l.length:=(List.getElem?_eq_some_iff.1 hx).1;rw[IG,List.sum_append]at hI;simp only[CA,List.map_nil,D6,List.sum_nil,Nat.add_zero]at hI;have h1:=h q.length x a (by rw[aQ];exact hx) hx (by simp) (wri (by omega) (by omega)) hlt (by omega);have h2:=hm x a;have e1:(((q++[x]).length:Nat):Int) - 1=(q.length:Int):=by simp
    rw[e1,aO h1,ih q ([x]++post) (f x a) (by simpa using hp) hq (by omega)];rw[List.foldr_append];rfl
 have :=key l.length l [] a0 (CU l) rfl hN;exact this
theorem PR{β:Type}(g:α->β):∀(l:List α) (a:List β),l.foldr (λx a=>a++[g x]) a=a++(l.reverse.map g)
 | [],a=>by simp
 | x::xs,a=>by simp[PR g xs]
theorem VY{α:Type}(m:List α)(z y:α):(m++[z]).set m.length y=m++[y]:=by simp
theorem Ol{α:Type}(m:List α)(z:α):D ((m.length:Int)<((m++[z]).length:Int))=true:=by
 rw[C7,List.length_singleton];simp;omega
theorem Se{α:Type}(m:List α)(z:α):(m++[z])[m.length]? =U z:=by simp
theorem bF(n:Nat):D ((0:Int)<=(n:Int))=true:=by simp
theorem Oe(n:Nat):D ((n:Int)>=(0:Int))=true:=by simp
theorem rS(g:σ->α->σ):∀(l:List α) (k:Nat) (a:σ),cW (λ_ x a=>g a x) k l a=l.foldl g a
 | [],_,_=>rfl
 | x::xs,k,a=>rS g xs (k+1) (g a x)
theorem dR{β:Type}(g:α->β):∀(l:List α) (k:Nat) (a:List β),cW (λ_ x a=>a++[g x]) k l a=a++l.map g
 | [],_,a=>by simp[cW]
 | x::xs,k,a=>by simp[cW,dR g xs]
theorem NH(p:α->Bool):∀(l:List α) (k:Nat) (a:List α),cW (λ_ x a=>if p x then a++[x] else a) k l a=a++l.filter p
 | [],_,a=>by simp[cW]
 | x::xs,k,a=>by
  simp only[cW,List.filter_cons];rw[NH p xs];split<;>simp
end
theorem aC{b n m:Nat}(hb:b<=200)(h:n+m<=549755813888):aF b n m=true:=by
 simp only[aF,zR]
 calc (n+m) * (b+1)<=549755813888 * 201:=Nat.mul_le_mul h (by omega)
  _<=140737488355328:=by decide
theorem kE{t:Ty}{l:List (den t)}{x:den t}(h:x∈l):1+tot t x<=tot (.sl t) l:=by
 have h1:=SW (f:=tot t) h;have h2:=List.length_pos_of_mem h;simp only[tot];omega
theorem FY{t:Ty}{l:List (den t)}{x:den t}{k:Nat}(h:l[k]? =U x):1+tot t x<=tot (.sl t) l:=kE (List.mem_of_getElem? h)
theorem cO{t:Ty}(l:List (den t)):l.length<=tot (.sl t) l:=Nat.le_add_right _ _
theorem wA{t:Ty}(l m:List (den t)):tot (.sl t) (l++m)=tot (.sl t) l+tot (.sl t) m:=by
 simp only[tot,C7,IG,List.sum_append];omega
theorem kD{t:Ty}(x:den t)(l:List (den t)):tot (.sl t) (x::l)=1+tot t x+tot (.sl t) l:=by
 simp only[tot,C6,CA,D6];omega
theorem Lk{t:Ty}(x:den t):tot (.sl t) [x]=1+tot t x:=by simp[tot]
theorem OD{t:Ty}:tot (.sl t) ([]:List (den t))=0:=rfl
theorem Ql{t:Ty}(l:List (den t)):(l.map λx=>1+tot t x).sum=tot (.sl t) l:=by
 induction l with
 | nil=>rfl
 | cons x l ih=>rw[kD,CA,D6,ih]
theorem cT{α:Type}(l:List α):(l.map λ_=>1).sum=l.length:=by
 induction l with
 | nil=>rfl
 | cons x l ih=>rw[CA,D6,ih,C6];omega
theorem sum_nil{α:Type}(l:List α):(l.map λ_=>0).sum=0:=by
 induction l with
 | nil=>rfl
 | cons x l ih=>rw[CA,D6,ih]
theorem VZ{t:Ty}(l:List (den t))(n:Nat):tot (.sl t) (l.take n)<=tot (.sl t) l:=by
 have h:=wA (t:=t) (l.take n) (l.drop n);rw[List.take_append_drop]at h;omega
theorem X3{t:Ty}:∀l:List (den t),tot (.sl t) l.reverse=tot (.sl t) l
 | []=>rfl
 | x::l=>by rw[List.reverse_cons,wA,Lk,kD,X3 l];omega
theorem So{α:Type}{l:List α}{n k:Nat}{x:α}(h:(l.take n)[k]? =U x):l[k]? =U x/\k<n:=by
 rw[List.getElem?_take]at h
 by_cases hk:k<n
 .rw[zT hk]at h;exact⟨h,hk⟩
 .rw[zS hk]at h;cases h
theorem Ld{α:Type}{l:List α}{i:Int}(h0:0<=i)(h:i<=(l.length:Int) - 1):∃x,l[i.toNat]? =U x:=⟨l[i.toNat]'(by omega),List.getElem?_eq_getElem (by omega)⟩
theorem VE{α:Type}{l:List α}{i:Nat}{x:α}(h:l[i]? =U x):l.take (i+1)=l.take i++[x]:=by rw[List.take_add_one,h];rfl
theorem S7{α:Type}{l:List α}{k:Nat}(h:k<=l.length):cut l (k:Int) (l.length:Int)=l.drop k:=by
 simp only[cut,Int.toNat_natCast];exact List.take_of_length_le (by simp)
theorem yK{a b n:Nat}:bG (a:Int) (b:Int) (n:Int)=(D (a<=b)&&D (b<=n)):=by
 simp[bG]
theorem J5{α:Type}{l:List α}{i:Int}{x:α}(h0:0<=i)(h:l[i.toNat]? =U x):idx l i=U x:=by simp[idx,h0,h]
theorem OF{α:Type}{l:List α}{i:Int}(h0:0<=i)(h:i<(l.length:Int)):idx l i=U (l[i.toNat]'(by omega)):=by
 simp[idx,h0]
theorem aD{α β:Type}(p:α×β):(p.1,p.2)=p:=rfl
end Go.V
