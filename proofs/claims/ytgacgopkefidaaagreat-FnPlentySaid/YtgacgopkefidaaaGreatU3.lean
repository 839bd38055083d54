/-
  Typed frames and what code makes of them, over any program: part 3. Conditions: none.
-/
import Derived.Test.YtgacgopkefidaaaGreatU2
set_option linter.unusedVariables false
namespace Go.V
open Go.Ab Go.RowKit
theorem nil_or_concat {α:Type} (l:List α):l=[]∨ ∃ m z,l=m++[z]:=by
 cases l with
 | nil=>exact .inl rfl
 | cons a l=>exact .inr ⟨(a::l).dropLast,(a::l).getLast (by simp),(List.dropLast_concat_getLast (by simp)).symm⟩
section
variable {α S σ R:Type}
def forL (B:Nat→α→σ→σ⊕R) (out:σ→R):Nat→List α→σ→R
 | _,[],a=>out a
 | k,x::xs,a=>match B k x a with
  | .inl a'=>forL B out (k+1) xs a'
  | .inr r=>r
theorem loopE (enc:Nat→σ→S) (s0:S) (a0:σ) (l:List α) (B:Nat→α→σ→σ⊕R) (I:Nat→σ→Prop) (out:σ→R) {step:S→Option (S⊕R)} (hs:s0=enc 0 a0) (hl:l.length≤4611686018427387904) (h0:I 0 a0)
  (h: ∀ (k:Nat) (x:α) (a:σ),idx l (k:Int)=some x→l[k]? =some x→decide ((k:Int)<(l.length:Int))=true→IntKind.i64.wrap ((k:Int)+1)=((k+1:Nat):Int)→k<l.length→I k a→
   step (enc k a)=some ((B k x a).elim (fun a'=> .inl (enc (k+1) a')) .inr)∧ ∀ a',B k x a= .inl a'→I (k+1) a')
  (he: ∀ a,I l.length a→step (enc l.length a)=some (.inr (out a))):loopM step s0=some (forL B out 0 l a0):=by
 subst hs
 have key: ∀ (rest pre:List α) (a:σ),pre++rest=l→I pre.length a→loopM step (enc pre.length a)=some (forL B out pre.length rest a):=by
  intro rest
  induction rest with
  | nil=>intro pre a hp hI;rw [List.append_nil] at hp;subst hp;exact loopM_done (he a hI)
  | cons x rest ih=>
   intro pre a hp hI
   have hlt:pre.length<l.length:=by rw [← hp];simp
   have hx:l[pre.length]? =some x:=by rw [← hp];simp
   obtain ⟨h1,h2⟩:=h pre.length x a (by rw [idx_nat];exact hx) hx (by simpa using hlt) (by rw [wri (by omega) (by omega)];omega) hlt hI
   simp only [forL]
   cases hB:B pre.length x a with
   | inl a'=>
    rw [hB] at h1
    rw [loopM_next h1]
    have :=ih (pre++[x]) a' (by simpa using hp) (by simpa using h2 a' hB)
    simpa using this
   | inr r=>rw [hB] at h1;exact loopM_done h1
 exact key l [] a0 rfl h0
def foldI (f:Nat→α→σ→σ):Nat→List α→σ→σ
 | _,[],a=>a
 | k,x::xs,a=>foldI f (k+1) xs (f k x a)
theorem loopF (enc:Nat→σ→S) (s0:S) (a0:σ) (l:List α) (f:Nat→α→σ→σ) (m:σ→Nat) (cost:α→Nat) (N:Nat) (out:σ→R) {step:S→Option (S⊕R)} (hs:s0=enc 0 a0) (hl:l.length≤4611686018427387904) (hN:m a0+(l.map cost).sum≤N)
  (h: ∀ (k:Nat) (x:α) (a:σ),idx l (k:Int)=some x→l[k]? =some x→decide ((k:Int)<(l.length:Int))=true→IntKind.i64.wrap ((k:Int)+1)=((k+1:Nat):Int)→k<l.length→m a+cost x≤N→
   step (enc k a)=some (.inl (enc (k+1) (f k x a)))∧m (f k x a)≤m a+cost x)
  (he: ∀ a,step (enc l.length a)=some (.inr (out a))):loopM step s0=some (out (foldI f 0 l a0))∧m (foldI f 0 l a0)≤m a0+(l.map cost).sum:=by
 subst hs
 have key: ∀ (rest pre:List α) (a:σ),pre++rest=l→m a+(rest.map cost).sum≤N→loopM step (enc pre.length a)=some (out (foldI f pre.length rest a))∧m (foldI f pre.length rest a)≤m a+(rest.map cost).sum:=by
  intro rest
  induction rest with
  | nil=>intro pre a hp hI;rw [List.append_nil] at hp;subst hp;exact ⟨loopM_done (he a),by simp [foldI]⟩
  | cons x rest ih=>
   intro pre a hp hI
   have hlt:pre.length<l.length:=by rw [← hp];simp
   have hx:l[pre.length]? =some x:=by rw [← hp];simp
   simp only [List.map_cons,List.sum_cons] at hI ⊢
   obtain ⟨h1,h2⟩:=h pre.length x a (by rw [idx_nat];exact hx) hx (by simpa using hlt) (by rw [wri (by omega) (by omega)];omega) hlt (by omega)
   simp only [foldI]
   rw [loopM_next h1]
   have :=ih (pre++[x]) (f pre.length x a) (by simpa using hp) (by omega)
   simp only [List.length_append,List.length_cons,List.length_nil,Nat.zero_add] at this
   exact ⟨this.1,by omega⟩
 exact key l [] a0 rfl hN
theorem loopG (enc:Nat→σ→S) (s0:S) (a0:σ) (l:List α) (f:Nat→α→σ→σ) (m:σ→Nat) (cost:α→Nat) (N:Nat) (out:σ→R) {step:S→Option (S⊕R)} (hs:s0=enc 0 a0) (hl:l.length≤4611686018427387904) (hN:m a0+(l.map cost).sum≤N) (hm: ∀ k x a,m (f k x a)≤m a+cost x)
  (h: ∀ (k:Nat) (x:α) (a:σ),idx l (k:Int)=some x→l[k]? =some x→decide ((k:Int)<(l.length:Int))=true→IntKind.i64.wrap ((k:Int)+1)=((k+1:Nat):Int)→k<l.length→m a+cost x≤N→
   step (enc k a)=some (.inl (enc (k+1) (f k x a))))
  (he: ∀ a,step (enc l.length a)=some (.inr (out a))):loopM step s0=some (out (foldI f 0 l a0)):=
 (loopF enc s0 a0 l f m cost N out hs hl hN (fun k x a h1 h2 h3 h4 h5 h6=>⟨h k x a h1 h2 h3 h4 h5 h6,hm k x a⟩) he).1
theorem foldI_m {f:Nat→α→σ→σ} {m:σ→Nat} {cost:α→Nat} (hm: ∀ k x a,m (f k x a)≤m a+cost x): ∀ (l:List α) (k:Nat) (a:σ),m (foldI f k l a)≤m a+(l.map cost).sum
 | [],_,_=>by simp [foldI]
 | x::xs,k,a=>by
  have h1:=hm k x a
  have h2:=foldI_m hm xs (k+1) (f k x a)
  simp only [foldI,List.map_cons,List.sum_cons]
  omega
theorem loopR (enc:Int→σ→S) (s0:S) (a0:σ) (l:List α) (f:α→σ→σ) (m:σ→Nat) (cost:α→Nat) (N:Nat) (out:σ→R) {step:S→Option (S⊕R)} (hs:s0=enc ((l.length:Int) - 1) a0) (hl:l.length≤4611686018427387904) (hN:m a0+(l.map cost).sum≤N) (hm: ∀ x a,m (f x a)≤m a+cost x)
  (h: ∀ (k:Nat) (x:α) (a:σ),idx l (k:Int)=some x→l[k]? =some x→decide ((k:Int)≥(0:Int))=true→IntKind.i64.wrap ((k:Int) - 1)=(k:Int) - 1→k<l.length→m a+cost x≤N→step (enc (k:Int) a)=some (.inl (enc ((k:Int) - 1) (f x a))))
  (he: ∀ a,step (enc (-1) a)=some (.inr (out a))):loopM step s0=some (out (l.foldr f a0)):=by
 subst hs
 have key: ∀ (n:Nat) (pre post:List α) (a:σ),pre++post=l→pre.length=n→m a+(pre.map cost).sum≤N→loopM step (enc ((pre.length:Int) - 1) a)=some (out (pre.foldr f a)):=by
  intro n
  induction n with
  | zero=>
   intro pre post a hp hn hI
   have :pre=[]:=List.length_eq_zero_iff.1 hn
   subst this
   exact loopM_done (he a)
  | succ n ih=>
   intro pre post a hp hn hI
   rcases nil_or_concat pre with rfl | ⟨q,x,rfl⟩
   ·simp at hn
   ·have hq:q.length=n:=by simpa using hn
    have hx:l[q.length]? =some x:=by rw [← hp];simp
    have hlt:q.length<l.length:=(List.getElem?_eq_some_iff.1 hx).1
    rw [List.map_append,List.sum_append] at hI
    simp only [List.map_cons,List.map_nil,List.sum_cons,List.sum_nil,Nat.add_zero] at hI
    have h1:=h q.length x a (by rw [idx_nat];exact hx) hx (by simp) (wri (by omega) (by omega)) hlt (by omega)
    have h2:=hm x a
    have e1:(((q++[x]).length:Nat):Int) - 1=(q.length:Int):=by simp
    rw [e1,loopM_next h1,ih q ([x]++post) (f x a) (by simpa using hp) hq (by omega)]
    rw [List.foldr_append]
    rfl
 have :=key l.length l [] a0 (List.append_nil l) rfl hN
 exact this
theorem foldr_m {f:α→σ→σ} {m:σ→Nat} {cost:α→Nat} (hm: ∀ x a,m (f x a)≤m a+cost x): ∀ (l:List α) (a:σ),m (l.foldr f a)≤m a+(l.map cost).sum
 | [],_=>by simp
 | x::xs,a=>by
  have h2:=foldr_m hm xs a
  have h1:=hm x (xs.foldr f a)
  simp only [List.foldr_cons,List.map_cons,List.sum_cons]
  omega
theorem foldr_map {β:Type} (g:α→β): ∀ (l:List α) (a:List β),l.foldr (fun x a=>a++[g x]) a=a++(l.reverse.map g)
 | [],a=>by simp
 | x::xs,a=>by simp [foldr_map g xs]
theorem set_last {α:Type} (m:List α) (z y:α):(m++[z]).set m.length y=m++[y]:=by simp
theorem lt_last {α:Type} (m:List α) (z:α):decide ((m.length:Int)<((m++[z]).length:Int))=true:=by
 rw [List.length_append,List.length_singleton];simp;omega
theorem get_last {α:Type} (m:List α) (z:α):(m++[z])[m.length]? =some z:=by simp
theorem pos_nat (n:Nat):decide ((0:Int)≤(n:Int))=true:=by simp
theorem pos_nat' (n:Nat):decide ((n:Int)≥(0:Int))=true:=by simp
theorem foldI_foldl (g:σ→α→σ): ∀ (l:List α) (k:Nat) (a:σ),foldI (fun _ x a=>g a x) k l a=l.foldl g a
 | [],_,_=>rfl
 | x::xs,k,a=>foldI_foldl g xs (k+1) (g a x)
theorem foldI_map {β:Type} (g:α→β): ∀ (l:List α) (k:Nat) (a:List β),foldI (fun _ x a=>a++[g x]) k l a=a++l.map g
 | [],_,a=>by simp [foldI]
 | x::xs,k,a=>by simp [foldI,foldI_map g xs]
theorem foldI_filter (p:α→Bool): ∀ (l:List α) (k:Nat) (a:List α),foldI (fun _ x a=>if p x then a++[x] else a) k l a=a++l.filter p
 | [],_,a=>by simp [foldI]
 | x::xs,k,a=>by
  simp only [foldI,List.filter_cons]
  rw [foldI_filter p xs]
  split<;>simp
theorem foldI_congr {f g:Nat→α→σ→σ}: ∀ {l:List α} {k:Nat} {a:σ},(∀ j x a,l[j]? =some x→f (k+j) x a=g (k+j) x a)→foldI f k l a=foldI g k l a
 | [],_,_,_=>rfl
 | x::xs,k,a,h=>by
  have h0:=h 0 x a rfl
  simp only [Nat.add_zero] at h0
  simp only [foldI,h0]
  exact foldI_congr fun j y b hy=>by
   have h1:=h (j+1) y b (by simpa using hy)
   rw [show k+1+j=k+(j+1) by omega]
   exact h1
end
theorem toL_run {α:Type} {bytes:Nat} {z:α} {a:List α} {step:Int×List α→Option ((Int×List α)⊕List α)} (hl:a.length≤1048576) (hb:bytes≤100000)
  (h: ∀ (k:Nat) (L:List α) (x:α),idx a (k:Int)=some x→x∈a→decide ((k:Int)<(a.length:Int))=true→decide ((0:Int)≤(k:Int))=true→decide ((k:Int)<(L.length:Int))=true→decide (k<L.length)=true→IntKind.i64.wrap ((k:Int)+1)=((k+1:Nat):Int)→step ((k:Int),L)=some (.inl (((k+1:Nat):Int),L.set k x)))
  (he: ∀ L,step ((a.length:Int),L)=some (.inr L)):cond (mkOk bytes (a.length:Int) (a.length:Int)) (@Option.bind (List α) (List α) (@loopM (Int×List α) (List α) step ((0:Int),List.replicate (a.length:Int).toNat z)) fun s=>some s) none=some a:=by
 have hmk:mkOk bytes (a.length:Int) (a.length:Int)=true:=by
  simp only [mkOk,Bool.and_eq_true,decide_eq_true_eq]
  refine ⟨trivial,by omega,?_,by omega⟩
  have :bytes * a.length≤100000 * 1048576:=Nat.mul_le_mul hb hl
  have h2:((bytes:Int) * (a.length:Int))=((bytes * a.length:Nat):Int):=by simp
  omega
 rw [hmk,cond_true]
 have :=loopM_to (step:=step) (st:=fun k=>((k:Int),a.take k++List.replicate (a.length - k) z)) (m:=a.length) (r:=a) (fun k hk=>by
   have h3:a[k]? =some a[k]:=List.getElem?_eq_getElem hk
   have h4:(a.take k++List.replicate (a.length - k) z).length=a.length:=by simp;omega
   have h7:(a.take k++List.replicate (a.length - k) z).set k a[k]=a.take (k+1)++List.replicate (a.length - (k+1)) z:=by
    have e1:(a.take k).length=k:=by simp;omega
    rw [List.set_append_right _ _ (by omega),e1,Nat.sub_self]
    obtain ⟨m,hm⟩: ∃ m,a.length - k=m+1:=⟨a.length - k - 1,by omega⟩
    have e2:a.take (k+1)=a.take k++[a[k]]:=by rw [List.take_add_one,h3];rfl
    rw [hm,List.replicate_succ,List.set_cons_zero,show a.length - (k+1)=m by omega,e2,List.append_assoc]
    rfl
   rw [← h7]
   exact h k _ a[k] (by rw [idx_nat];exact h3) (List.getElem_mem hk) (by simpa using hk) (by simp) (by rw [h4];simpa using hk) (by rw [h4];simpa using hk) (by rw [wri (by omega) (by omega)];omega)) (by simpa [List.take_of_length_le] using he a)
 have h0:(((0:Nat):Int),a.take 0++List.replicate (a.length - 0) z)=((0:Int),List.replicate (a.length:Int).toNat z):=by simp
 rw [h0] at this
 rw [this]
 rfl
theorem toL_run' {α:Type} {bytes:Nat} {z:α} {a:List α} {step:Int×List α→Option ((Int×List α)⊕List α)} (hl:a.length≤1048576) (hb:bytes≤100000)
  (h: ∀ (k:Nat) (L:List α) (x:α),idx a (k:Int)=some x→x∈a→decide ((k:Int)<(a.length:Int))=true→decide ((0:Int)≤(k:Int))=true→decide ((k:Int)<(L.length:Int))=true→decide (k<L.length)=true→IntKind.i64.wrap ((k:Int)+1)=((k+1:Nat):Int)→step ((k:Int),L)=some (.inl (((k+1:Nat):Int),L.set k x)))
  (he: ∀ L,step ((a.length:Int),L)=some (.inr L)): @Option.bind (List α) (List α) (cond (mkOk bytes (a.length:Int) (a.length:Int)) (some (List.replicate (a.length:Int).toNat z)) none) (fun s1=> @Option.bind (List α) (List α) (@loopM (Int×List α) (List α) step ((0:Int),s1)) fun s=>some s)=some a:=by
 have key:=toL_run (z:=z) hl hb h he
 cases hm:mkOk bytes (a.length:Int) (a.length:Int) with
 | false=>rw [hm] at key;cases key
 | true=>rw [hm] at key;exact key
theorem apOk_le {b n m:Nat} (hb:b≤2000) (h:n+m≤68719476736):apOk b n m=true:=by
 simp only [apOk,decide_eq_true_eq]
 calc (n+m) * (b+1)≤68719476736 * 2001:=Nat.mul_le_mul h (by omega)
  _≤140737488355328:=by decide
theorem tot_mem {t:Ty} {l:List (den t)} {x:den t} (h:x∈l):1+tot t x≤tot (.sl t) l:=by
 have h1:=sum_mem (f:=tot t) h
 have h2:=List.length_pos_of_mem h
 simp only [tot];omega
theorem tot_get {t:Ty} {l:List (den t)} {x:den t} {k:Nat} (h:l[k]? =some x):1+tot t x≤tot (.sl t) l:=tot_mem (List.mem_of_getElem? h)
theorem tot_len {t:Ty} (l:List (den t)):l.length≤tot (.sl t) l:=Nat.le_add_right _ _
theorem tot_app {t:Ty} (l m:List (den t)):tot (.sl t) (l++m)=tot (.sl t) l+tot (.sl t) m:=by
 simp only [tot,List.length_append,List.map_append,List.sum_append];omega
theorem tot_cons {t:Ty} (x:den t) (l:List (den t)):tot (.sl t) (x::l)=1+tot t x+tot (.sl t) l:=by
 simp only [tot,List.length_cons,List.map_cons,List.sum_cons];omega
theorem tot_one {t:Ty} (x:den t):tot (.sl t) [x]=1+tot t x:=by simp [tot]
theorem tot_nil {t:Ty}:tot (.sl t) ([]:List (den t))=0:=rfl
theorem tot_sum {t:Ty} (l:List (den t)):(l.map fun x=>1+tot t x).sum=tot (.sl t) l:=by
 induction l with
 | nil=>rfl
 | cons x l ih=>rw [tot_cons,List.map_cons,List.sum_cons,ih]
theorem sum_one {α:Type} (l:List α):(l.map fun _=>1).sum=l.length:=by
 induction l with
 | nil=>rfl
 | cons x l ih=>rw [List.map_cons,List.sum_cons,ih,List.length_cons];omega
theorem sum_nil {α:Type} (l:List α):(l.map fun _=>0).sum=0:=by
 induction l with
 | nil=>rfl
 | cons x l ih=>rw [List.map_cons,List.sum_cons,ih]
theorem tot_take {t:Ty} (l:List (den t)) (n:Nat):tot (.sl t) (l.take n)≤tot (.sl t) l:=by
 have h:=tot_app (t:=t) (l.take n) (l.drop n)
 rw [List.take_append_drop] at h
 omega
theorem tot_drop {t:Ty} (l:List (den t)) (n:Nat):tot (.sl t) (l.drop n)≤tot (.sl t) l:=by
 have h:=tot_app (t:=t) (l.take n) (l.drop n)
 rw [List.take_append_drop] at h
 omega
theorem tot_filter {t:Ty} (p:den t→Bool): ∀ l:List (den t),tot (.sl t) (l.filter p)≤tot (.sl t) l
 | []=>Nat.le_refl _
 | x::l=>by
  rw [List.filter_cons,tot_cons]
  have :=tot_filter p l
  split
  ·rw [tot_cons];omega
  ·omega
theorem tot_rev {t:Ty}: ∀ l:List (den t),tot (.sl t) l.reverse=tot (.sl t) l
 | []=>rfl
 | x::l=>by rw [List.reverse_cons,tot_app,tot_one,tot_cons,tot_rev l];omega
theorem get_take {α:Type} {l:List α} {n k:Nat} {x:α} (h:(l.take n)[k]? =some x):l[k]? =some x∧k<n:=by
 rw [List.getElem?_take] at h
 by_cases hk:k<n
 ·rw [if_pos hk] at h;exact ⟨h,hk⟩
 ·rw [if_neg hk] at h;cases h
theorem get_some {α:Type} {l:List α} {i:Int} (h0:0≤i) (h:i≤(l.length:Int) - 1): ∃ x,l[i.toNat]? =some x:=⟨l[i.toNat]'(by omega),List.getElem?_eq_getElem (by omega)⟩
theorem take_succ {α:Type} {l:List α} {i:Nat} {x:α} (h:l[i]? =some x):l.take (i+1)=l.take i++[x]:=by rw [List.take_add_one,h];rfl
theorem cut_drop {α:Type} {l:List α} {k:Nat} (h:k≤l.length):cut l (k:Int) (l.length:Int)=l.drop k:=by
 simp only [cut,Int.toNat_natCast]
 exact List.take_of_length_le (by simp)
theorem slOk_nat {a b n:Nat}:slOk (a:Int) (b:Int) (n:Int)=(decide (a≤b)&&decide (b≤n)):=by
 simp [slOk]
theorem idx_neg {α:Type} {l:List α} {i:Int} (h: ¬ (0≤i)):idx l i=none:=by simp [idx,h]
theorem idx_of {α:Type} {l:List α} {i:Int} {x:α} (h0:0≤i) (h:l[i.toNat]? =some x):idx l i=some x:=by simp [idx,h0,h]
theorem idx_lt {α:Type} {l:List α} {i:Int} (h0:0≤i) (h:i<(l.length:Int)):idx l i=some (l[i.toNat]'(by omega)):=by
 simp [idx,h0]
theorem peta {α β:Type} (p:α×β):(p.1,p.2)=p:=rfl
theorem wrap_nat {n:Nat} (h:n≤4611686018427387904):IntKind.i64.wrap (n:Int)=(n:Int):=wri (by omega) (by omega)
theorem map_id_of {α:Type} {f:α→α} {l:List α} (h: ∀ x∈l,f x=x):l.map f=l:=by
 induction l with
 | nil=>rfl
 | cons x l ih=>rw [List.map_cons,h x (List.mem_cons_self ..),ih fun y hy=>h y (List.mem_cons_of_mem _ hy)]
end Go.V
