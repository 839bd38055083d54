/-
  Facts and plain laws: what the functions compute, in plain words. Conditions: as each says.
-/
import Derived.Test.YtejfajiolkojlaaT0FnGates
set_option linter.unusedVariables false
set_option linter.unusedSimpArgs false
set_option maxRecDepth 100000
namespace Go.Proofs.Ytejfajiolkojlaa
open Go.Ab Go.V
def inR (n a b:Int):Bool:=decide (a≤n)&&decide (n≤b)

theorem i_in (n a b:Int):i_IR n a b=some (inR n a b):=by
 unfold i_IR inR
 by_cases h:a≤n<;>simp [h]

theorem s_in (n a b:Int):s_l1In n a b=some (inR n a b):=by
 unfold s_l1In inR
 by_cases h:a≤n<;>simp [h]

theorem i_max (a b:Int):i_Max a b=some (if b>a then b else a):=rfl

theorem s_max (a b:Int):s_Max a b=some (if b>a then b else a):=by
 unfold s_Max
 by_cases h:b>a<;>simp [h]

def validV (x:den tRv):Bool:=inR x.1 0 7&&(inR x.2.1 1 6&&inR x.2.2 0 1000000)

theorem i_validV (x:den tRv):i_ValidRevocation x=some (validV x):=by
 unfold i_ValidRevocation validV
 simp only [i_in,obind_some]
 cases inR x.1 0 7<;>cases inR x.2.1 1 6<;>cases inR x.2.2 0 1000000<;>rfl

theorem s_validV (x:den tRv):s_ValidRevocation x=some (validV x):=by
 unfold s_ValidRevocation validV
 simp only [s_in,obind_some]
 cases inR x.1 0 7<;>cases inR x.2.1 1 6<;>cases inR x.2.2 0 1000000<;>rfl

abbrev active (l:List (den tRs)) (now:Int):List (den tRs):=l.filter fun x=>decide (now≤x.2.2.2.2)

theorem i_active {l:List (den tRs)} {now:Int} (h:l.length≤1073741824):i_ActiveReservations l now=some (active l now):=by
 unfold i_ActiveReservations
 rw [(loop_fold (l:=l) (out:=fun a=>a) (fun (a:List (den tRs)) x=>if decide (now≤x.2.2.2.2) then a++[x] else a) (fun k a=>a.length≤k) (by omega) (by simp) (fun k x a hi hd hw hx hk hI=>by
  simp only [hd,hi,hw,cond_true,obind_some]
  by_cases hp:now≤x.2.2.2.2
  ·simp [hp,apOk_le (b:=40) (n:=a.length) (m:=1) (by decide) (by omega)];omega
  ·simp [hp];omega) (fun a=>by simp)).1]
 simp only [foldl_filter,List.nil_append,obind_some]

theorem s_active {l:List (den tRs)} {now:Int} (h:l.length≤1073741824):s_ActiveReservations l now=some (active l now):=by
 unfold s_ActiveReservations
 rw [(loop_fold (l:=l) (out:=fun a=>a) (fun (a:List (den tRs)) x=>if decide (now≤x.2.2.2.2) then a++[x] else a) (fun k a=>a.length≤k) (by omega) (by simp) (fun k x a hi hd hw hx hk hI=>by
  simp only [hd,hi,hw,cond_true,obind_some]
  by_cases hp:now≤x.2.2.2.2
  ·simp [hp,apOk_le (b:=40) (n:=a.length) (m:=1) (by decide) (by omega)];omega
  ·simp [hp];omega) (fun a=>by simp)).1]
 simp only [foldl_filter,List.nil_append,obind_some]

def atR (x:den tRs) (s d:Int):Bool:=x.2.1==s&&x.2.2.1==d

theorem i_at (x:den tRs) (s d:Int):i_Reservation_at x s d=some (atR x s d):=by
 unfold i_Reservation_at atR
 cases x.2.1==s<;>simp

theorem s_at (x:den tRs) (s d now:Int):s_l32At x s d now=some (atR x s d&&decide (now≤x.2.2.2.2)):=by
 unfold s_l32At atR
 cases x.2.1==s<;>cases x.2.2.1==d<;>simp

def rate (l:List (den tRs)) (s d now:Int):Int:=l.foldl (fun a x=>if atR x s d&&decide (now≤x.2.2.2.2) then wr (a+x.2.2.2.1) else a) 0

theorem i_rate {l:List (den tRs)} {s d now:Int} (h:l.length≤1073741824):i_ReservedRate l s d now=some (rate l s d now):=by
 unfold i_ReservedRate
 rw [(loop_fold' (l:=l) (out:=fun a=>a) (fun (a:Int) x=>if atR x s d&&decide (now≤x.2.2.2.2) then wr (a+x.2.2.2.1) else a) (fun _ _=>True) (by omega) trivial (fun k x a hi hd hw hx hk hI=>by
  refine ⟨?_,trivial⟩
  simp only [hd,hi,hw,cond_true,obind_some]
  rw [show ((x.1,x.2.1,x.2.2.1,x.2.2.2.1,x.2.2.2.2):den tRs)=x from rfl,i_at]
  cases atR x s d<;>cases decide (now≤x.2.2.2.2)<;>rfl) (fun a=>by simp)).1]
 rfl

theorem s_rate {l:List (den tRs)} {s d now:Int} (h:l.length≤1073741824):s_ReservedRate l s d now=some (rate l s d now):=by
 unfold s_ReservedRate
 rw [(loop_fold' (l:=l) (out:=fun a=>a) (fun (a:Int) x=>if atR x s d&&decide (now≤x.2.2.2.2) then wr (a+x.2.2.2.1) else a) (fun _ _=>True) (by omega) trivial (fun k x a hi hd hw hx hk hI=>by
  refine ⟨?_,trivial⟩
  simp only [hd,hi,hw,cond_true,obind_some]
  rw [show ((x.1,x.2.1,x.2.2.1,x.2.2.2.1,x.2.2.2.2):den tRs)=x from rfl,s_at]
  cases atR x s d<;>cases decide (now≤x.2.2.2.2)<;>rfl) (fun a=>by simp)).1]
 rfl

def free (l:List (den tRs)) (cap s d now:Int):Int:=if wr (cap - rate l s d now)>0 then wr (cap - rate l s d now) else 0

theorem i_free {l:List (den tRs)} {cap s d now:Int} (h:l.length≤1073741824):i_FreeRate l cap s d now=some (free l cap s d now):=by
 unfold i_FreeRate
 simp only [i_rate h,obind_some,i_max];rfl

theorem s_free {l:List (den tRs)} {cap s d now:Int} (h:l.length≤1073741824):s_FreeRate l cap s d now=some (free l cap s d now):=by
 unfold s_FreeRate
 simp only [s_rate h,obind_some,s_max];rfl

def resRate (l:List (den tRs)) (id s d now:Int):Int:=
 match scanI (fun _ (x:den tRs)=>if x.1==id&&(atR x s d&&decide (now≤x.2.2.2.2)) then some x.2.2.2.1 else none) 0 l with
 | some r=>r
 | none=>0

theorem i_resRate {l:List (den tRs)} {id s d now:Int} (h:l.length≤1073741824):i_ReservationRate l id s d now=some (resRate l id s d now):=by
 unfold i_ReservationRate
 rw [loop_scan (l:=l) (fun _ (x:den tRs)=>if x.1==id&&(atR x s d&&decide (now≤x.2.2.2.2)) then some x.2.2.2.1 else none) (by omega) (fun k x hi hd hw hx hk=>by
  simp only [hd,hi,hw,cond_true,obind_some]
  rw [show ((x.1,x.2.1,x.2.2.1,x.2.2.2.1,x.2.2.2.2):den tRs)=x from rfl,i_at]
  cases x.1==id<;>cases atR x s d<;>cases decide (now≤x.2.2.2.2)<;>rfl) (by simp)]
 unfold resRate
 cases scanI (fun _ (x:den tRs)=>if x.1==id&&(atR x s d&&decide (now≤x.2.2.2.2)) then some x.2.2.2.1 else none) 0 l<;>rfl

theorem s_resRate {l:List (den tRs)} {id s d now:Int} (h:l.length≤1073741824):s_ReservationRate l id s d now=some (resRate l id s d now):=by
 unfold s_ReservationRate
 rw [loop_scan (l:=l) (fun _ (x:den tRs)=>if x.1==id&&(atR x s d&&decide (now≤x.2.2.2.2)) then some x.2.2.2.1 else none) (by omega) (fun k x hi hd hw hx hk=>by
  simp only [hd,hi,hw,cond_true,obind_some]
  rw [show ((x.1,x.2.1,x.2.2.1,x.2.2.2.1,x.2.2.2.2):den tRs)=x from rfl,s_at]
  cases x.1==id<;>cases atR x s d<;>cases decide (now≤x.2.2.2.2)<;>rfl) (by simp)]
 unfold resRate
 cases scanI (fun _ (x:den tRs)=>if x.1==id&&(atR x s d&&decide (now≤x.2.2.2.2)) then some x.2.2.2.1 else none) 0 l<;>rfl

def validR (x:den tRs):Bool:=inR x.1 1 100000&&(inR x.2.2.2.1 1 20&&validV (x.2.1,x.2.2.1,x.2.2.2.2))

theorem i_validR (x:den tRs):i_ValidReservation x=some (validR x):=by
 unfold i_ValidReservation validR
 simp only [i_in,i_validV,obind_some]
 cases inR x.1 1 100000<;>cases inR x.2.2.2.1 1 20<;>cases validV (x.2.1,x.2.2.1,x.2.2.2.2)<;>rfl

theorem s_validR (x:den tRs):s_ValidReservation x=some (validR x):=by
 unfold s_ValidReservation validR
 simp only [s_in,s_validV,obind_some]
 cases inR x.1 1 100000<;>cases inR x.2.2.2.1 1 20<;>cases validV (x.2.1,x.2.2.1,x.2.2.2.2)<;>rfl

def sameR (x y:den tRs):Bool:=y.1==x.1&&atR y x.2.1 x.2.2.1

theorem s_without {l:List (den tRs)} {x:den tRs} (h:l.length≤1073741824):s_l32Without l x=some (l.filter fun y=> !sameR x y):=by
 unfold s_l32Without
 rw [(loop_fold (l:=l) (out:=fun a=>a) (fun (a:List (den tRs)) y=>if !sameR x y then a++[y] else a) (fun k a=>a.length≤k) (by omega) (by simp) (fun k y a hi hd hw hx hk hI=>by
  simp only [hd,hi,hw,cond_true,obind_some]
  have hap:=apOk_le (b:=40) (n:=a.length) (m:=1) (by decide) (by omega)
  unfold sameR atR
  simp only [bne]
  cases h1:y.1==x.1<;>cases h2:y.2.1==x.2.1<;>cases h3:y.2.2.1==x.2.2.1<;>simp [hap]<;>omega) (fun a=>by simp)).1]
 simp only [foldl_filter,List.nil_append,obind_some]


def okR (l:List (den tRs)) (cap now:Int) (k:Nat) (x:den tRs):Bool:=validR x&&(!decide (rate l x.2.1 x.2.2.1 now>cap)&& !(l.take k).any (sameR x))

def validRs (l:List (den tRs)) (cap now:Int):Bool:=
 decide (l.length≤40)&&(scanI (fun k x=>if okR l cap now k x then none else some ()) 0 l).isNone

theorem scanI_none {α R S:Type} (p:Nat→α→Bool) (r:R) (s:S): ∀ (l:List α) (k:Nat),(scanI (fun k x=>if p k x then none else some r) k l).isNone=(scanI (fun k x=>if p k x then none else some s) k l).isNone∧ ∀ q,scanI (fun k x=>if p k x then none else some r) k l=some q→q=r
 | [],_=>⟨rfl,fun q h=>by cases h⟩
 | x::xs,k=>by
  simp only [scanI]
  cases p k x with
  | true=>simpa using scanI_none p r s xs (k+1)
  | false=>simp

theorem scan_false {α:Type} (p:Nat→α→Bool) (l:List α):(match scanI (fun k x=>if p k x then none else some false) 0 l with
  | some r=>some r
  | none=>some true)=some (scanI (fun k x=>if p k x then none else some ()) 0 l).isNone:=by
 obtain ⟨h1,h2⟩:=scanI_none p false () l 0
 rw [← h1]
 cases h:scanI (fun k x=>if p k x then none else some false) 0 l with
 | none=>rfl
 | some q=>rw [h2 q h];rfl

theorem i_validRs {l:List (den tRs)} {cap now:Int} (h:l.length≤1073741824):i_ValidReservations l cap now=some (validRs l cap now):=by
 unfold i_ValidReservations validRs
 by_cases hl:l.length≤40
 ·rw [decide_eq_false (by omega),cond_false,decide_eq_true hl,Bool.true_and]
  rw [loop_scan (l:=l) (fun k x=>if okR l cap now k x then none else some false) (by omega) (fun k x hi hd hw hx hk=>by
   have hslo:slOk (0:Int) (k:Int) (l.length:Int)=true:=by simp [slOk];omega
   have hlen:(l.take k).length≤1073741824:=by simp;omega
   simp only [hd,hi,hw,cond_true,obind_some,hslo,cut_take]
   rw [show ((x.1,x.2.1,x.2.2.1,x.2.2.2.1,x.2.2.2.2):den tRs)=x from rfl,i_validR,i_rate h]
   unfold okR
   cases hv:validR x with
   | false=>rfl
   | true=>
    cases hr:decide (rate l x.2.1 x.2.2.1 now>cap) with
    | true=>simp [hr]
    | false=>
     simp only [obind_some,Bool.not_true,cond_false,hr,Bool.not_false,Bool.true_and]
     rw [loop_scan (l:=l.take k) (R:=Int⊕(Unit⊕Bool)) (fun _ y=>if sameR x y then some (Sum.inr (Sum.inr false)) else none) (by omega) (fun j y hi2 hd2 hw2 hx2 hk2=>by
      simp only [hd2,hi2,hw2,cond_true,obind_some]
      rw [show ((y.1,y.2.1,y.2.2.1,y.2.2.2.1,y.2.2.2.2):den tRs)=y from rfl,i_at]
      unfold sameR
      cases y.1==x.1<;>cases atR y x.2.1 x.2.2.1<;>rfl) (by simp)]
     have key: ∀ (m:List (den tRs)) (j:Nat),scanI (fun _ y=>if sameR x y then some (Sum.inr (Sum.inr false):Int⊕(Unit⊕Bool)) else none) j m=if m.any (sameR x) then some (Sum.inr (Sum.inr false)) else none:=by
      intro m
      induction m with
      | nil=>intro j;rfl
      | cons y m ih=>
       intro j
       simp only [scanI,List.any_cons]
       rcases Bool.eq_false_or_eq_true (sameR x y) with hs | hs
       ·simp [hs]
       ·simp only [hs,ih,Bool.false_eq_true,if_false]
        rfl
     rw [key]
     cases (l.take k).any (sameR x)<;>simp) (by simp)]
  rw [← scan_false]
  cases scanI (fun k x=>if okR l cap now k x then none else some false) 0 l<;>rfl
 ·rw [decide_eq_true (by omega),cond_true,decide_eq_false hl];rfl

theorem s_validRs {l:List (den tRs)} {cap now:Int} (h:l.length≤1073741824):s_ValidReservations l cap now=some (validRs l cap now):=by
 unfold s_ValidReservations validRs
 rw [loop_scan (l:=l) (fun k x=>if okR l cap now k x then none else some false) (by omega) (fun k x hi hd hw hx hk=>by
  have hslo:slOk (0:Int) (k:Int) (l.length:Int)=true:=by simp [slOk];omega
  have hlen:(l.take k).length≤1073741824:=by simp;omega
  simp only [hd,hi,hw,cond_true,obind_some,hslo,cut_take]
  rw [show ((x.1,x.2.1,x.2.2.1,x.2.2.2.1,x.2.2.2.2):den tRs)=x from rfl,s_validR,s_without hlen,s_rate h]
  unfold okR
  cases hv:validR x with
  | false=>rfl
  | true=>
   simp only [obind_some,Bool.not_true,cond_false,Bool.true_and]
   have hany:((((l.take k).filter fun y=> !sameR x y).length:Int) != (k:Int))=(l.take k).any (sameR x):=by
    have hk':(l.take k).length=k:=by simp;omega
    cases ha:(l.take k).any (sameR x) with
    | false=>
     have :(l.take k).filter (fun y=> !sameR x y)=l.take k:=by
      rw [List.filter_eq_self]
      intro y hy
      have :=List.any_eq_false.1 ha y hy
      simpa using this
     rw [this,hk'];simp
    | true=>
     obtain ⟨y,hy,hs⟩:=List.any_eq_true.1 ha
     have hlt:((l.take k).filter fun y=> !sameR x y).length<(l.take k).length:=by
      refine Nat.lt_of_le_of_ne (List.length_filter_le ..) fun he=> ?_
      have :=(List.length_filter_eq_length_iff.1 he) y hy
      rw [hs] at this
      cases this
     rw [bne_iff_ne]
     omega
   rw [hany]
   cases (l.take k).any (sameR x)<;>cases decide (rate l x.2.1 x.2.2.1 now>cap)<;>rfl) (by simp)]
 obtain ⟨h1,h2⟩:=scanI_none (okR l cap now) false () l 0
 rw [← h1]
 cases hsc:scanI (fun k x=>if okR l cap now k x then none else some false) 0 l with
 | none=>simp;omega
 | some q=>rw [h2 q hsc];simp

def sameU (id s d:Int) (x:den tUs):Bool:=x.1==id&&(x.2.1==s&&x.2.2.1==d)

def place (l:List (den tUs)) (id s d:Int):Int:=
 match scanI (fun k x=>if sameU id s d x then some (k:Int) else none) 0 l with
 | some i=>i
 | none=> -1

theorem place_at (l:List (den tUs)) (id s d:Int):place l id s d= -1∨ ∃ (j:Nat) (x:den tUs),place l id s d=(j:Int)∧l[j]? =some x∧j<l.length:=by
 unfold place
 cases h:scanI (fun k x=>if sameU id s d x then some (k:Int) else none) 0 l with
 | none=>exact .inl rfl
 | some i=>
  obtain ⟨j,x,h1,h2,h3⟩:=scanI_at h
  exact .inr ⟨j,x,by simpa using h2,h1,(List.getElem?_eq_some_iff.1 h1).1⟩

theorem i_place {g:den tSc} {id s d:Int} (h:g.2.2.length≤1073741824):i_usageAt g id s d=some (place g.2.2 id s d):=by
 unfold i_usageAt
 rw [loop_scan (l:=g.2.2) (fun k x=>if sameU id s d x then some (k:Int) else none) (by omega) (fun k x hi hd hw hx hk=>by
  simp only [hd,hi,hw,cond_true,obind_some]
  unfold sameU
  cases x.1==id<;>cases x.2.1==s<;>cases x.2.2.1==d<;>rfl) (by simp)]
 unfold place
 cases scanI (fun k x=>if sameU id s d x then some (k:Int) else none) 0 g.2.2<;>rfl

theorem s_place {l:List (den tUs)} {id s d:Int} (h:l.length≤1073741824):s_l34Place l id s d=some (place l id s d):=by
 unfold s_l34Place
 rw [loop_scan (l:=l) (fun k x=>if sameU id s d x then some (k:Int) else none) (by omega) (fun k x hi hd hw hx hk=>by
  simp only [hd,hi,hw,cond_true,obind_some]
  unfold sameU
  cases x.1==id<;>cases x.2.1==s<;>cases x.2.2.1==d<;>rfl) (by simp)]
 unfold place
 cases scanI (fun k x=>if sameU id s d x then some (k:Int) else none) 0 l<;>rfl

def rateU (g:den tSc) (id s d now:Int):Int:=if id==0 then free g.2.1 g.1 s d now else resRate g.2.1 id s d now

theorem i_rateU {g:den tSc} {id s d now:Int} (h:g.2.1.length≤1073741824):i_rateOf g id s d now=some (rateU g id s d now):=by
 unfold i_rateOf rateU
 rw [i_free h,i_resRate h]
 cases id==0<;>rfl

def okU (g:den tSc) (now:Int) (k:Nat) (x:den tUs):Bool:=place g.2.2 x.1 x.2.1 x.2.2.1==(k:Int)&&inR x.2.2.2 1 (rateU g x.1 x.2.1 x.2.2.1 now)

def validS (g:den tSc) (now:Int):Bool:=inR g.1 1 20&&(validRs g.2.1 g.1 now&&(scanI (fun k x=>if okU g now k x then none else some ()) 0 g.2.2).isNone)

theorem i_validS {g:den tSc} {now:Int} (h1:g.2.1.length≤1073741824) (h2:g.2.2.length≤1073741824):i_ValidScheduler g now=some (validS g now):=by
 unfold i_ValidScheduler validS
 rw [loop_scan (l:=g.2.2) (fun k x=>if okU g now k x then none else some false) (by omega) (fun k x hi hd hw hx hk=>by
  simp only [hd,hi,hw,cond_true,obind_some]
  rw [show ((g.1,g.2.1,g.2.2):den tSc)=g from rfl,i_place h2,i_rateU h1]
  unfold okU
  simp only [obind_some,i_in,bne]
  cases place g.2.2 x.1 x.2.1 x.2.2.1==(k:Int)<;>cases inR x.2.2.2 1 (rateU g x.1 x.2.1 x.2.2.1 now)<;>rfl) (by simp)]
 rw [← scanI_none (okU g now) false () g.2.2 0 |>.1]
 have h3:=(scanI_none (okU g now) false () g.2.2 0).2
 simp only [i_in,i_validRs h1,obind_some]
 cases inR g.1 1 20<;>cases validRs g.2.1 g.1 now<;>(cases hsc:scanI (fun k x=>if okU g now k x then none else some false) 0 g.2.2 with
  | none=>rfl
  | some q=>rw [h3 q hsc];rfl)

theorem s_validS {g:den tSc} {now:Int} (h1:g.2.1.length≤1073741824) (h2:g.2.2.length≤1073741824):s_ValidScheduler g now=some (validS g now):=by
 unfold s_ValidScheduler validS
 rw [loop_scan (l:=g.2.2) (fun k x=>if okU g now k x then none else some false) (by omega) (fun k x hi hd hw hx hk=>by
  simp only [hd,hi,hw,cond_true,obind_some,s_place h2,s_free h1,s_resRate h1,s_in]
  unfold okU rateU
  simp only [bne]
  cases x.1==0<;>simp only [cond_true,cond_false,obind_some,s_in,if_true,Bool.false_eq_true,if_false]<;>cases place g.2.2 x.1 x.2.1 x.2.2.1==(k:Int)<;>simp only [Bool.not_true,Bool.not_false,cond_true,cond_false,obind_some,Bool.true_and,Bool.false_and]<;>(first | rfl | (split<;>simp_all))) (by simp)]
 rw [← scanI_none (okU g now) false () g.2.2 0 |>.1]
 have h3:=(scanI_none (okU g now) false () g.2.2 0).2
 simp only [s_in,s_validRs h1,obind_some]
 cases inR g.1 1 20<;>cases validRs g.2.1 g.1 now<;>(cases hsc:scanI (fun k x=>if okU g now k x then none else some false) 0 g.2.2 with
  | none=>rfl
  | some q=>rw [h3 q hsc];rfl)

theorem i_copyR {l:List (den tRs)} (h:l.length≤1073741824):i_copyReservations l=some l:=by
 unfold i_copyReservations
 rw [apOk_le (by decide) (by simp;omega)]
 simp

theorem i_copyS {g:den tSc} (h1:g.2.1.length≤1073741824) (h2:g.2.2.length≤1073741824):i_copyScheduler g=some g:=by
 unfold i_copyScheduler
 rw [i_copyR h1,obind_some,apOk_le (by decide) (by simp;omega)]
 simp

theorem s_copyS {g:den tSc} (h1:g.2.1.length≤1073741824) (h2:g.2.2.length≤1073741824):s_l34Copy g=some g:=by
 unfold s_l34Copy
 rw [apOk_le (b:=40) (by decide) (by simp;omega),apOk_le (b:=32) (by decide) (by simp;omega)]
 simp [both_self,dup_self,dup3_self,dup4_self,dup5_self]

def usedU (l:List (den tUs)) (id s d:Int):Int:=if place l id s d<0 then 0 else ((l[(place l id s d).toNat]?).map (·.2.2.2)).getD 0

theorem i_used {g:den tSc} {id s d:Int} (h:g.2.2.length≤1073741824):i_UsedCount g id s d=some (usedU g.2.2 id s d):=by
 unfold i_UsedCount usedU
 rw [show ((g.1,g.2.1,g.2.2):den tSc)=g from rfl,i_place h,obind_some]
 rcases place_at g.2.2 id s d with hp | ⟨j,x,hp,hx,hj⟩
 ·rw [hp];rfl
 ·rw [hp,decide_eq_true (by omega),cond_true,idx_nat,hx,if_neg (by omega)];simp [hx]

theorem s_used {g:den tSc} {id s d:Int} (h:g.2.2.length≤1073741824):s_UsedCount g id s d=some (usedU g.2.2 id s d):=by
 unfold s_UsedCount usedU
 rw [s_place h,obind_some]
 rcases place_at g.2.2 id s d with hp | ⟨j,x,hp,hx,hj⟩
 ·rw [hp];rfl
 ·rw [hp,decide_eq_false (by omega),cond_false,idx_nat,hx,if_neg (by omega)];simp [hx]

def moreU (l:List (den tUs)) (id s d:Int):List (den tUs):=
 if place l id s d<0 then l++[(id,s,d,1)] else match l[(place l id s d).toNat]? with
  | some x=>l.set (place l id s d).toNat (x.1,x.2.1,x.2.2.1,wr (x.2.2.2+1))
  | none=>l

theorem moreU_len (l:List (den tUs)) (id s d:Int):(moreU l id s d).length≤l.length+1:=by
 unfold moreU
 split
 ·simp
 ·split<;>simp

theorem s_more {g:den tSc} {id s d:Int} (h1:g.2.1.length≤1073741824) (h2:g.2.2.length≤1073741824):s_l34More g id s d=some (g.1,g.2.1,moreU g.2.2 id s d):=by
 unfold s_l34More moreU
 rw [show ((g.1,g.2.1,g.2.2):den tSc)=g from rfl,s_copyS h1 h2,obind_some,s_place h2,obind_some]
 rcases place_at g.2.2 id s d with hp | ⟨j,x,hp,hx,hj⟩
 ·rw [hp,apOk_le (b:=32) (by decide) (by omega)];rfl
 ·have hd:decide ((j:Int)<(g.2.2.length:Int))=true:=by simpa using hj
  have hd2:decide (j<g.2.2.length)=true:=by simpa using hj
  have hd0:decide ((0:Int)≤(j:Int))=true:=by simp
  rw [hp,decide_eq_false (show ¬ (j:Int)<0 by omega),cond_false,if_neg (by omega)]
  simp only [hd,hd0,hd2,cond_true,Int.toNat_natCast,hx,obind_some]

def transU (g:den tSc) (id s d now:Int):Int×Bool×List (den tRs)×List (den tUs):=
 if usedU g.2.2 id s d<rateU g id s d now then (g.1,true,g.2.1,moreU g.2.2 id s d)
 else if usedU g.2.2 0 s d<rateU g 0 s d now then (g.1,true,g.2.1,moreU g.2.2 0 s d)
 else (g.1,false,g.2.1,g.2.2)

theorem i_trans {g:den tSc} {id s d now:Int} (h1:g.2.1.length≤1073741824) (h2:g.2.2.length≤1073741824):i_Transmit g id s d now=some (transU g id s d now):=by
 unfold i_Transmit
 rw [show ((g.1,g.2.1,g.2.2):den tSc)=g from rfl,i_copyS h1 h2,obind_some]
 rw [loop_scan (l:=[id,0]) (fun _ n=>if usedU g.2.2 n s d<rateU g n s d now then some (g.1,true,g.2.1,moreU g.2.2 n s d) else none) (by simp) (fun k n hi hd hw hx hk=>by
  rw [idx_nat] at hi
  have hd0:decide ((0:Int)≤(k:Int))=true:=by simp
  simp only [hd,hd0,hi,hw,cond_true,obind_some,Int.toNat_natCast,i_used h2,i_rateU h1,i_place h2]
  by_cases hu:usedU g.2.2 n s d<rateU g n s d now
  ·rw [decide_eq_false (by omega),cond_false,if_pos hu]
   unfold moreU
   rcases place_at g.2.2 n s d with hp | ⟨j,x,hp,hx,hj⟩
   ·rw [hp,apOk_le (b:=32) (by decide) (by omega)];rfl
   ·have hd1:decide ((j:Int)<(g.2.2.length:Int))=true:=by simpa using hj
    have hd2:decide ((j:Int)≥0)=true:=by simp
    have hd3:decide ((0:Int)≤(j:Int))=true:=by simp
    rw [hp,if_neg (by omega)]
    simp only [hd1,hd2,hd3,cond_true,Int.toNat_natCast,hx,obind_some]
  ·rw [decide_eq_true (by omega),cond_true,if_neg hu]) (by simp)]
 unfold transU
 simp only [scanI]
 by_cases hu:usedU g.2.2 id s d<rateU g id s d now
 ·simp [hu]
 ·by_cases hv:usedU g.2.2 0 s d<rateU g 0 s d now<;>simp [hu,hv]

theorem s_trans {g:den tSc} {id s d now:Int} (h1:g.2.1.length≤1073741824) (h2:g.2.2.length≤1073741824):s_Transmit g id s d now=some (transU g id s d now):=by
 unfold s_Transmit transU
 rw [show ((g.1,g.2.1,g.2.2):den tSc)=g from rfl]
 simp only [s_used h2,s_resRate h1,s_free h1,s_more h1 h2,s_copyS h1 h2,obind_some]
 have h0:rateU g 0 s d now=free g.2.1 g.1 s d now:=rfl
 rw [h0]
 by_cases hid:id=0
 ·subst hid
  rw [h0]
  by_cases hv:usedU g.2.2 0 s d<free g.2.1 g.1 s d now<;>simp [hv]
 ·have hr:rateU g id s d now=resRate g.2.1 id s d now:=by unfold rateU;simp [hid]
  have hne:(id != 0)=true:=by simpa using hid
  rw [hr,hne,cond_true,obind_some]
  by_cases hu:usedU g.2.2 id s d<resRate g.2.1 id s d now
  ·simp [hu]
  ·by_cases hv:usedU g.2.2 0 s d<free g.2.1 g.1 s d now<;>simp [hu,hv]

theorem scan_all {α:Type} (p:Nat→α→Bool): ∀ (l:List α) (k:Nat),(scanI (fun k x=>if p k x then none else some ()) k l).isNone=true↔ ∀ j x,l[j]? =some x→p (k+j) x=true
 | [],k=>by simp [scanI]
 | x::l,k=>by
  have ih:=scan_all p l (k+1)
  cases hp:p k x with
  | true=>
   simp only [scanI,hp,if_true]
   rw [ih]
   constructor
   ·intro h j y hy
    cases j with
    | zero=>simp only [List.getElem?_cons_zero,Option.some.injEq] at hy;subst hy;exact hp
    | succ j=>simp only [List.getElem?_cons_succ] at hy;have :=h j y hy;rwa [show k+1+j=k+(j+1) by omega] at this
   ·intro h j y hy
    have :=h (j+1) y (by simpa using hy);rwa [show k+(j+1)=k+1+j by omega] at this
  | false=>
   simp only [scanI,hp]
   constructor
   ·intro h;simp at h
   ·intro h;have :=h 0 x (by simp);rw [Nat.add_zero,hp] at this;cases this

def plc (id s d:Int):Nat→List (den tUs)→Int
 | _,[]=> -1
 | k,x::l=>if sameU id s d x then (k:Int) else plc id s d (k+1) l

theorem place_plc (l:List (den tUs)) (id s d:Int):place l id s d=plc id s d 0 l:=by
 unfold place
 have : ∀ (l:List (den tUs)) (k:Nat),(match scanI (fun k x=>if sameU id s d x then some (k:Int) else none) k l with
  | some i=>i
  | none=> -1)=plc id s d k l:=by
  intro l
  induction l with
  | nil=>intro k;rfl
  | cons x l ih=>
   intro k
   cases hp:sameU id s d x with
   | true=>simp only [scanI,plc,hp,if_true]
   | false=>simp only [scanI,plc,hp];exact ih (k+1)
 exact this l 0

theorem plc_spec {id s d:Int}: ∀ (l:List (den tUs)) (k:Nat),(plc id s d k l= -1∧ ∀ x∈l,sameU id s d x=false)∨ ∃ j x,plc id s d k l=((k+j:Nat):Int)∧l[j]? =some x∧sameU id s d x=true
 | [],_=> .inl ⟨rfl,fun x hx=>by cases hx⟩
 | x::l,k=>by
  unfold plc
  cases hp:sameU id s d x with
  | true=>exact .inr ⟨0,x,by simp,by simp,hp⟩
  | false=>
   rcases plc_spec l (k+1) with ⟨h1,h2⟩ | ⟨j,y,h1,h2,h3⟩
   ·refine .inl ⟨by simpa using h1,fun y hy=> ?_⟩
    rcases List.mem_cons.1 hy with rfl | hy
    ·exact hp
    ·exact h2 y hy
   ·exact .inr ⟨j+1,y,by rw [if_neg (by simp),h1];congr 1;omega,by simpa using h2,h3⟩

theorem place_spec (l:List (den tUs)) (id s d:Int):(place l id s d= -1∧ ∀ x∈l,sameU id s d x=false)∨ ∃ (j:Nat) (x:den tUs),place l id s d=(j:Int)∧l[j]? =some x∧sameU id s d x=true:=by
 rw [place_plc]
 rcases plc_spec (id:=id) (s:=s) (d:=d) l 0 with h | ⟨j,x,h1,h2,h3⟩
 ·exact .inl h
 ·exact .inr ⟨j,x,by rw [h1,Nat.zero_add],h2,h3⟩

theorem plc_app {id s d:Int} (z:List (den tUs)): ∀ (l:List (den tUs)) (k:Nat),plc id s d k (l++z)=if plc id s d k l<0 then plc id s d (k+l.length) z else plc id s d k l
 | [],k=>by simp [plc]
 | x::l,k=>by
  have e1:plc id s d k (x::l)=if sameU id s d x then (k:Int) else plc id s d (k+1) l:=rfl
  have e2:plc id s d k (x::l++z)=if sameU id s d x then (k:Int) else plc id s d (k+1) (l++z):=rfl
  by_cases hp:sameU id s d x=true
  ·rw [if_pos hp] at e1 e2
   rw [e1,e2,if_neg (by omega)]
  ·rw [if_neg hp] at e1 e2
   rw [e1,e2,plc_app z l (k+1),show k+(x::l).length=k+1+l.length by simp only [List.length_cons];omega]


theorem plc_keys {id s d:Int}: ∀ (l m:List (den tUs)) (k:Nat),l.map (fun x=>(x.1,x.2.1,x.2.2.1))=m.map (fun x=>(x.1,x.2.1,x.2.2.1))→plc id s d k l=plc id s d k m
 | [],[],_,_=>rfl
 | [],_::_,_,h=>by simp at h
 | _::_,[],_,h=>by simp at h
 | x::l,y::m,k,h=>by
  simp only [List.map_cons,List.cons.injEq,Prod.mk.injEq] at h
  obtain ⟨⟨h1,h2,h3⟩,h4⟩:=h
  have e:sameU id s d x=sameU id s d y:=by unfold sameU;rw [h1,h2,h3]
  simp only [plc,e,plc_keys l m (k+1) h4]

theorem sameU_iff {id s d:Int} {x:den tUs}:sameU id s d x=true↔x.1=id∧x.2.1=s∧x.2.2.1=d:=by unfold sameU;simp


def OkUs (g:den tSc) (now:Int):Prop:= ∀ (j:Nat) (x:den tUs),g.2.2[j]? =some x→place g.2.2 x.1 x.2.1 x.2.2.1=(j:Int)∧(1:Int)≤x.2.2.2∧rateU g x.1 x.2.1 x.2.2.1 now≥x.2.2.2

theorem validS_iff {g:den tSc} {now:Int}:validS g now=true↔(1:Int)≤g.1∧(20:Int)≥g.1∧validRs g.2.1 g.1 now=true∧OkUs g now:=by
 unfold validS OkUs
 rw [Bool.and_eq_true,Bool.and_eq_true,scan_all]
 unfold inR okU
 simp only [Bool.and_eq_true,decide_eq_true_eq,beq_iff_eq,Nat.zero_add,inR,and_assoc]

theorem validRs_iff {l:List (den tRs)} {cap now:Int}:validRs l cap now=true↔l.length≤40∧ ∀ (j:Nat) (x:den tRs),l[j]? =some x→validR x=true∧rate l x.2.1 x.2.2.1 now≤cap∧ ∀ y∈l.take j,sameR x y=false:=by
 unfold validRs
 rw [Bool.and_eq_true,scan_all]
 unfold okR
 simp only [Bool.and_eq_true,decide_eq_true_eq,Nat.zero_add,Bool.not_eq_true',decide_eq_false_iff_not,List.any_eq_false,Bool.not_eq_true,Int.not_lt,gt_iff_lt]

theorem sameR_comm (x y:den tRs):sameR x y=sameR y x:=by
 unfold sameR atR
 rw [Bool.eq_iff_iff]
 simp only [Bool.and_eq_true,beq_iff_eq]
 constructor<;>(rintro ⟨a,b,c⟩;exact ⟨a.symm,b.symm,c.symm⟩)

theorem pw_iff {l:List (den tRs)}:(∀ (j:Nat) (x:den tRs),l[j]? =some x→ ∀ y∈l.take j,sameR x y=false)↔l.Pairwise fun x y=>sameR x y=false:=by
 rw [List.pairwise_iff_getElem]
 constructor
 ·intro h i j hi hj hij
  rw [sameR_comm]
  exact h j l[j] (List.getElem?_eq_getElem hj) l[i] (List.mem_take_iff_getElem.2 ⟨i,by omega,rfl⟩)
 ·intro h j x hx y hy
  obtain ⟨i,hi,rfl⟩:=List.mem_take_iff_getElem.1 hy
  obtain ⟨hj,rfl⟩:=List.getElem?_eq_some_iff.1 hx
  rw [sameR_comm]
  exact h i j (by omega) hj (by omega)


def rs (s d now:Int):List (den tRs)→Int
 | []=>0
 | x::l=>(if atR x s d&&decide (now≤x.2.2.2.2) then x.2.2.2.1 else 0)+rs s d now l

theorem rs_pos {s d now:Int}: ∀ {l:List (den tRs)},(∀ x∈l,(0:Int)≤x.2.2.2.1∧(20:Int)≥x.2.2.2.1)→0≤rs s d now l∧rs s d now l≤20 * l.length
 | [],_=>by simp [rs]
 | x::l,h=>by
  have ih:=rs_pos (s:=s) (d:=d) (now:=now) (l:=l) fun y hy=>h y (List.mem_cons_of_mem _ hy)
  have hx:=h x (by simp)
  have e:((x::l).length:Int)=l.length+1:=by simp
  unfold rs
  rw [e]
  split<;>omega

theorem rate_fold {s d now:Int}: ∀ (l:List (den tRs)) (a:Int),(∀ x∈l,(0:Int)≤x.2.2.2.1∧(20:Int)≥x.2.2.2.1)→0≤a→a+20 * l.length≤1000000000000→
  l.foldl (fun a x=>if atR x s d&&decide (now≤x.2.2.2.2) then wr (a+x.2.2.2.1) else a) a=a+rs s d now l
 | [],a,_,_,_=>by simp [rs]
 | x::l,a,h,h0,hb=>by
  have hx:=h x (by simp)
  simp only [List.length_cons,Int.natCast_add,Int.natCast_one] at hb
  simp only [List.foldl_cons,rs]
  split
  ·rw [show wr (a+x.2.2.2.1)=a+x.2.2.2.1 from wri (by omega) (by omega),rate_fold l _ (fun y hy=>h y (List.mem_cons_of_mem _ hy)) (by omega) (by omega)];omega
  ·rw [rate_fold l a (fun y hy=>h y (List.mem_cons_of_mem _ hy)) h0 (by omega)];omega

theorem rate_rs {s d now:Int} {l:List (den tRs)} (h: ∀ x∈l,(0:Int)≤x.2.2.2.1∧(20:Int)≥x.2.2.2.1) (hl:l.length≤1000000):rate l s d now=rs s d now l:=by
 unfold rate
 rw [rate_fold l 0 h (by omega) (by omega)];omega

theorem rs_app {s d now:Int} (m:List (den tRs)): ∀ l:List (den tRs),rs s d now (l++m)=rs s d now l+rs s d now m
 | []=>by simp [rs]
 | x::l=>by simp only [List.cons_append,rs,rs_app m l];omega

theorem rs_filter {s d now:Int} (p:den tRs→Bool): ∀ {l:List (den tRs)},(∀ x∈l,(0:Int)≤x.2.2.2.1∧(20:Int)≥x.2.2.2.1)→rs s d now (l.filter p)≤rs s d now l
 | [],_=>by simp [rs]
 | x::l,h=>by
  have ih:=rs_filter (s:=s) (d:=d) (now:=now) p (l:=l) fun y hy=>h y (List.mem_cons_of_mem _ hy)
  have hx:=h x (by simp)
  rw [List.filter_cons]
  split
  ·simp only [rs];omega
  ·simp only [rs];split<;>omega


structure OkRs (l:List (den tRs)) (cap now:Int):Prop where
 len:l.length≤40
 val: ∀ x∈l,validR x=true
 rate: ∀ x∈l,rs x.2.1 x.2.2.1 now l≤cap
 pw:l.Pairwise fun x y=>sameR x y=false

theorem validR_rate {x:den tRs} (h:validR x=true):(1:Int)≤x.1∧(1:Int)≤x.2.2.2.1∧(20:Int)≥x.2.2.2.1:=by
 unfold validR inR at h
 simp only [Bool.and_eq_true,decide_eq_true_eq] at h
 exact ⟨h.1.1,h.2.1.1,h.2.1.2⟩

theorem rates_ok {l:List (den tRs)} (h: ∀ x∈l,validR x=true): ∀ x∈l,(0:Int)≤x.2.2.2.1∧(20:Int)≥x.2.2.2.1:=fun x hx=>by
 have :=validR_rate (h x hx);omega

theorem okRs_iff {l:List (den tRs)} {cap now:Int}:validRs l cap now=true↔OkRs l cap now:=by
 rw [validRs_iff]
 constructor
 ·rintro ⟨h1,h2⟩
  have hv: ∀ x∈l,validR x=true:=fun x hx=>by
   obtain ⟨j,hj⟩:=List.mem_iff_getElem?.1 hx
   exact (h2 j x hj).1
  exact ⟨h1,hv,fun x hx=>by
   obtain ⟨j,hj⟩:=List.mem_iff_getElem?.1 hx
   rw [← rate_rs (rates_ok hv) (by omega)];exact (h2 j x hj).2.1,pw_iff.1 fun j x hj=>(h2 j x hj).2.2⟩
 ·rintro ⟨h1,h2,h3,h4⟩
  refine ⟨h1,fun j x hj=> ?_⟩
  have hx:=List.mem_of_getElem? hj
  exact ⟨h2 x hx,by rw [rate_rs (rates_ok h2) (by omega)];exact h3 x hx,pw_iff.2 h4 j x hj⟩

theorem OkRs.filter {l:List (den tRs)} {cap now:Int} (h:OkRs l cap now) (p:den tRs→Bool):OkRs (l.filter p) cap now:=
 ⟨Nat.le_trans (List.length_filter_le ..) h.len,fun x hx=>h.val x (List.mem_filter.1 hx).1,fun x hx=>Int.le_trans (rs_filter p (rates_ok h.val)) (h.rate x (List.mem_filter.1 hx).1),h.pw.filter _⟩


def admR (l:List (den tRs)) (x:den tRs) (cap now:Int):List (den tRs):=
 if !validR x||decide (x.2.2.2.2<now)||decide (wr (rate (l.filter fun y=> !sameR x y) x.2.1 x.2.2.1 now+x.2.2.2.1)>cap)||decide (((l.filter fun y=> !sameR x y).length:Int)≥40) then l else (l.filter fun y=> !sameR x y)++[x]

theorem OkRs.admR {l:List (den tRs)} {cap now:Int} (h:OkRs l cap now) (x:den tRs):OkRs (admR l x cap now) cap now:=by
 unfold Go.Proofs.Ytejfajiolkojlaa.admR
 split
 ·exact h
 ·rename_i hc
  simp only [Bool.or_eq_true,Bool.not_eq_true',decide_eq_true_eq,not_or,Bool.not_eq_false] at hc
  obtain ⟨⟨⟨c1,c2⟩,c3⟩,c4⟩:=hc
  have hf:=h.filter fun y=> !sameR x y
  have hx:=validR_rate c1
  have hr:OkRs (l.filter fun y=> !sameR x y) cap now:=hf
  rw [rate_rs (rates_ok hf.val) (by have :=hf.len;omega)] at c3
  have hb:=rs_pos (s:=x.2.1) (d:=x.2.2.1) (now:=now) (rates_ok hf.val)
  have hl:=hf.len
  rw [show wr (rs x.2.1 x.2.2.1 now (l.filter fun y=> !sameR x y)+x.2.2.2.1)=rs x.2.1 x.2.2.1 now (l.filter fun y=> !sameR x y)+x.2.2.2.1 from wri (by omega) (by omega)] at c3
  refine ⟨by simp only [List.length_append,List.length_singleton];omega,?_,?_,?_⟩
  ·intro y hy
   rcases List.mem_append.1 hy with hy | hy
   ·exact hf.val y hy
   ·rw [List.mem_singleton.1 hy];exact c1
  ·intro y hy
   rw [rs_app]
   simp only [rs]
   rcases List.mem_append.1 hy with hy | hy
   ·have h1:=hf.rate y hy
    cases ha:atR x y.2.1 y.2.2.1 with
    | false=>simp only [Bool.false_and,Bool.false_eq_true,if_false];omega
    | true=>
     have ha':=ha
     unfold atR at ha'
     simp only [Bool.and_eq_true,beq_iff_eq] at ha'
     rw [← ha'.1,← ha'.2]
     split<;>omega
   ·rw [List.mem_singleton.1 hy];split<;>omega
  ·rw [List.pairwise_append]
   refine ⟨hf.pw,List.pairwise_singleton _ _,fun y hy z hz=> ?_⟩
   rw [List.mem_singleton.1 hz,sameR_comm]
   have :=(List.mem_filter.1 hy).2
   simpa using this

theorem place_app {l:List (den tUs)} {id s d:Int} (z:List (den tUs)):place (l++z) id s d=if place l id s d<0 then plc id s d l.length z else place l id s d:=by
 rw [place_plc,place_plc,plc_app,Nat.zero_add]

theorem place_keys {l m:List (den tUs)} {id s d:Int} (h:l.map (fun x=>(x.1,x.2.1,x.2.2.1))=m.map (fun x=>(x.1,x.2.1,x.2.2.1))):place l id s d=place m id s d:=by
 rw [place_plc,place_plc,plc_keys l m 0 h]

theorem moreU_spec (l:List (den tUs)) (id s d:Int):(place l id s d= -1∧(∀ x∈l,sameU id s d x=false)∧usedU l id s d=0∧moreU l id s d=l++[(id,s,d,1)])∨
  ∃ (j:Nat) (x:den tUs),place l id s d=(j:Int)∧l[j]? =some x∧sameU id s d x=true∧usedU l id s d=x.2.2.2∧moreU l id s d=l.set j (x.1,x.2.1,x.2.2.1,wr (x.2.2.2+1)):=by
 rcases place_spec l id s d with ⟨h1,h2⟩ | ⟨j,x,h1,h2,h3⟩
 ·refine .inl ⟨h1,h2,?_,?_⟩
  ·unfold usedU;rw [h1,if_pos (by decide)]
  ·unfold moreU;rw [h1,if_pos (by decide)]
 ·refine .inr ⟨j,x,h1,h2,h3,?_,?_⟩
  ·unfold usedU;rw [h1,if_neg (by omega),Int.toNat_natCast,h2];rfl
  ·unfold moreU;rw [h1,if_neg (by omega),Int.toNat_natCast];simp only [h2]

theorem keys_set {l:List (den tUs)} {j:Nat} {x:den tUs} (h:l[j]? =some x) (c:Int):(l.set j (x.1,x.2.1,x.2.2.1,c)).map (fun x=>(x.1,x.2.1,x.2.2.1))=l.map (fun x=>(x.1,x.2.1,x.2.2.1)):=by
 rw [List.map_set]
 apply List.ext_getElem?
 intro i
 by_cases hij:j=i
 ·subst hij
  obtain ⟨hlt,rfl⟩:=List.getElem?_eq_some_iff.1 h
  rw [List.getElem?_set_self (by simpa using hlt),List.getElem?_map,List.getElem?_eq_getElem hlt];rfl
 ·rw [List.getElem?_set_ne hij]

theorem OkUs.more {g:den tSc} {now id s d:Int} (h:OkUs g now) (hu:usedU g.2.2 id s d<rateU g id s d now) (hb:rateU g id s d now≤1000000):OkUs (g.1,g.2.1,moreU g.2.2 id s d) now:=by
 have hr: ∀ i s d,rateU (g.1,g.2.1,moreU g.2.2 id s d) i s d now=rateU g i s d now:=fun _ _ _=>rfl
 intro j x hx
 have hx:(moreU g.2.2 id s d)[j]? =some x:=hx
 show place (moreU g.2.2 id s d) x.1 x.2.1 x.2.2.1=(j:Int)∧(1:Int)≤x.2.2.2∧rateU g x.1 x.2.1 x.2.2.1 now≥x.2.2.2
 rcases moreU_spec g.2.2 id s d with ⟨h1,h2,h3,h4⟩ | ⟨i,y,h1,h2,h3,h4,h5⟩
 ·rw [h4] at hx ⊢
  rw [place_app]
  by_cases hj:j<g.2.2.length
  ·rw [List.getElem?_append_left hj] at hx
   obtain ⟨a,b,c⟩:=h j x hx
   rw [a,if_neg (by omega)]
   exact ⟨rfl,b,c⟩
  ·rw [List.getElem?_append_right (by omega)] at hx
   have hj0:j - g.2.2.length=0:=by
    cases hk:j - g.2.2.length with
    | zero=>rfl
    | succ k=>rw [hk] at hx;simp at hx
   rw [hj0] at hx
   simp only [List.getElem?_cons_zero,Option.some.injEq] at hx
   subst hx
   have hj':j=g.2.2.length:=by omega
   simp only
   rw [h1,if_pos (by decide),hj']
   refine ⟨?_,Int.le_refl 1,?_⟩
   ·unfold plc
    rw [if_pos (show sameU id s d (id,s,d,1)=true from sameU_iff.2 ⟨rfl,rfl,rfl⟩)]
   ·rw [h3] at hu;omega
 ·rw [h5] at hx ⊢
  rw [place_keys (keys_set h2 _)]
  by_cases hij:i=j
  ·subst hij
   rw [List.getElem?_set_self (List.getElem?_eq_some_iff.1 h2).1] at hx
   simp only [Option.some.injEq] at hx
   subst hx
   obtain ⟨a,b,c⟩:=h i y h2
   obtain ⟨k1,k2,k3⟩:=sameU_iff.1 h3
   simp only
   rw [k1,k2,k3] at a c ⊢
   rw [h4] at hu
   have hw:wr (y.2.2.2+1)=y.2.2.2+1:=wri (by omega) (by omega)
   rw [hw]
   exact ⟨a,by omega,by omega⟩
  ·rw [List.getElem?_set_ne hij] at hx
   exact h j x hx

def rr (id s d now:Int):List (den tRs)→Int
 | []=>0
 | x::l=>if x.1==id&&(atR x s d&&decide (now≤x.2.2.2.2)) then x.2.2.2.1 else rr id s d now l

theorem resRate_rr (l:List (den tRs)) (id s d now:Int):resRate l id s d now=rr id s d now l:=by
 unfold resRate
 have : ∀ (l:List (den tRs)) (k:Nat),(match scanI (fun _ (x:den tRs)=>if x.1==id&&(atR x s d&&decide (now≤x.2.2.2.2)) then some x.2.2.2.1 else none) k l with
  | some r=>r
  | none=>0)=rr id s d now l:=by
  intro l
  induction l with
  | nil=>intro k;rfl
  | cons x l ih=>
   intro k
   cases hp:(x.1==id&&(atR x s d&&decide (now≤x.2.2.2.2))) with
   | true=>simp only [scanI,rr,hp,if_true]
   | false=>simp only [scanI,rr,hp];exact ih (k+1)
 exact this l 0

theorem rr_rng {id s d now:Int}: ∀ {l:List (den tRs)},(∀ x∈l,(0:Int)≤x.2.2.2.1∧(20:Int)≥x.2.2.2.1)→0≤rr id s d now l∧rr id s d now l≤20
 | [],_=>by simp [rr]
 | x::l,h=>by
  have ih:=rr_rng (id:=id) (s:=s) (d:=d) (now:=now) (l:=l) fun y hy=>h y (List.mem_cons_of_mem _ hy)
  have hx:=h x (by simp)
  unfold rr
  split<;>omega

theorem rs_or {s d now:Int}: ∀ {l:List (den tRs)},rs s d now l=0∨ ∃ x∈l,x.2.1=s∧x.2.2.1=d
 | []=> .inl rfl
 | x::l=>by
  by_cases ha:atR x s d=true
  ·unfold atR at ha
   simp only [Bool.and_eq_true,beq_iff_eq] at ha
   exact .inr ⟨x,by simp,ha⟩
  ·rcases rs_or (s:=s) (d:=d) (now:=now) (l:=l) with h | ⟨y,hy,h⟩
   ·left
    unfold rs
    rw [h];simp [ha]
   ·exact .inr ⟨y,List.mem_cons_of_mem _ hy,h⟩

theorem OkRs.rs_le {l:List (den tRs)} {cap now:Int} (h:OkRs l cap now) (hc:0≤cap) (s d:Int):rs s d now l≤cap:=by
 rcases rs_or (s:=s) (d:=d) (now:=now) (l:=l) with h0 | ⟨x,hx,h1,h2⟩
 ·omega
 ·have :=h.rate x hx;rw [h1,h2] at this;exact this

theorem free_eq {l:List (den tRs)} {cap now:Int} (h:OkRs l cap now) (hc:1≤cap∧cap≤20) (s d:Int):free l cap s d now=cap - rs s d now l:=by
 have h1:=h.rs_le (by omega) s d
 have h2:=rs_pos (s:=s) (d:=d) (now:=now) (rates_ok h.val)
 unfold free
 rw [rate_rs (rates_ok h.val) (by have :=h.len;omega),show wr (cap - rs s d now l)=cap - rs s d now l from wri (by omega) (by omega)]
 split<;>omega


structure OkS (g:den tSc) (now:Int):Prop where
 lo:(1:Int)≤g.1
 hi:(20:Int)≥g.1
 res:OkRs g.2.1 g.1 now
 use:OkUs g now

theorem okS_iff {g:den tSc} {now:Int}:validS g now=true↔OkS g now:=by
 rw [validS_iff,okRs_iff]
 exact ⟨fun ⟨a,b,c,d⟩=>⟨a,b,c,d⟩,fun ⟨a,b,c,d⟩=>⟨a,b,c,d⟩⟩

theorem OkS.rate_le {g:den tSc} {now:Int} (h:OkS g now) (id s d:Int):0≤rateU g id s d now∧rateU g id s d now≤20:=by
 unfold rateU
 split
 ·rw [free_eq h.res ⟨h.lo,h.hi⟩]
  have h1:=h.res.rs_le (by have :=h.lo;omega) s d
  have h2:=rs_pos (s:=s) (d:=d) (now:=now) (rates_ok h.res.val)
  have :=h.hi
  omega
 ·rw [resRate_rr];exact rr_rng (rates_ok h.res.val)


abbrev gateT (p:Int×Bool×List (den tRs)×List (den tUs)):den tSc:=(p.1,p.2.2.1,p.2.2.2)

theorem OkS.trans {g:den tSc} {now:Int} (h:OkS g now) (id s d:Int):OkS (gateT (transU g id s d now)) now:=by
 unfold transU
 split
 ·rename_i hu
  exact ⟨h.lo,h.hi,h.res,h.use.more hu (by have :=h.rate_le id s d;omega)⟩
 ·split
  ·rename_i hu
   exact ⟨h.lo,h.hi,h.res,h.use.more hu (by have :=h.rate_le 0 s d;omega)⟩
  ·exact h

theorem trans_len (g:den tSc) (id s d now:Int):(transU g id s d now).2.2.1=g.2.1∧(transU g id s d now).1=g.1∧(transU g id s d now).2.2.2.length≤g.2.2.length+1:=by
 unfold transU
 split
 ·exact ⟨rfl,rfl,moreU_len ..⟩
 ·split
  ·exact ⟨rfl,rfl,moreU_len ..⟩
  ·exact ⟨rfl,rfl,by simp⟩


def su (s d:Int):List (den tUs)→Int
 | []=>0
 | x::l=>(if x.2.1==s&&x.2.2.1==d then x.2.2.2 else 0)+su s d l

def sentU (l:List (den tUs)) (s d:Int):Int:=l.foldl (fun a x=>if x.2.1==s&&x.2.2.1==d then wr (a+x.2.2.2) else a) 0

theorem sent_fold {s d:Int}: ∀ (l:List (den tUs)) (a:Int),(∀ x∈l,(0:Int)≤x.2.2.2∧(20:Int)≥x.2.2.2)→0≤a→a+20 * l.length≤1000000000000→
  l.foldl (fun a x=>if x.2.1==s&&x.2.2.1==d then wr (a+x.2.2.2) else a) a=a+su s d l
 | [],a,_,_,_=>by simp [su]
 | x::l,a,h,h0,hb=>by
  have hx:=h x (by simp)
  simp only [List.length_cons,Int.natCast_add,Int.natCast_one] at hb
  simp only [List.foldl_cons,su]
  split
  ·rw [show wr (a+x.2.2.2)=a+x.2.2.2 from wri (by omega) (by omega),sent_fold l _ (fun y hy=>h y (List.mem_cons_of_mem _ hy)) (by omega) (by omega)];omega
  ·rw [sent_fold l a (fun y hy=>h y (List.mem_cons_of_mem _ hy)) h0 (by omega)];omega

theorem sum_if (a c:Int) (f:Int→Int) (hf: ∀ i,0≤f i) (hc:0≤c): ∀ {D:List Int},D.Nodup→(D.map fun i=>if a=i then c else f i).sum≤c+(D.map f).sum
 | [],_=>by simpa using hc
 | i::D,h=>by
  obtain ⟨h1,h2⟩:=List.nodup_cons.1 h
  simp only [List.map_cons,List.sum_cons]
  by_cases hi:a=i
  ·subst hi
   rw [if_pos rfl]
   have :(D.map fun i=>if a=i then c else f i)=D.map f:=List.map_congr_left fun j hj=>by rw [if_neg];intro e;subst e;exact h1 hj
   rw [this]
   have :=hf a
   omega
  ·rw [if_neg hi]
   have :=sum_if a c f hf hc h2
   omega

theorem sum_rr {s d now:Int}: ∀ {l:List (den tRs)},(∀ x∈l,(0:Int)≤x.2.2.2.1∧(20:Int)≥x.2.2.2.1)→ ∀ {D:List Int},D.Nodup→(D.map fun i=>rr i s d now l).sum≤rs s d now l
 | [],_,D,_=>by
  have :(D.map fun i=>rr i s d now [])=D.map fun _=>(0:Int):=rfl
  rw [this]
  have hz: ∀ D:List Int,(D.map fun _=>(0:Int)).sum=0:=fun D=>by
   induction D with
   | nil=>rfl
   | cons i D ih=>simp only [List.map_cons,List.sum_cons,ih];rfl
  rw [hz];exact Int.le_refl 0
 | x::l,h,D,hD=>by
  have hl:=fun y hy=>h y (List.mem_cons_of_mem x hy)
  have ih:=sum_rr (s:=s) (d:=d) (now:=now) (l:=l) hl hD
  have hx:=h x (by simp)
  cases ho:(atR x s d&&decide (now≤x.2.2.2.2)) with
  | false=>
   have e:(D.map fun i=>rr i s d now (x::l))=D.map fun i=>rr i s d now l:=List.map_congr_left fun i _=>by simp only [rr,ho,Bool.and_false,Bool.false_eq_true,if_false]
   rw [e]
   simp only [rs,ho,Bool.false_eq_true,if_false];omega
  | true=>
   have e:(D.map fun i=>rr i s d now (x::l))=D.map fun i=>if x.1=i then x.2.2.2.1 else rr i s d now l:=List.map_congr_left fun i _=>by
    simp only [rr,ho,Bool.and_true,beq_iff_eq]
   rw [e]
   simp only [rs,ho,if_true]
   exact Int.le_trans (sum_if x.1 x.2.2.2.1 (fun i=>rr i s d now l) (fun i=>(rr_rng hl).1) hx.1 hD) (Int.add_le_add_left ih _)

theorem OkS.pw {g:den tSc} {now:Int} (h:OkS g now):g.2.2.Pairwise fun x y=>sameU x.1 x.2.1 x.2.2.1 y=false:=by
 rw [List.pairwise_iff_getElem]
 intro i j hi hj hij
 cases hs:sameU g.2.2[i].1 g.2.2[i].2.1 g.2.2[i].2.2.1 g.2.2[j] with
 | false=>rfl
 | true=>
  obtain ⟨k1,k2,k3⟩:=sameU_iff.1 hs
  have a:=(h.use i _ (List.getElem?_eq_getElem hi)).1
  have b:=(h.use j _ (List.getElem?_eq_getElem hj)).1
  rw [k1,k2,k3,a] at b
  omega

theorem su_le {g:den tSc} {now:Int} (h:OkS g now) (s d:Int): ∀ {l:List (den tUs)},(∀ x∈l,rateU g x.1 x.2.1 x.2.2.1 now≥x.2.2.2)→
  su s d l≤(((l.filter fun x=>x.2.1==s&&x.2.2.1==d).map fun x=>x.1).map fun i=>rateU g i s d now).sum
 | [],_=>by simp [su]
 | x::l,hl=>by
  have ih:=su_le h s d (l:=l) fun y hy=>hl y (List.mem_cons_of_mem _ hy)
  have hx:=hl x (by simp)
  cases hp:(x.2.1==s&&x.2.2.1==d) with
  | false=>rw [List.filter_cons,hp,if_neg (by simp)];simp only [su,hp,Bool.false_eq_true,if_false];omega
  | true=>
   rw [List.filter_cons,hp,if_pos rfl]
   simp only [su,hp,if_true,List.map_cons,List.sum_cons]
   simp only [Bool.and_eq_true,beq_iff_eq] at hp
   rw [hp.1,hp.2] at hx
   omega


theorem OkS.sent {g:den tSc} {now:Int} (h:OkS g now) (hl:g.2.2.length≤1000000) (s d:Int):sentU g.2.2 s d≤g.1:=by
 have hc: ∀ x∈g.2.2,(1:Int)≤x.2.2.2∧rateU g x.1 x.2.1 x.2.2.1 now≥x.2.2.2:=fun x hx=>by
  obtain ⟨j,hj⟩:=List.mem_iff_getElem?.1 hx
  exact (h.use j x hj).2
 unfold sentU
 rw [sent_fold g.2.2 0 (fun x hx=>by have a:=hc x hx;have b:=h.rate_le x.1 x.2.1 x.2.2.1;omega) (by omega) (by omega)]
 have h1:=su_le h s d fun x hx=>(hc x hx).2
 have hD:((g.2.2.filter fun x=>x.2.1==s&&x.2.2.1==d).map fun x=>x.1).Nodup:=by
  unfold List.Nodup
  rw [List.pairwise_map]
  have h2:=h.pw.filter fun x=>x.2.1==s&&x.2.2.1==d
  refine List.Pairwise.imp_of_mem ?_ h2
  intro x y hx hy hxy e
  have hx:=(List.mem_filter.1 hx).2
  have hy:=(List.mem_filter.1 hy).2
  simp only [Bool.and_eq_true,beq_iff_eq] at hx hy
  rw [sameU_iff.2 ⟨e.symm,hy.1.trans hx.1.symm,hy.2.trans hx.2.symm⟩] at hxy
  cases hxy
 have e:(fun i=>rateU g i s d now)=fun i=>if 0=i then free g.2.1 g.1 s d now else rr i s d now g.2.1:=by
  funext i
  unfold rateU
  by_cases hi:i=0
  ·subst hi;rfl
  ·rw [if_neg (by simpa using hi),if_neg (fun e=>hi e.symm),resRate_rr]
 rw [e] at h1
 have hf:=free_eq h.res ⟨h.lo,h.hi⟩ s d
 have hrs:=h.res.rs_le (by have :=h.lo;omega) s d
 have h2:=sum_if 0 (free g.2.1 g.1 s d now) (fun i=>rr i s d now g.2.1) (fun i=>(rr_rng (rates_ok h.res.val)).1) (by omega) hD
 have h3:=sum_rr (s:=s) (d:=d) (now:=now) (rates_ok h.res.val) hD
 omega


def Ans {α:Type} (o:Option α) (P:α→Prop):Prop:= ∃ y,o=some y∧P y

theorem loop_ans {S R:Type} {step:S→Option (S⊕R)} (I:Nat→S→Prop) (Q:R→Prop) (h: ∀ n s,I n s→(∃ r,step s=some (.inr r)∧Q r)∨ ∃ m s',m<n∧step s=some (.inl s')∧I m s') (n:Nat): ∀ s,I n s→Ans (loopM step s) Q:=by
 induction n using Nat.strongRecOn with
 | ind n ih=>
  intro s hs
  rcases h n s hs with ⟨r,h1,h2⟩ | ⟨m,s',h1,h2,h3⟩
  ·exact ⟨r,loopM_done h1,h2⟩
  ·obtain ⟨r,h4,h5⟩:=ih m h1 s' h3
   exact ⟨r,(loopM_next h2).trans h4,h5⟩

theorem loop_bind {S R T:Type} {step:S→Option (S⊕R)} (I:Nat→S→Prop) (Q:R→Prop) {k:R→Option T} {G:Option T→Prop} (h: ∀ n s,I n s→(∃ r,step s=some (.inr r)∧Q r)∨ ∃ m s',m<n∧step s=some (.inl s')∧I m s') (n:Nat) (s:S) (hs:I n s) (hk: ∀ r,Q r→G (k r)):G (Option.bind (loopM step s) k):=by
 obtain ⟨r,h1,h2⟩:=loop_ans I Q h n s hs
 rw [h1]
 exact hk r h2

theorem bAnd_255 (a:Int):0≤bAnd .i64 a 255∧bAnd .i64 a 255≤255:=by
 have h:((BitVec.ofInt 64 a &&& BitVec.ofInt 64 255).toNat)≤255:=by
  rw [BitVec.toNat_and]
  exact Nat.le_trans Nat.and_le_right (by decide)
 have e:bAnd .i64 a 255=wr (((BitVec.ofInt 64 a &&& BitVec.ofInt 64 255).toNat:Nat):Int):=rfl
 rw [e,show wr (((BitVec.ofInt 64 a &&& BitVec.ofInt 64 255).toNat:Nat):Int)=_ from wri (by omega) (by omega)]
 omega


def Cur (code:List Int) (c:List Int×Int×Int):Prop:=c.1=code∧0≤c.2.1∧c.2.1≤(code.length:Int)

theorem byte_ans {code:List Int} (hl:code.length≤1048576) {c:List Int} {p h:Int} (hc:Cur code (c,p,h)): ∃ v c' p' h',s_l1Byte (c,p,h)=some (v,c',p',h')∧(0≤v∧v≤255)∧Cur code (c',p',h'):=by
 obtain ⟨h1,h2,h3⟩:=hc
 simp only at h1 h2 h3
 subst h1
 unfold s_l1Byte
 simp only [obind_some]
 by_cases hp:p<(c.length:Int)
 ·obtain ⟨m,rfl⟩:=Int.eq_ofNat_of_zero_le h2
  have hm:m<c.length:=by omega
  rw [decide_eq_true hp,cond_true,idx_nat,List.getElem?_eq_getElem hm]
  refine ⟨_,_,_,_,rfl,bAnd_255 _,rfl,?_,?_⟩
  ·show 0≤wr ((m:Int)+1);rw [show wr ((m:Int)+1)=(m:Int)+1 from wri (by omega) (by omega)];omega
  ·show wr ((m:Int)+1)≤_;rw [show wr ((m:Int)+1)=(m:Int)+1 from wri (by omega) (by omega)];omega
 ·rw [decide_eq_false hp,cond_false]
  exact ⟨_,_,_,_,rfl,bAnd_255 _,rfl,h2,h3⟩

theorem below_ans {code:List Int} (hl:code.length≤1048576) {n:Int} (h0:0<n) (h1:n≤256) {c:List Int} {p h:Int} (hc:Cur code (c,p,h)): ∃ v c' p' h',s_l1Below (c,p,h) n=some (v,c',p',h')∧(0≤v∧v<n)∧Cur code (c',p',h'):=by
 obtain ⟨v,c',p',h',hb,hv,hc'⟩:=byte_ans hl hc
 refine ⟨Int.tmod v n,c',p',h',?_,⟨Int.tmod_nonneg _ hv.1,Int.tmod_lt_of_pos _ h0⟩,hc'⟩
 unfold s_l1Below
 rw [decide_eq_false (by omega),cond_false,decide_eq_true h1,cond_true]
 simp only [hb,obind_some]
 rw [show (n==0)=false by rw [beq_eq_false_iff_ne];omega,cond_false]

theorem int_ans {code:List Int} (hl:code.length≤1048576) {l:List Int} (h0:0<l.length) (h1:l.length≤256) {c:List Int} {p h:Int} (hc:Cur code (c,p,h)): ∃ v c' p' h',s_l1Int (c,p,h) l=some (v,c',p',h')∧v∈l∧Cur code (c',p',h'):=by
 obtain ⟨v,c',p',h',hb,hv,hc'⟩:=below_ans hl (n:=(l.length:Int)) (by omega) (by omega) hc
 obtain ⟨m,rfl⟩:=Int.eq_ofNat_of_zero_le hv.1
 have hm:m<l.length:=by omega
 refine ⟨l[m],c',p',h',?_,List.getElem_mem hm,hc'⟩
 unfold s_l1Int
 simp only [hb,obind_some,idx_nat,List.getElem?_eq_getElem hm]

theorem once_ans {code:List Int} (hl:code.length≤1048576) {n:Int} (h0:0<n) (h1:n≤256) {c:List Int} {p h:Int} (hc:Cur code (c,p,h)): ∃ b c' p' h',s_l1Once (c,p,h) n=some (b,c',p',h')∧Cur code (c',p',h'):=by
 obtain ⟨v,c',p',h',hb,hv,hc'⟩:=below_ans hl h0 h1 hc
 refine ⟨v==0,c',p',h',?_,hc'⟩
 unfold s_l1Once
 simp only [hb,obind_some]

theorem new_ans {code:List Int} (hl:code.length≤1048576): ∃ c p h,s_l1New code=some (c,p,h)∧Cur code (c,p,h):=by
 unfold s_l1New
 refine loop_bind (G:=fun o=> ∃ c p h,o=some (c,p,h)∧Cur code (c,p,h)) (fun n s=> ∃ k:Nat,s.2=(k:Int)∧k+n=code.length) (fun _=>True) ?_ code.length _ ⟨0,rfl,by omega⟩ ?_
 ·rintro n ⟨a,b⟩ ⟨k,hk,hn⟩
  simp only at hk
  subst hk
  by_cases h1:(k:Int)<(code.length:Int)
  ·by_cases h2:(k:Int)<4000
   ·right
    have hk:k<code.length:=by omega
    refine ⟨n - 1,(bAnd .i64 (wr ((wr ((wr (a * (137:Int)))+(wr code[k])))+(11:Int))) (1073741823:Int),((k+1:Nat):Int)),by omega,?_,k+1,rfl,by omega⟩
    simp only [decide_eq_true h1,decide_eq_true h2,cond_true,obind_some,idx_nat,List.getElem?_eq_getElem hk]
    rw [show wr ((k:Int)+1)=((k+1:Nat):Int) from by rw [show wr ((k:Int)+1)=(k:Int)+1 from wri (by omega) (by omega)];omega]
   ·left
    refine ⟨a,?_,trivial⟩
    simp only [decide_eq_true h1,decide_eq_false h2,cond_true,cond_false,obind_some]
  ·left
   refine ⟨a,?_,trivial⟩
   simp only [decide_eq_false h1,cond_false,obind_some]
 ·intro r _
  exact ⟨_,_,_,rfl,rfl,Int.le_refl 0,by show (0:Int)≤_;omega⟩

theorem s_admit {l:List (den tRs)} {x:den tRs} {cap now:Int} (h:l.length≤1000000): ∃ b,s_Admit l x cap now=some (b,admR l x cap now):=by
 have hf:(l.filter fun y=> !sameR x y).length≤1000000:=Nat.le_trans (List.length_filter_le ..) h
 unfold s_Admit admR
 rw [show ((x.1,x.2.1,x.2.2.1,x.2.2.2.1,x.2.2.2.2):den tRs)=x from rfl,s_without (by omega),obind_some,s_validR,obind_some,s_rate (by omega),obind_some]
 rw [apOk_le (b:=40) (by decide) (by simp;omega),apOk_le (b:=40) (by decide) (by omega)]
 cases c1:validR x
 ·exact ⟨false,by simp⟩
 ·cases c2:decide (x.2.2.2.2<now)
  ·cases c3:decide (wr (rate (l.filter fun y=> !sameR x y) x.2.1 x.2.2.1 now+x.2.2.2.1)>cap)
   ·cases c4:decide (((l.filter fun y=> !sameR x y).length:Int)≥40)
    ·exact ⟨true,by simp only [Bool.not_true,cond_false,cond_true,obind_some,Bool.or_self,Bool.false_eq_true,if_false]⟩
    ·exact ⟨false,by simp [obind_some]⟩
   ·exact ⟨false,by simp [obind_some]⟩
  ·exact ⟨false,by simp [obind_some]⟩

theorem share_ans {code:List Int} (hl:code.length≤1048576) {c:List Int} {p h:Int} (hc:Cur code (c,p,h)): ∃ a b d r u c' p' h',s_l32Share (c,p,h)=some (a,b,d,r,u,c',p',h')∧Cur code (c',p',h'):=by
 obtain ⟨v1,c1,p1,h1,e1,_,k1⟩:=below_ans hl (n:=5) (by decide) (by decide) hc
 obtain ⟨v2,c2,p2,h2,e2,_,k2⟩:=below_ans hl (n:=4) (by decide) (by decide) k1
 obtain ⟨v3,c3,p3,h3,e3,_,k3⟩:=below_ans hl (n:=3) (by decide) (by decide) k2
 obtain ⟨v4,c4,p4,h4,e4,_,k4⟩:=below_ans hl (n:=4) (by decide) (by decide) k3
 obtain ⟨v5,c5,p5,h5,e5,_,k5⟩:=below_ans hl (n:=30) (by decide) (by decide) k4
 refine ⟨wr (1+v1),v2,wr (1+v3),wr (1+v4),wr (40+v5),c5,p5,h5,?_,k5⟩
 unfold s_l32Share
 simp only [e1,e2,e3,e4,e5,obind_some]

theorem gate_new {v:Int} (h:v∈[(8:Int),8,4,12]):s_NewScheduler v=some (v,[],[]):=by
 unfold s_NewScheduler
 rw [s_in,obind_some]
 simp only [List.mem_cons,List.not_mem_nil,or_false] at h
 rcases h with rfl | rfl | rfl | rfl<;>rfl

theorem gate_ok {v:Int} (h:v∈[(8:Int),8,4,12]):1≤v∧v≤20:=by
 simp only [List.mem_cons,List.not_mem_nil,or_false] at h
 rcases h with rfl | rfl | rfl | rfl<;>decide

theorem okRs_nil (cap now:Int):OkRs [] cap now:=⟨by simp,fun x hx=>(List.not_mem_nil hx).elim,fun x hx=>(List.not_mem_nil hx).elim,List.Pairwise.nil⟩

def DrawP (code:List Int) (o:Option (Int×List (den tRs)×List (den tUs)×List Int×Int×Int)):Prop:= ∃ cap l us c' p' h',o=some (cap,l,us,c',p',h')∧OkS (cap,l,us) 45∧us.length≤12∧Cur code (c',p',h')

theorem draw_ans {code:List Int} (hl:code.length≤1048576) {c:List Int} {p h:Int} (hc:Cur code (c,p,h)):DrawP code (s_l34Draw (c,p,h)):=by
 obtain ⟨cap,c1,p1,h1,e1,hcap,k1⟩:=int_ans hl (l:=[(8:Int),8,4,12]) (by decide) (by decide) hc
 obtain ⟨v2,c2,p2,h2,e2,hv2,k2⟩:=below_ans hl (n:=6) (by decide) (by decide) k1
 unfold s_l34Draw
 simp only [e1,obind_some,gate_new hcap,e2,both_self,dup_self,dup3_self,dup4_self,dup5_self]
 obtain ⟨n2,rfl⟩:=Int.eq_ofNat_of_zero_le hv2.1
 refine loop_bind (G:=DrawP code) (fun (n:Nat) (s:Int×Int×List (den tRs)×List Int×Int×Int)=>s.1=(n:Int)∧n≤12∧s.2.1=cap∧OkRs s.2.2.1 cap 45∧Cur code s.2.2.2) (fun (r:Int×List (den tRs)×List Int×Int×Int)=>r.1=cap∧OkRs r.2.1 cap 45∧Cur code r.2.2) ?_ n2 _ ⟨rfl,by omega,rfl,okRs_nil ..,k2⟩ ?_
 ·rintro n ⟨i,cap',l,c3,p3,h3⟩ ⟨i1,i2,i3,i4,i5⟩
  simp only at i1 i2 i3 i4 i5
  subst i1 i3
  cases n with
  | zero=>exact .inl ⟨_,rfl,rfl,i4,i5⟩
  | succ n=>
   right
   obtain ⟨a,b,d,r,u,c4,p4,h4,e4,k4⟩:=share_ans hl i5
   obtain ⟨bb,ea⟩:=s_admit (l:=l) (x:=(a,b,d,r,u)) (cap:=cap') (now:=45) (by have :=i4.len;omega)
   refine ⟨n,((n:Int),cap',admR l (a,b,d,r,u) cap' 45,c4,p4,h4),by omega,?_,rfl,by omega,rfl,i4.admR _,k4⟩
   simp only [decide_eq_true (show ((n+1:Nat):Int)>0 by omega),cond_true,e4,obind_some,ea]
   rw [show wr (((n+1:Nat):Int) - 1)=(n:Int) from by rw [show wr (((n+1:Nat):Int) - 1)=((n+1:Nat):Int) - 1 from wri (by omega) (by omega)];omega]
 ·rintro ⟨cap',l,c3,p3,h3⟩ ⟨i1,i2,i3⟩
  simp only at i1 i2 i3
  subst i1
  obtain ⟨v5,c5,p5,h5,e5,hv5,k5⟩:=below_ans hl (n:=12) (by decide) (by decide) i3
  simp only [e5,obind_some]
  obtain ⟨n5,rfl⟩:=Int.eq_ofNat_of_zero_le hv5.1
  refine loop_bind (G:=DrawP code) (fun (n:Nat) (s:Int×Int×List (den tRs)×List (den tUs)×List Int×Int×Int)=>s.1=(n:Int)∧OkS (s.2.1,s.2.2.1,s.2.2.2.1) 45∧s.2.2.2.1.length+n≤12∧Cur code s.2.2.2.2) (fun (r:Int×List (den tRs)×List (den tUs)×List Int×Int×Int)=>OkS (r.1,r.2.1,r.2.2.1) 45∧r.2.2.1.length≤12∧Cur code r.2.2.2) ?_ n5 _ ⟨rfl,⟨(gate_ok hcap).1,(gate_ok hcap).2,i2,fun j x hj=>by simp at hj⟩,by simp;omega,k5⟩ ?_
  ·rintro n ⟨i,cap',l,us,c6,p6,h6⟩ ⟨i1,i2,i3,i4⟩
   simp only at i1 i2 i3 i4
   subst i1
   cases n with
   | zero=>exact .inl ⟨_,rfl,i2,by simpa using i3,i4⟩
   | succ n=>
    right
    obtain ⟨v7,c7,p7,h7,e7,hv7,k7⟩:=below_ans hl (n:=5) (by decide) (by decide) i4
    obtain ⟨v8,c8,p8,h8,e8,hv8,k8⟩:=below_ans hl (n:=3) (by decide) (by decide) k7
    obtain ⟨v9,c9,p9,h9,e9,hv9,k9⟩:=below_ans hl (n:=2) (by decide) (by decide) k8
    have et:=s_trans (g:=(cap',l,us)) (id:=v7) (s:=v8) (d:=wr (1+v9)) (now:=45) (by have :=i2.res.len;simp only at this;show l.length≤_;omega) (by show us.length≤_;omega)
    have hk:=i2.trans v7 v8 (wr (1+v9))
    obtain ⟨g1,g2,g3⟩:=trans_len (cap',l,us) v7 v8 (wr (1+v9)) 45
    refine ⟨n,((n:Int),(transU (cap',l,us) v7 v8 (wr (1+v9)) 45).1,(transU (cap',l,us) v7 v8 (wr (1+v9)) 45).2.2.1,(transU (cap',l,us) v7 v8 (wr (1+v9)) 45).2.2.2,c9,p9,h9),by omega,?_,rfl,hk,by simp only at g3 ⊢;omega,k9⟩
    simp only [decide_eq_true (show ((n+1:Nat):Int)>0 by omega),cond_true,e7,e8,e9,obind_some,et]
    rw [show wr (((n+1:Nat):Int) - 1)=(n:Int) from by rw [show wr (((n+1:Nat):Int) - 1)=((n+1:Nat):Int) - 1 from wri (by omega) (by omega)];omega]
  ·rintro ⟨cap',l,us,c6,p6,h6⟩ ⟨i1,i2,i3⟩
   exact ⟨_,_,_,_,_,_,rfl,i1,i2,i3⟩

theorem anyR_ans {code:List Int} (hl:code.length≤1048576) {c:List Int} {p h:Int} (hc:Cur code (c,p,h)): ∃ a b d r u c' p' h',s_l32Any (c,p,h)=some (a,b,d,r,u,c',p',h')∧Cur code (c',p',h'):=by
 obtain ⟨a,b,d,r,u,c1,p1,h1,e1,k1⟩:=share_ans hl hc
 obtain ⟨v,c2,p2,h2,e2,_,k2⟩:=below_ans hl (n:=12) (by decide) (by decide) k1
 unfold s_l32Any
 simp only [e1,e2,obind_some]
 cases d0:(v==(0:Int)) with
 | true=>
  obtain ⟨w,c3,p3,h3,e3,_,k3⟩:=int_ans hl (l:=[(0:Int),(100000:Int),(100001:Int)]) (by decide) (by decide) k2
  exact ⟨w,b,d,r,u,c3,p3,h3,by simp only [cond_true,e3,obind_some],k3⟩
 | false=>
  cases d1:(v==(1:Int)) with
  | true=>
   obtain ⟨w,c3,p3,h3,e3,_,k3⟩:=int_ans hl (l:=[(0:Int),(20:Int),(21:Int),(-1:Int)]) (by decide) (by decide) k2
   exact ⟨a,b,d,w,u,c3,p3,h3,by simp only [cond_true,cond_false,e3,obind_some],k3⟩
  | false=>
   cases d2:(v==(2:Int)) with
   | true=>
    obtain ⟨w,c3,p3,h3,e3,_,k3⟩:=int_ans hl (l:=[(0:Int),(7:Int)]) (by decide) (by decide) k2
    exact ⟨a,b,w,r,u,c3,p3,h3,by simp only [cond_true,cond_false,e3,obind_some],k3⟩
   | false=>exact ⟨a,b,d,r,u,c2,p2,h2,by simp only [cond_false,obind_some],k2⟩

theorem any_ans {code:List Int} (hl:code.length≤1048576) {c:List Int} {p h:Int} (hc:Cur code (c,p,h)): ∃ cap l us c' p' h',s_l34Any (c,p,h)=some (cap,l,us,c',p',h')∧l.length≤100∧us.length≤100∧Cur code (c',p',h'):=by
 obtain ⟨cap,l,us,c1,p1,h1,e1,ok,hu,k1⟩:=draw_ans hl hc
 obtain ⟨v,c2,p2,h2,e2,_,k2⟩:=below_ans hl (n:=12) (by decide) (by decide) k1
 have hr:l.length≤40:=ok.res.len
 unfold s_l34Any
 simp only [e1,e2,obind_some,both_self,dup_self,dup3_self,dup4_self,dup5_self]
 cases d0:(v==(0:Int)) with
 | true=>
  obtain ⟨w,c3,p3,h3,e3,_,k3⟩:=int_ans hl (l:=[(0:Int),(1:Int),(20:Int),(21:Int)]) (by decide) (by decide) k2
  exact ⟨w,l,us,c3,p3,h3,by simp only [cond_true,e3,obind_some],by omega,by omega,k3⟩
 | false=>
  cases d1:(v==(1:Int)) with
  | true=>
   obtain ⟨w,c3,p3,h3,e3,_,k3⟩:=below_ans hl (n:=3) (by decide) (by decide) k2
   obtain ⟨x,c4,p4,h4,e4,_,k4⟩:=below_ans hl (n:=9) (by decide) (by decide) k3
   refine ⟨cap,l,us++[(w,1,1,x)],c4,p4,h4,?_,by omega,by simp;omega,k4⟩
   simp only [cond_true,cond_false,e3,e4,obind_some,apOk_le (b:=32) (n:=us.length) (m:=1) (by decide) (by omega)]
  | false=>
   cases d2:(v==(2:Int)) with
   | true=>
    obtain ⟨a,b,d,r,u,c3,p3,h3,e3,k3⟩:=anyR_ans hl k2
    refine ⟨cap,l++[(a,b,d,r,u)],us,c3,p3,h3,?_,by simp;omega,by omega,k3⟩
    simp only [cond_true,cond_false,e3,obind_some,apOk_le (b:=40) (n:=l.length) (m:=1) (by decide) (by omega)]
   | false=>exact ⟨cap,l,us,c2,p2,h2,by simp only [cond_false,obind_some],by omega,by omega,k2⟩

theorem drawS_ans {code:List Int} (hl:code.length≤1048576): ∃ cap l us,s_DrawScheduler code=some (cap,l,us)∧OkS (cap,l,us) 45∧us.length≤12:=by
 obtain ⟨c,p,h,e,k⟩:=new_ans hl
 obtain ⟨cap,l,us,c1,p1,h1,e1,ok,hu,k1⟩:=draw_ans hl k
 refine ⟨cap,l,us,?_,ok,hu⟩
 unfold s_DrawScheduler
 simp only [e,e1,obind_some]

theorem drawT_ans {code:List Int} (hl:code.length≤1048576): ∃ cap a b d l us,s_DrawTransmit code=some (cap,a,b,d,45,l,us)∧l.length≤100∧us.length≤100:=by
 obtain ⟨c,p,h,e,k⟩:=new_ans hl
 obtain ⟨cap,l,us,c1,p1,h1,e1,hr,hu,k1⟩:=any_ans hl k
 obtain ⟨v2,c2,p2,h2,e2,_,k2⟩:=below_ans hl (n:=5) (by decide) (by decide) k1
 obtain ⟨v3,c3,p3,h3,e3,_,k3⟩:=below_ans hl (n:=3) (by decide) (by decide) k2
 obtain ⟨v4,c4,p4,h4,e4,_,k4⟩:=below_ans hl (n:=2) (by decide) (by decide) k3
 refine ⟨cap,v2,v3,wr (1+v4),l,us,?_,hr,hu⟩
 unfold s_DrawTransmit s_DrawUsedCount
 simp only [e,e1,e2,e3,e4,obind_some,both_self,dup_self,dup3_self,dup4_self,dup5_self]

theorem drawN_ans {code:List Int} (hl:code.length≤1048576): ∃ v,s_DrawNewScheduler code=some v:=by
 obtain ⟨c,p,h,e,k⟩:=new_ans hl
 obtain ⟨w,c3,p3,h3,e3,_,k3⟩:=int_ans hl (l:=[(0:Int),(1:Int),(8:Int),(20:Int),(21:Int),(-1:Int)]) (by decide) (by decide) k
 refine ⟨w,?_⟩
 unfold s_DrawNewScheduler
 simp only [e,e3,obind_some]

theorem drawV_ans {code:List Int} (hl:code.length≤1048576): ∃ cap l us,s_DrawValidScheduler code=some (cap,45,l,us)∧l.length≤100∧us.length≤100:=by
 obtain ⟨c,p,h,e,k⟩:=new_ans hl
 obtain ⟨cap,l,us,c1,p1,h1,e1,hr,hu,k1⟩:=any_ans hl k
 refine ⟨cap,l,us,?_,hr,hu⟩
 unfold s_DrawValidScheduler
 simp only [e,e1,obind_some]

theorem drawB_ans {code:List Int} (hl:code.length≤1048576): ∃ cap t l us,s_DrawBeginTick code=some (cap,t,l,us)∧l.length≤100∧us.length≤100:=by
 obtain ⟨c,p,h,e,k⟩:=new_ans hl
 obtain ⟨cap,l,us,c1,p1,h1,e1,hr,hu,k1⟩:=any_ans hl k
 obtain ⟨v2,c2,p2,h2,e2,_,k2⟩:=below_ans hl (n:=30) (by decide) (by decide) k1
 refine ⟨cap,wr (40+v2),l,us,?_,hr,hu⟩
 unfold s_DrawBeginTick
 simp only [e,e1,e2,obind_some,both_self,dup_self,dup3_self,dup4_self,dup5_self]

theorem drawE_ans {code:List Int} (hl:code.length≤1048576): ∃ cap cap' l us l' us',s_DrawEqualSchedulers code=some (cap,cap',l,us,l',us')∧l.length≤100∧us.length≤100∧l'.length≤100∧us'.length≤100:=by
 obtain ⟨c,p,h,e,k⟩:=new_ans hl
 obtain ⟨cap,l,us,c1,p1,h1,e1,hr,hu,k1⟩:=any_ans hl k
 obtain ⟨v,c2,p2,h2,e2,k2⟩:=once_ans hl (n:=2) (by decide) (by decide) k1
 obtain ⟨cap',l',us',c3,p3,h3,e3,hr',hu',k3⟩:=any_ans hl k2
 unfold s_DrawEqualSchedulers
 simp only [e,e1,e2,obind_some,both_self,dup_self,dup3_self,dup4_self,dup5_self]
 cases v with
 | true=>exact ⟨cap,cap,l,us,l,us,by simp only [cond_true,s_copyS (g:=(cap,l,us)) (by show l.length≤_;omega) (by show us.length≤_;omega),obind_some],hr,hu,hr,hu⟩
 | false=>exact ⟨cap,cap',l,us,l',us',by simp only [cond_false,e3,obind_some],hr,hu,hr',hu'⟩

theorem at_ans {code:List Int} (hl:code.length≤1048576) {i:Int} (h:0≤i): ∃ v,l_at code i=some v:=by
 obtain ⟨m,rfl⟩:=Int.eq_ofNat_of_zero_le h
 unfold l_at
 by_cases hm:m<code.length
 ·exact ⟨wr code[m],by rw [decide_eq_true (by omega),cond_true,idx_nat,List.getElem?_eq_getElem hm,obind_some]⟩
 ·exact ⟨Int.tmod (wr ((wr ((m:Int) * (31:Int)))+(wr ((code.length:Int) * (7:Int))))) (256:Int),by rw [decide_eq_false (by omega),cond_false]⟩

theorem shares_ans {a b:List (den tRs)} (h:a.length≤1073741824): ∃ v,l_sameShares a b=some v∧(a=b→v=true):=by
 unfold l_sameShares
 by_cases hn:a.length=b.length
 ·rw [hn,bne_self_eq_false,cond_false,← hn]
  refine loop_bind (G:=fun o=> ∃ v,o=some v∧(a=b→v=true)) (fun (n:Nat) (s:Int)=> ∃ k:Nat,s=(k:Int)∧k+n=a.length) (fun (r:Unit⊕Bool)=>a=b→r= .inl ()) ?_ a.length _ ⟨0,rfl,by omega⟩ ?_
  ·rintro n _ ⟨k,rfl,hk⟩
   cases n with
   | zero=>exact .inl ⟨.inl (),by simp only [decide_eq_false (show ¬ (k:Int)<(a.length:Int) by omega),cond_false],fun _=>rfl⟩
   | succ n=>
    have h1:k<a.length:=by omega
    have h2:k<b.length:=by omega
    simp only [decide_eq_true (show (k:Int)<(a.length:Int) by omega),cond_true,idx_nat,List.getElem?_eq_getElem h1,List.getElem?_eq_getElem h2,obind_some]
    cases hc:((a[k].1==b[k].1)&&((a[k].2.1==b[k].2.1)&&((a[k].2.2.1==b[k].2.2.1)&&((a[k].2.2.2.1==b[k].2.2.2.1)&&((a[k].2.2.2.2==b[k].2.2.2.2)&&true))))) with
    | true=>
     refine .inr ⟨n,((k+1:Nat):Int),by omega,?_,k+1,rfl,by omega⟩
     simp only [Bool.not_true,cond_false]
     rw [show wr ((k:Int)+1)=((k+1:Nat):Int) from by rw [show wr ((k:Int)+1)=(k:Int)+1 from wri (by omega) (by omega)];omega]
    | false=>
     refine .inl ⟨.inr false,by simp only [Bool.not_false,cond_true],fun e=> ?_⟩
     subst e
     simp at hc
  ·intro r hr
   cases r with
   | inl u=>exact ⟨true,rfl,fun _=>rfl⟩
   | inr v=>exact ⟨v,rfl,fun e=>by cases hr e⟩
 ·rw [show ((a.length:Int) != (b.length:Int))=true by rw [bne_iff_ne];omega,cond_true]
  exact ⟨false,rfl,fun e=>absurd (congrArg List.length e) hn⟩

theorem gate_ans {a b:den tSc} (h1:a.2.1.length≤1073741824) (h2:a.2.2.length≤1073741824): ∃ v,l_sameGate a b=some v∧(a=b→v=true):=by
 obtain ⟨v1,e1,k1⟩:=shares_ans (b:=b.2.1) h1
 unfold l_sameGate
 rw [e1,obind_some]
 cases hc:(a.1 != b.1) with
 | true=>exact ⟨false,rfl,fun e=>by subst e;simp at hc⟩
 | false=>
  cases v1 with
  | false=>exact ⟨false,rfl,fun e=>by subst e;cases k1 rfl⟩
  | true=>
   by_cases hn:a.2.2.length=b.2.2.length
   ·simp only [cond_false,Bool.not_true,hn,bne_self_eq_false,obind_some]
    rw [← hn]
    refine loop_bind (G:=fun o=> ∃ v,o=some v∧(a=b→v=true)) (fun (n:Nat) (s:Int)=> ∃ k:Nat,s=(k:Int)∧k+n=a.2.2.length) (fun (r:Unit⊕Bool)=>a=b→r= .inl ()) ?_ a.2.2.length _ ⟨0,rfl,by omega⟩ ?_
    ·rintro n _ ⟨k,rfl,hk⟩
     cases n with
     | zero=>exact .inl ⟨.inl (),by simp only [decide_eq_false (show ¬ (k:Int)<(a.2.2.length:Int) by omega),cond_false],fun _=>rfl⟩
     | succ n=>
      have h3:k<a.2.2.length:=by omega
      have h4:k<b.2.2.length:=by omega
      simp only [decide_eq_true (show (k:Int)<(a.2.2.length:Int) by omega),cond_true,idx_nat,List.getElem?_eq_getElem h3,List.getElem?_eq_getElem h4,obind_some]
      cases hc:((a.2.2[k].1==b.2.2[k].1)&&((a.2.2[k].2.1==b.2.2[k].2.1)&&((a.2.2[k].2.2.1==b.2.2[k].2.2.1)&&((a.2.2[k].2.2.2==b.2.2[k].2.2.2)&&true)))) with
      | true=>
       refine .inr ⟨n,((k+1:Nat):Int),by omega,?_,k+1,rfl,by omega⟩
       simp only [Bool.not_true,cond_false]
       rw [show wr ((k:Int)+1)=((k+1:Nat):Int) from by rw [show wr ((k:Int)+1)=(k:Int)+1 from wri (by omega) (by omega)];omega]
      | false=>
       refine .inl ⟨.inr false,by simp only [Bool.not_false,cond_true],fun e=> ?_⟩
       subst e
       simp at hc
    ·intro r hr
     cases r with
     | inl u=>exact ⟨true,rfl,fun _=>rfl⟩
     | inr v=>exact ⟨v,rfl,fun e=>by cases hr e⟩
   ·simp only [cond_false,Bool.not_true,obind_some]
    rw [show ((a.2.2.length:Int) != (b.2.2.length:Int))=true by rw [bne_iff_ne];omega,cond_true]
    exact ⟨false,rfl,fun e=>absurd (by rw [e]) hn⟩

theorem gate_refl {a:den tSc} (h1:a.2.1.length≤1073741824) (h2:a.2.2.length≤1073741824):l_sameGate a a=some true:=by
 obtain ⟨v,e,k⟩:=gate_ans (b:=a) h1 h2
 rw [e,k rfl]

theorem gate_same (a b:den tSc):i_EqualSchedulers a b=l_sameGate a b:=rfl

theorem sent_step {us:List (den tUs)} {s d:Int} {k:Nat} (hk:k<us.length) (a:Int):(us.drop k).foldl (fun a x=>if x.2.1==s&&x.2.2.1==d then wr (a+x.2.2.2) else a) a=
  (us.drop (k+1)).foldl (fun a x=>if x.2.1==s&&x.2.2.1==d then wr (a+x.2.2.2) else a) (if us[k].2.1==s&&us[k].2.2.1==d then wr (a+us[k].2.2.2) else a):=by
 rw [List.drop_eq_getElem_cons hk,List.foldl_cons]

theorem i_sent {g:den tSc} {s d:Int} (h:g.2.2.length≤1073741824):i_SentCount g s d=some (sentU g.2.2 s d):=by
 unfold i_SentCount
 refine loop_bind (G:=fun o=>o=some (sentU g.2.2 s d)) (fun (n:Nat) (t:Int×Int)=> ∃ k:Nat,t.2=(k:Int)∧k+n=g.2.2.length∧(g.2.2.drop k).foldl (fun a x=>if x.2.1==s&&x.2.2.1==d then wr (a+x.2.2.2) else a) t.1=sentU g.2.2 s d) (fun (r:Int)=>r=sentU g.2.2 s d) ?_ g.2.2.length _ ⟨0,rfl,by omega,rfl⟩ (fun r hr=>by rw [hr])
 rintro n ⟨a,_⟩ ⟨k,rfl,hk,hf⟩
 simp only at hf
 cases n with
 | zero=>
  refine .inl ⟨a,by simp only [decide_eq_false (show ¬ (k:Int)<(g.2.2.length:Int) by omega),cond_false],?_⟩
  rw [List.drop_of_length_le (by omega)] at hf
  exact hf
 | succ n=>
  have h3:k<g.2.2.length:=by omega
  rw [sent_step h3] at hf
  refine .inr ⟨n,(_,((k+1:Nat):Int)),by omega,?_,k+1,rfl,by omega,hf⟩
  simp only [decide_eq_true (show (k:Int)<(g.2.2.length:Int) by omega),cond_true,idx_nat,List.getElem?_eq_getElem h3,obind_some]
  rw [show wr ((k:Int)+1)=((k+1:Nat):Int) from by rw [show wr ((k:Int)+1)=(k:Int)+1 from wri (by omega) (by omega)];omega]
  cases g.2.2[k].2.1==s<;>cases g.2.2[k].2.2.1==d<;>rfl

theorem s_sent {g:den tSc} {s d:Int} (h:g.2.2.length≤1073741824):s_SentCount g s d=some (sentU g.2.2 s d):=by
 unfold s_SentCount
 refine loop_bind (G:=fun o=>o=some (sentU g.2.2 s d)) (fun (n:Nat) (t:Int×Int)=> ∃ k:Nat,t.2=(k:Int)∧k+n=g.2.2.length∧(g.2.2.drop k).foldl (fun a x=>if x.2.1==s&&x.2.2.1==d then wr (a+x.2.2.2) else a) t.1=sentU g.2.2 s d) (fun (r:Int)=>r=sentU g.2.2 s d) ?_ g.2.2.length _ ⟨0,rfl,by omega,rfl⟩ (fun r hr=>by rw [hr])
 rintro n ⟨a,_⟩ ⟨k,rfl,hk,hf⟩
 simp only at hf
 cases n with
 | zero=>
  refine .inl ⟨a,by simp only [decide_eq_false (show ¬ (k:Int)<(g.2.2.length:Int) by omega),cond_false],?_⟩
  rw [List.drop_of_length_le (by omega)] at hf
  exact hf
 | succ n=>
  have h3:k<g.2.2.length:=by omega
  rw [sent_step h3] at hf
  refine .inr ⟨n,(_,((k+1:Nat):Int)),by omega,?_,k+1,rfl,by omega,hf⟩
  simp only [decide_eq_true (show (k:Int)<(g.2.2.length:Int) by omega),cond_true,idx_nat,List.getElem?_eq_getElem h3,obind_some]
  rw [show wr ((k:Int)+1)=((k+1:Nat):Int) from by rw [show wr ((k:Int)+1)=(k:Int)+1 from wri (by omega) (by omega)];omega]
  cases g.2.2[k].2.1==s<;>cases g.2.2[k].2.2.1==d<;>rfl

theorem new_same (v:Int): ∃ w,i_NewScheduler v=some (w,[],[])∧s_NewScheduler v=some (w,[],[]):=by
 unfold i_NewScheduler s_NewScheduler
 rw [i_in,s_in]
 cases inR v 1 20 with
 | true=>exact ⟨v,rfl,rfl⟩
 | false=>exact ⟨1,rfl,rfl⟩

theorem i_begin {g:den tSc} {t:Int} (h:g.2.1.length≤1073741824):i_BeginTick g t=some (g.1,active g.2.1 t,[]):=by
 unfold i_BeginTick;simp only [i_active h,obind_some]

theorem s_begin {g:den tSc} {t:Int} (h:g.2.1.length≤1073741824):s_BeginTick g t=some (g.1,active g.2.1 t,[]):=by
 unfold s_BeginTick;simp only [s_active h,obind_some]

end Go.Proofs.Ytejfajiolkojlaa
