/-
  Facts and plain laws: what the functions compute, in plain words. Conditions: as each says.
-/
import Derived.Test.YtkdbhilbpbppiaaGreatT0FnFlows
set_option linter.unusedVariables false
set_option linter.unusedSimpArgs false
set_option maxRecDepth 100000
namespace Go.Proofs.YtkdbhilbpbppiaaGreat
open Go.Ab Go.V
def inR (n a b:Int):Bool:=decide (a≤n)&&decide (n≤b)

theorem i_in (n a b:Int):i_IR n a b=some (inR n a b):=by
 unfold i_IR inR
 by_cases h:a≤n<;>simp [h]

theorem s_in (n a b:Int):s_l1In n a b=some (inR n a b):=by
 unfold s_l1In inR
 by_cases h:a≤n<;>simp [h]

theorem inR_iff {n a b:Int}:inR n a b=true↔a≤n∧n≤b:=by simp [inR]

theorem s_max (a b:Int):s_Max a b=some (if b>a then b else a):=by
 unfold s_Max
 by_cases h:b>a<;>simp [h]

theorem i_min (a b:Int):i_Min a b=some (if b<a then b else a):=rfl

theorem s_min (a b:Int):s_Min a b=some (if b<a then b else a):=by
 unfold s_Min
 by_cases h:b<a<;>simp [h]

theorem i_copyB {b:List Int} (h:b.length≤68719476736):i_copyBytes b=some b:=by
 unfold i_copyBytes
 rw [apOk_le (by decide) (by simpa using h)];simp

theorem i_copyH {l:List (den tHop)} (h:l.length≤68719476736):i_copyHops l=some l:=by
 unfold i_copyHops
 rw [apOk_le (by decide) (by simpa using h)];simp

theorem i_copyV {l:List (den tRv)} (h:l.length≤68719476736):i_copyRevocations l=some l:=by
 unfold i_copyRevocations
 rw [apOk_le (by decide) (by simpa using h)];simp

theorem s_copyPt {p:den tPp} (h:SmB 68719476736 tPp p):s_l21Copy p=some p:=by
 unfold s_l21Copy
 rw [apOk_le (by decide) (by simpa using h.2.2.2.1)];simp

theorem i_copyP {p:den tPt} (h:SmB 68719476736 tPt p):i_copyPath p=some p:=by
 unfold i_copyPath
 rw [(loopF (fun k (a:List (den tPp))=>((k:Int),a)) ((0:Int),[]) [] p (fun _ x a=>a++[x]) List.length (fun _=>1) 68719476736 id rfl (Nat.le_trans h.1 (by decide)) (by rw [sum_one];simpa using h.1) (fun k x a hi hx hd hw hk hb=>by
  have e:=h.2 x (List.mem_of_getElem? hx)
  simp only [hd,hi,hw,cond_true,obind_some,i_copyH e.2.2.2.1,peta,apOk_le (b:=48) (by decide) hb]
  simp) (fun a=>by simp)).1,foldI_map (fun x=>x)]
 simp

theorem s_copyP {p:den tPt} (h:SmB 68719476736 tPt p):s_l22Copy p=some p:=by
 unfold s_l22Copy
 rw [(loopF (fun k (a:List (den tPp))=>((k:Int),a)) ((0:Int),[]) [] p (fun _ x a=>a++[x]) List.length (fun _=>1) 68719476736 id rfl (Nat.le_trans h.1 (by decide)) (by rw [sum_one];simpa using h.1) (fun k x a hi hx hd hw hk hb=>by
  have e:=h.2 x (List.mem_of_getElem? hx)
  simp only [hd,hi,hw,cond_true,obind_some,peta,s_copyPt e,apOk_le (b:=48) (by decide) hb]
  simp) (fun a=>by simp)).1,foldI_map (fun x=>x)]
 simp

theorem i_copyPs {l:List (den tPt)} (h:SmB 68719476736 (.sl tPt) l):i_copyPaths l=some l:=by
 unfold i_copyPaths
 rw [(loopF (fun k (a:List (den tPt))=>((k:Int),a)) ((0:Int),[]) [] l (fun _ x a=>a++[x]) List.length (fun _=>1) 68719476736 id rfl (Nat.le_trans h.1 (by decide)) (by rw [sum_one];simpa using h.1) (fun k x a hi hx hd hw hk hb=>by
  have e:=h.2 x (List.mem_of_getElem? hx)
  simp only [hd,hi,hw,cond_true,obind_some,i_copyP e,apOk_le (b:=24) (by decide) hb]
  simp) (fun a=>by simp)).1,foldI_map (fun x=>x)]
 simp

theorem s_copyPs {l:List (den tPt)} (h:SmB 68719476736 (.sl tPt) l):s_l24Copy l=some l:=by
 unfold s_l24Copy
 rw [(loopF (fun k (a:List (den tPt))=>((k:Int),a)) ((0:Int),[]) [] l (fun _ x a=>a++[x]) List.length (fun _=>1) 68719476736 id rfl (Nat.le_trans h.1 (by decide)) (by rw [sum_one];simpa using h.1) (fun k x a hi hx hd hw hk hb=>by
  have e:=h.2 x (List.mem_of_getElem? hx)
  simp only [hd,hi,hw,cond_true,obind_some,s_copyP e,apOk_le (b:=24) (by decide) hb]
  simp) (fun a=>by simp)).1,foldI_map (fun x=>x)]
 simp

theorem i_copyM {l:List (den tMs)} (h:SmB 68719476736 (.sl tMs) l):i_copyMessages l=some l:=by
 unfold i_copyMessages
 rw [(loopF (fun k (a:List (den tMs))=>((k:Int),a)) ((0:Int),[]) [] l (fun _ x a=>a++[x]) List.length (fun _=>1) 68719476736 id rfl (Nat.le_trans h.1 (by decide)) (by rw [sum_one];simpa using h.1) (fun k x a hi hx hd hw hk hb=>by
  have e:=h.2 x (List.mem_of_getElem? hx)
  simp only [hd,hi,hw,cond_true,obind_some,i_copyB e.1,apOk_le (b:=24) (by decide) hb]
  simp) (fun a=>by simp)).1,foldI_map (fun x=>x)]
 simp

theorem s_copyM {l:List (den tMs)} (h:SmB 68719476736 (.sl tMs) l):s_l35Texts l=some l:=by
 unfold s_l35Texts
 rw [(loopF (fun k (a:List (den tMs))=>((k:Int),a)) ((0:Int),[]) [] l (fun _ x a=>a++[x]) List.length (fun _=>1) 68719476736 id rfl (Nat.le_trans h.1 (by decide)) (by rw [sum_one];simpa using h.1) (fun k x a hi hx hd hw hk hb=>by
  have e:=h.2 x (List.mem_of_getElem? hx)
  simp only [hd,hi,hw,cond_true,obind_some,apOk_le (b:=1) (n:=([]:List Int).length) (by decide) (by simpa using e.1),apOk_le (b:=24) (by decide) hb]
  simp) (fun a=>by simp)).1,foldI_map (fun x=>x)]
 simp


def flowR (f:den tFl):Int×Int×Int×Int×Int×Int×(List (den tMs))×(List (den tPt))×(List (den tRv)):=(f.1,f.2.1,f.2.2.1,f.2.2.2.1,f.2.2.2.2.2.2.1,f.2.2.2.2.2.2.2.1,f.2.2.2.2.1,f.2.2.2.2.2.1,f.2.2.2.2.2.2.2.2)

theorem i_copyF {f:den tFl} (h:SmB 68719476736 tFl f):i_copyFlow f=some (flowR f):=by
 unfold i_copyFlow flowR
 simp only [i_copyM h.2.2.2.2.1,i_copyPs h.2.2.2.2.2.1,i_copyV h.2.2.2.2.2.2.2.2.1,obind_some]

theorem s_copyF {f:den tFl} (h:SmB 68719476736 tFl f):s_l35Copy f=some (flowR f):=by
 unfold s_l35Copy flowR
 simp only [s_copyM h.2.2.2.2.1,s_copyPs h.2.2.2.2.2.1,obind_some,apOk_le (b:=24) (n:=([]:List (den tRv)).length) (by decide) (by simpa using h.2.2.2.2.2.2.2.2.1),cond_true,List.nil_append]

def validV (x:den tRv):Bool:=inR x.1 0 7&&(inR x.2.1 1 6&&inR x.2.2 0 1000000)

theorem i_validV (x:den tRv):i_ValidRevocation x=some (validV x):=by
 unfold i_ValidRevocation validV
 simp only [i_in,obind_some]
 cases inR x.1 0 7<;>cases inR x.2.1 1 6<;>cases inR x.2.2 0 1000000<;>rfl

theorem s_validV (x:den tRv):s_ValidRevocation x=some (validV x):=by
 unfold s_ValidRevocation validV
 simp only [s_in,obind_some]
 cases inR x.1 0 7<;>cases inR x.2.1 1 6<;>cases inR x.2.2 0 1000000<;>rfl


theorem scanB {α S:Type} (p:Nat→α→Bool): ∀ (l:List α) (k:Nat) (ρ:S),scanI (fun k x=>if p k x then none else some ρ) k l=if (l.zipIdx k).all (fun x=>p x.2 x.1) then none else some ρ
 | [],_,_=>rfl
 | x::xs,k,ρ=>by
  simp only [scanI,List.zipIdx_cons,List.all_cons]
  rcases Bool.eq_false_or_eq_true (p k x) with h | h
  ·simp only [h,if_true,Bool.true_and];exact scanB p xs (k+1) ρ
  ·simp [h]

theorem zip_all {α:Type} (p:α→Bool): ∀ (l:List α) (k:Nat),(l.zipIdx k).all (fun x=>p x.1)=l.all p
 | [],_=>rfl
 | x::xs,k=>by simp [List.zipIdx_cons,zip_all p xs]

theorem scanA {α S:Type} (p:α→Bool) (l:List α) (ρ:S):scanI (fun _ x=>if p x then none else some ρ) 0 l=if l.all p then none else some ρ:=by
 rw [scanB (fun _ x=>p x),zip_all p]

def validF (f:den tFl):Bool:=
 inR f.1 0 7&&(inR f.2.1 0 7&&(!(f.1==f.2.1)&&(inR f.2.2.1 0 100000&&(decide (f.2.2.2.2.1.length≤20)&&(inR f.2.2.2.1 0 (f.2.2.2.2.1.length:Int)&&(decide (f.2.2.2.2.2.1.length≤24)&&
  (f.2.2.2.2.1.all (fun m=>decide (m.length≤40))&&(f.2.2.2.2.2.2.2.2.all validV&&((f.2.2.2.2.2.2.1==0||inR f.2.2.2.2.2.2.1 0 ((f.2.2.2.2.2.1.length:Int) - 1))&&(inR f.2.2.2.2.2.2.2.1 0 4&&decide (f.2.2.2.2.2.2.2.2.length≤16)))))))))))

theorem i_validF {f:den tFl} (h:SmB 68719476736 tFl f):i_ValidFlow f=some (validF f):=by
 have h1:=h.2.2.2.2.1.1
 have h2:=h.2.2.2.2.2.1.1
 have h3:=h.2.2.2.2.2.2.2.2.1
 unfold i_ValidFlow validF
 rw [loop_scan (l:=f.2.2.2.2.1) (fun _ m=>if decide (m.length≤40) then none else some false) (by omega) (fun k m hi hd hw hx hk=>by
  simp only [hd,hi,hw,cond_true,obind_some]
  by_cases hm:m.length≤40
  ·simp [hm,show ¬ ((m.length:Int)>40) by omega]
  ·simp [hm,show (m.length:Int)>40 by omega]) (by simp)]
 rw [loop_scan (l:=f.2.2.2.2.2.2.2.2) (fun _ x=>if validV x then none else some false) (by omega) (fun k x hi hd hw hx hk=>by
  simp only [hd,hi,hw,cond_true,obind_some,peta,i_validV]
  cases validV x<;>rfl) (by simp)]
 rw [scanA (fun m:List Int=>decide (m.length≤40)),scanA validV]
 have e1:decide ((f.2.2.2.2.1.length:Int)>20)= !decide (f.2.2.2.2.1.length≤20):=by rw [Bool.eq_iff_iff];simp;omega
 have e2:decide ((f.2.2.2.2.2.1.length:Int)>24)= !decide (f.2.2.2.2.2.1.length≤24):=by rw [Bool.eq_iff_iff];simp;omega
 have e3:decide ((f.2.2.2.2.2.2.2.2.length:Int)≤16)=decide (f.2.2.2.2.2.2.2.2.length≤16):=by rw [Bool.eq_iff_iff];simp;omega
 have e5:wr ((f.2.2.2.2.2.1.length:Int) - 1)=(f.2.2.2.2.2.1.length:Int) - 1:=wri (by omega) (by omega)
 rw [e5]
 simp only [i_in,obind_some,e1,e2,e3]
 cases inR f.1 0 7<;>simp only [Bool.not_true,Bool.not_false,cond_true,cond_false,obind_some,Bool.false_and,Bool.true_and]
 cases inR f.2.1 0 7<;>simp only [Bool.not_true,Bool.not_false,cond_true,cond_false,obind_some,Bool.false_and,Bool.true_and]
 cases f.1==f.2.1<;>simp only [Bool.not_true,Bool.not_false,cond_true,cond_false,obind_some,Bool.false_and,Bool.true_and]
 cases inR f.2.2.1 0 100000<;>simp only [Bool.not_true,Bool.not_false,cond_true,cond_false,obind_some,Bool.false_and,Bool.true_and]
 cases decide (f.2.2.2.2.1.length≤20)<;>simp only [Bool.not_true,Bool.not_false,cond_true,cond_false,obind_some,Bool.false_and,Bool.true_and]
 cases inR f.2.2.2.1 0 (f.2.2.2.2.1.length:Int)<;>simp only [Bool.not_true,Bool.not_false,cond_true,cond_false,obind_some,Bool.false_and,Bool.true_and]
 cases decide (f.2.2.2.2.2.1.length≤24)<;>simp only [Bool.not_true,Bool.not_false,cond_true,cond_false,obind_some,Bool.false_and,Bool.true_and]
 cases f.2.2.2.2.1.all (fun m=>decide (m.length≤40))<;>simp only [Bool.false_eq_true,if_true,if_false,obind_some,Sum.elim_inl,Sum.elim_inr,Bool.false_and,Bool.true_and]
 cases f.2.2.2.2.2.2.2.2.all validV<;>simp only [Bool.false_eq_true,if_true,if_false,obind_some,Sum.elim_inl,Sum.elim_inr,Bool.false_and,Bool.true_and]
 cases f.2.2.2.2.2.2.1==0<;>cases inR f.2.2.2.2.2.2.1 0 ((f.2.2.2.2.2.1.length:Int) - 1)<;>cases inR f.2.2.2.2.2.2.2.1 0 4<;>rfl

theorem s_validF {f:den tFl} (h:SmB 68719476736 tFl f):s_ValidFlow f=some (validF f):=by
 have h1:=h.2.2.2.2.1.1
 have h2:=h.2.2.2.2.2.1.1
 have h3:=h.2.2.2.2.2.2.2.2.1
 unfold s_ValidFlow validF
 rw [loop_scan (l:=f.2.2.2.2.1) (fun _ m=>if decide (m.length≤40) then none else some false) (by omega) (fun k m hi hd hw hx hk=>by
  simp only [hd,hi,hw,cond_true,obind_some]
  by_cases hm:m.length≤40
  ·simp [hm,show ¬ ((m.length:Int)>40) by omega]
  ·simp [hm,show (m.length:Int)>40 by omega]) (by simp)]
 rw [loop_scan (l:=f.2.2.2.2.2.2.2.2) (fun _ x=>if validV x then none else some false) (by omega) (fun k x hi hd hw hx hk=>by
  simp only [hd,hi,hw,cond_true,obind_some,peta,s_validV]
  cases validV x<;>rfl) (by simp)]
 rw [scanA (fun m:List Int=>decide (m.length≤40)),scanA validV]
 have e1:decide ((f.2.2.2.2.1.length:Int)>20)= !decide (f.2.2.2.2.1.length≤20):=by rw [Bool.eq_iff_iff];simp;omega
 have e2:decide ((f.2.2.2.2.2.1.length:Int)>24)= !decide (f.2.2.2.2.2.1.length≤24):=by rw [Bool.eq_iff_iff];simp;omega
 have e3:decide ((f.2.2.2.2.2.2.2.2.length:Int)>16)= !decide (f.2.2.2.2.2.2.2.2.length≤16):=by rw [Bool.eq_iff_iff];simp;omega
 have e4:inR f.2.2.2.2.2.2.1 0 (if ((f.2.2.2.2.2.1.length:Int) - 1)>0 then ((f.2.2.2.2.2.1.length:Int) - 1) else 0)=(f.2.2.2.2.2.2.1==0||inR f.2.2.2.2.2.2.1 0 ((f.2.2.2.2.2.1.length:Int) - 1)):=by
  have key: ∀ (c n:Int),0≤n→inR c 0 (if n - 1>0 then n - 1 else 0)=(c==0||inR c 0 (n - 1)):=fun c n hn=>by
   unfold inR
   by_cases h1:n - 1>0
   ·rw [if_pos h1]
    by_cases h2:c=0
    ·subst h2;simp;omega
    ·simp [h2]
   ·rw [if_neg h1]
    by_cases h2:c=0
    ·subst h2;simp
    ·rw [Bool.eq_iff_iff];simp [h2];omega
  exact key _ _ (by omega)
 have e5:wr ((f.2.2.2.2.2.1.length:Int) - 1)=(f.2.2.2.2.2.1.length:Int) - 1:=wri (by omega) (by omega)
 rw [e5]
 simp only [s_in,s_max,obind_some,e1,e2,e3,e4]
 cases inR f.1 0 7<;>simp only [Bool.not_true,Bool.not_false,cond_true,cond_false,obind_some,Bool.false_and,Bool.true_and]
 cases inR f.2.1 0 7<;>simp only [Bool.not_true,Bool.not_false,cond_true,cond_false,obind_some,Bool.false_and,Bool.true_and]
 cases f.1==f.2.1<;>simp only [Bool.not_true,Bool.not_false,cond_true,cond_false,obind_some,Bool.false_and,Bool.true_and]
 cases inR f.2.2.1 0 100000<;>simp only [Bool.not_true,Bool.not_false,cond_true,cond_false,obind_some,Bool.false_and,Bool.true_and]
 cases decide (f.2.2.2.2.1.length≤20)<;>simp only [Bool.not_true,Bool.not_false,cond_true,cond_false,obind_some,Bool.false_and,Bool.true_and]
 cases inR f.2.2.2.1 0 (f.2.2.2.2.1.length:Int)<;>simp only [Bool.not_true,Bool.not_false,cond_true,cond_false,obind_some,Bool.false_and,Bool.true_and]
 cases decide (f.2.2.2.2.2.1.length≤24)<;>simp only [Bool.not_true,Bool.not_false,cond_true,cond_false,obind_some,Bool.false_and,Bool.true_and]
 cases f.2.2.2.2.2.2.1==0||inR f.2.2.2.2.2.2.1 0 ((f.2.2.2.2.2.1.length:Int) - 1)<;>cases inR f.2.2.2.2.2.2.2.1 0 4<;>cases decide (f.2.2.2.2.2.2.2.2.length≤16)<;>cases f.2.2.2.2.1.all (fun m=>decide (m.length≤40))<;>cases f.2.2.2.2.2.2.2.2.all validV<;>rfl

def enq (f:den tFl) (b:List Int):den tFl:=(f.1,f.2.1,f.2.2.1,f.2.2.2.1,f.2.2.2.2.1++[b],f.2.2.2.2.2.1,f.2.2.2.2.2.2.1,f.2.2.2.2.2.2.2.1,f.2.2.2.2.2.2.2.2)

def enqR (f:den tFl) (b:List Int):Int×Int×Int×Int×Int×Int×Bool×(List (den tMs))×(List (den tPt))×(List (den tRv)):=
 if validF (enq f b) then (f.1,f.2.1,f.2.2.1,f.2.2.2.1,f.2.2.2.2.2.2.1,f.2.2.2.2.2.2.2.1,true,f.2.2.2.2.1++[b],f.2.2.2.2.2.1,f.2.2.2.2.2.2.2.2)
 else (f.1,f.2.1,f.2.2.1,f.2.2.2.1,f.2.2.2.2.2.2.1,f.2.2.2.2.2.2.2.1,false,f.2.2.2.2.1,f.2.2.2.2.2.1,f.2.2.2.2.2.2.2.2)

theorem enq_sm {f:den tFl} {b:List Int} (hf:SmB 4294967296 tFl f) (hb:SmB 4294967296 (.sl tb) b):SmB 68719476736 tFl (enq f b):=by
 have hf':=hf.mono (C:=68719476736) (by decide)
 refine ⟨hf'.1,hf'.2.1,hf'.2.2.1,hf'.2.2.2.1,⟨?_,fun e he=> ?_⟩,hf'.2.2.2.2.2.1,hf'.2.2.2.2.2.2.1,hf'.2.2.2.2.2.2.2.1,hf'.2.2.2.2.2.2.2.2⟩
 ·show (f.2.2.2.2.1++[b]).length≤_
  have :=hf.2.2.2.2.1.1
  rw [List.length_append,List.length_singleton];omega
 ·rcases List.mem_append.1 he with he | he
  ·exact hf'.2.2.2.2.1.2 e he
  ·rw [List.mem_singleton.1 he];exact hb.mono (by decide)

theorem i_enq {f:den tFl} {b:List Int} (hf:SmB 4294967296 tFl f) (hb:SmB 4294967296 (.sl tb) b):i_Enqueue f b=some (enqR f b):=by
 unfold i_Enqueue enqR
 have hf':=hf.mono (C:=68719476736) (by decide)
 have h1:=hf.2.2.2.2.1.1
 have h2:i_ValidFlow (f.1,f.2.1,f.2.2.1,f.2.2.2.1,f.2.2.2.2.1++[b],f.2.2.2.2.2.1,f.2.2.2.2.2.2.1,f.2.2.2.2.2.2.2.1,f.2.2.2.2.2.2.2.2)=some (validF (enq f b)):=i_validF (f:=enq f b) (enq_sm hf hb)
 simp only [peta,i_copyF hf',i_copyB (b:=b) (Nat.le_trans hb.1 (by decide)),obind_some,flowR,apOk_le (b:=24) (n:=f.2.2.2.2.1.length) (m:=1) (by decide) (by omega),cond_true,h2]
 cases validF (enq f b)<;>rfl

theorem s_enq {f:den tFl} {b:List Int} (hf:SmB 4294967296 tFl f) (hb:SmB 4294967296 (.sl tb) b):s_Enqueue f b=some (enqR f b):=by
 unfold s_Enqueue enqR
 have hf':=hf.mono (C:=68719476736) (by decide)
 have h1:=hf.2.2.2.2.1.1
 have h2:s_ValidFlow (f.1,f.2.1,f.2.2.1,f.2.2.2.1,f.2.2.2.2.1++[b],f.2.2.2.2.2.1,f.2.2.2.2.2.2.1,f.2.2.2.2.2.2.2.1,f.2.2.2.2.2.2.2.2)=some (validF (enq f b)):=s_validF (f:=enq f b) (enq_sm hf hb)
 simp only [peta,s_copyF hf',obind_some,flowR,apOk_le (b:=1) (n:=([]:List Int).length) (m:=b.length) (by decide) (by have :=hb.1;simp;omega),apOk_le (b:=24) (n:=f.2.2.2.2.1.length) (m:=1) (by decide) (by omega),cond_true,List.nil_append,h2]
 cases validF (enq f b)<;>rfl

def isRev (k:Int):Bool:=k==1||k==3

theorem i_isRev (k:Int):i_IsReversed k=some (isRev k):=by
 unfold i_IsReversed isRev
 cases k==1<;>rfl

theorem s_isRev (k:Int):s_IsReversed k=some (isRev k):=by
 unfold s_IsReversed isRev
 cases k==1<;>rfl

def pIn (p:den tPp) (h:den tHop):Int:=if isRev p.1 then h.2.2.1 else h.2.1

def pEg (p:den tPp) (h:den tHop):Int:=if isRev p.1 then h.2.1 else h.2.2.1

theorem wr_len {n:Nat} (h:n≤68719476736):wr ((n:Int) - 1)=(n:Int) - 1:=wri (by omega) (by omega)

theorem inR_idx {k n:Nat} (h:k<n):inR (k:Int) 0 ((n:Int) - 1)=true:=by rw [inR_iff];omega

theorem i_pIn {p:den tPp} {k:Nat} {h:den tHop} (hk:p.2.2.2[k]? =some h) (hl:p.2.2.2.length≤68719476736):i_PartIngress p (k:Int)=some (pIn p h):=by
 have hlt:k<p.2.2.2.length:=(List.getElem?_eq_some_iff.1 hk).1
 unfold i_PartIngress pIn
 simp only [i_in,wr_len hl,inR_idx hlt,obind_some,Bool.not_true,cond_false,i_isRev,idx_nat,hk]
 cases isRev p.1<;>rfl

theorem s_pIn {p:den tPp} {k:Nat} {h:den tHop} (hk:p.2.2.2[k]? =some h) (hl:p.2.2.2.length≤68719476736):s_PartIngress p (k:Int)=some (pIn p h):=by
 have hlt:k<p.2.2.2.length:=(List.getElem?_eq_some_iff.1 hk).1
 unfold s_PartIngress pIn
 simp only [s_in,wr_len hl,inR_idx hlt,obind_some,Bool.not_true,cond_false,s_isRev,idx_nat,hk]
 cases isRev p.1<;>rfl

theorem i_pEg {p:den tPp} {k:Nat} {h:den tHop} (hk:p.2.2.2[k]? =some h) (hl:p.2.2.2.length≤68719476736):i_PartEgress p (k:Int)=some (pEg p h):=by
 have hlt:k<p.2.2.2.length:=(List.getElem?_eq_some_iff.1 hk).1
 unfold i_PartEgress pEg
 simp only [i_in,wr_len hl,inR_idx hlt,obind_some,Bool.not_true,cond_false,i_isRev,idx_nat,hk]
 cases isRev p.1<;>rfl

theorem s_pEg {p:den tPp} {k:Nat} {h:den tHop} (hk:p.2.2.2[k]? =some h) (hl:p.2.2.2.length≤68719476736):s_PartEgress p (k:Int)=some (pEg p h):=by
 have hlt:k<p.2.2.2.length:=(List.getElem?_eq_some_iff.1 hk).1
 unfold s_PartEgress pEg
 simp only [s_in,wr_len hl,inR_idx hlt,obind_some,Bool.not_true,cond_false,s_isRev,idx_nat,hk]
 cases isRev p.1<;>rfl

def addS (nf:Bool) (p:den tPp) (i:Nat) (h:den tHop) (out:List (den tStep)):List (den tStep):=
 match out.getLast? with
 | some z=>if nf&&(decide (i=0)&&z.1==h.1) then out.dropLast++[(h.1,z.2.1,pEg p h)] else out++[(h.1,pIn p h,pEg p h)]
 | none=>out++[(h.1,pIn p h,pEg p h)]

theorem addS_len (nf:Bool) (p:den tPp) (i:Nat) (h:den tHop) (out:List (den tStep)):(addS nf p i h out).length≤out.length+1:=by
 unfold addS
 split
 ·split
  ·simp only [List.length_append,List.length_dropLast,List.length_singleton];omega
  ·simp
 ·simp

def partS (nf:Bool) (p:den tPp) (a:List (den tStep)):List (den tStep):=foldI (fun i h b=>addS nf p i h b) 0 p.2.2.2 a

def steps0 (p:den tPt):List (den tStep):=foldI (fun k x a=>partS (decide (0<k)) x a) 0 p []

def endS (l:List (den tStep)):List (den tStep):=
 match l with
 | []=>[]
 | x::xs=>let m:=(x.1,0,x.2.2)::xs
  match m.getLast? with
  | some y=>m.dropLast++[(y.1,y.2.1,0)]
  | none=>[]

def steps (p:den tPt):List (den tStep):=endS (steps0 p)

theorem endS_len (l:List (den tStep)):(endS l).length=l.length:=by
 unfold endS
 split
 ·rfl
 ·rename_i x xs
  simp only
  rw [List.getLast?_eq_some_getLast (by simp)]
  simp

theorem hops_sum (p:den tPt):(p.map fun x=>x.2.2.2.length).sum≤tot tPt p:=by
 show _≤tot (.sl tPp) p
 rw [← tot_sum]
 induction p with
 | nil=>exact Nat.le_refl _
 | cons x p ih=>
  simp only [List.map_cons,List.sum_cons]
  have h1:x.2.2.2.length≤tot tPp x:=by
   show _≤tot ti x.1+(tot ti x.2.1+(tot ti x.2.2.1+tot (.sl tHop) x.2.2.2))
   rw [tot_flatL rfl];omega
  omega

theorem wr_pos {n:Nat} (h:n≤68719476736) (h0:0<n):wr ((n:Int) - 1)=((n - 1:Nat):Int):=by
 rw [wr_len h];omega

theorem wr_last {α:Type} {m:List α} {z:α} (h:(m++[z]).length≤68719476736):wr (((m++[z]).length:Int) - 1)=(m.length:Int):=by
 rw [wr_pos h (by simp)];simp

theorem partS_len (nf:Bool) (p:den tPp) (a:List (den tStep)):(partS nf p a).length≤a.length+p.2.2.2.length:=by
 have :=foldI_m (m:=List.length) (cost:=fun _=>1) (fun i h b=>addS_len nf p i h b) p.2.2.2 0 a
 rw [sum_one] at this
 exact this

theorem steps0_len (p:den tPt):(steps0 p).length≤tot tPt p:=by
 have :=foldI_m (m:=List.length) (cost:=fun x:den tPp=>x.2.2.2.length) (fun k x a=>partS_len (decide (0<k)) x a) p 0 []
 have h2:=hops_sum p
 have h3:(steps0 p).length≤0+(p.map fun x=>x.2.2.2.length).sum:=this
 omega

theorem steps_len (p:den tPt):(steps p).length≤tot tPt p:=by
 unfold steps;rw [endS_len];exact steps0_len p

theorem dec_pos (k:Nat):decide ((k:Int)>0)=decide (0<k):=by rw [Bool.eq_iff_iff];simp

theorem dec_zero (i:Nat):((i:Int)==0)=decide (i=0):=by rw [Bool.eq_iff_iff];simp

theorem addS_nil (nf:Bool) (p:den tPp) (i:Nat) (h:den tHop):addS nf p i h []=[(h.1,pIn p h,pEg p h)]:=rfl

theorem addS_last (nf:Bool) (p:den tPp) (i:Nat) (h:den tHop) (m:List (den tStep)) (z:den tStep):addS nf p i h (m++[z])=if nf&&(decide (i=0)&&z.1==h.1) then m++[(h.1,z.2.1,pEg p h)] else (m++[z])++[(h.1,pIn p h,pEg p h)]:=by
 unfold addS
 rw [List.getLast?_concat,List.dropLast_concat]

theorem endS_some {m:List (den tStep)} {x z:den tStep} {xs:List (den tStep)} (h:(x.1,(0:Int),x.2.2)::xs=m++[z]):endS (x::xs)=m++[(z.1,z.2.1,0)]:=by
 unfold endS
 simp only
 rw [h,List.getLast?_concat,List.dropLast_concat]

theorem i_steps {p:den tPt} (h:tot tPt p≤34359738368):i_PathSteps p=some (steps p):=by
 have hs:=hops_sum p
 have sm:SmB 34359738368 tPt p:=sm_of_tot h
 have hl:=steps0_len p
 unfold i_PathSteps
 rw [loopG (fun k (a:List (den tStep))=>((k:Int),a)) ((0:Int),[]) [] p (fun k x a=>partS (decide (0<k)) x a) List.length (fun x=>x.2.2.2.length) 34359738368 id rfl (Nat.le_trans sm.1 (by decide)) (by simp only [List.length_nil];omega) (fun k x a=>partS_len _ x a) (fun k x a hi hx hd hw hk hb=>by
  have hxl:x.2.2.2.length≤34359738368:=(sm.2 x (List.mem_of_getElem? hx)).2.2.2.1
  simp only [hd,hi,hw,cond_true,obind_some]
  rw [loopG (fun i (b:List (den tStep))=>((i:Int),b)) ((0:Int),a) a x.2.2.2 (fun i h b=>addS (decide (0<k)) x i h b) List.length (fun _=>1) 34359738368 id rfl (Nat.le_trans hxl (by decide)) (by rw [sum_one];exact hb) (fun i h b=>addS_len _ x i h b) (fun i g b hi2 hg hd2 hw2 hk2 hb2=>by
   have hl2:x.2.2.2.length≤68719476736:=by omega
   simp only [hd2,hi2,hw2,cond_true,obind_some,peta,i_pIn hg hl2,i_pEg hg hl2,dec_pos,dec_zero,apOk_le (b:=24) (n:=b.length) (m:=1) (by decide) (by omega)]
   rcases nil_or_concat b with rfl | ⟨m,z,rfl⟩
   ·rw [addS_nil]
    cases decide (0<k)<;>cases decide (i=0)<;>rfl
   ·rw [addS_last,wr_last (by omega)]
    simp only [pos_nat,pos_nat',lt_last,get_last,cond_true,Int.toNat_natCast,obind_some,set_last]
    cases decide (0<k)<;>cases decide (i=0)<;>cases hz:z.1==g.1<;>simp [hz]
    simpa using hz) (fun b=>by simp)]
  rfl) (fun a=>by simp)]
 simp only [obind_some,id]
 rw [show foldI (fun k x a=>partS (decide (0<k)) x a) 0 p []=steps0 p from rfl]
 show _=some (endS (steps0 p))
 generalize steps0 p=l at hl
 cases l with
 | nil=>rfl
 | cons x xs=>
  have e1:decide ((((x::xs).length:Nat):Int)>0)=true:=by simp
  have e2:decide ((0:Int)<(((x::xs).length:Nat):Int))=true:=by simp
  have e3:(0:Int).toNat=0:=rfl
  have e4:decide ((0:Int)≤0)=true:=rfl
  simp only [e1,e2,e3,e4,cond_true,List.getElem?_cons_zero,obind_some,List.set_cons_zero]
  rcases nil_or_concat ((x.1,(0:Int),x.2.2)::xs) with h0 | ⟨m,z,hm⟩
  ·cases h0
  ·have hlen:((x.1,(0:Int),x.2.2)::xs).length=(x::xs).length:=rfl
   rw [endS_some hm]
   rw [hm] at hlen ⊢
   rw [wr_last (by omega)]
   simp only [pos_nat,lt_last,get_last,cond_true,Int.toNat_natCast,obind_some,set_last]

theorem s_steps {p:den tPt} (h:tot tPt p≤34359738368):s_PathSteps p=some (steps p):=by
 have hs:=hops_sum p
 have sm:SmB 34359738368 tPt p:=sm_of_tot h
 have hl:=steps0_len p
 unfold s_PathSteps
 rw [loopG (fun k (a:List (den tStep))=>((k:Int),a)) ((0:Int),[]) [] p (fun k x a=>partS (decide (0<k)) x a) List.length (fun x=>x.2.2.2.length) 34359738368 id rfl (Nat.le_trans sm.1 (by decide)) (by simp only [List.length_nil];omega) (fun k x a=>partS_len _ x a) (fun k x a hi hx hd hw hk hb=>by
  have hxl:x.2.2.2.length≤34359738368:=(sm.2 x (List.mem_of_getElem? hx)).2.2.2.1
  simp only [hd,hi,hw,cond_true,obind_some]
  rw [loopG (fun i (b:List (den tStep))=>((i:Int),b)) ((0:Int),a) a x.2.2.2 (fun i h b=>addS (decide (0<k)) x i h b) List.length (fun _=>1) 34359738368 id rfl (Nat.le_trans hxl (by decide)) (by rw [sum_one];exact hb) (fun i h b=>addS_len _ x i h b) (fun i g b hi2 hg hd2 hw2 hk2 hb2=>by
   have hl2:x.2.2.2.length≤68719476736:=by omega
   simp only [hd2,hi2,hw2,cond_true,obind_some,peta,s_pIn hg hl2,s_pEg hg hl2,both_self,dup_self,dup3_self,dup4_self,dup5_self,dec_pos,dec_zero]
   rcases nil_or_concat b with rfl | ⟨m,z,rfl⟩
   ·rw [addS_nil]
    cases decide (0<k)<;>cases decide (i=0)<;>rfl
   ·rw [addS_last,wr_last (by omega)]
    have e1:decide (((m++[z]).length:Int)>0)=true:=by simp
    have e2:slOk (0:Int) (m.length:Int) ((m++[z]).length:Int)=true:=by simp [slOk];omega
    have e3:(m++[z]).take m.length=m:=by simp
    have e4:=apOk_le (b:=24) (n:=m.length) (m:=1) (by decide) (by simp at hb2;omega)
    have e5:=apOk_le (b:=24) (n:=m.length+1) (m:=1) (by decide) (by simp at hb2;omega)
    simp only [pos_nat,e1,e2,e3,lt_last,get_last,cond_true,Int.toNat_natCast,obind_some]
    cases decide (0<k)<;>cases decide (i=0)<;>cases hz:z.1==g.1<;>simp [hz,e4,e5]) (fun b=>by simp [hi])]
  rfl) (fun a=>by simp)]
 simp only [obind_some,id]
 rw [show foldI (fun k x a=>partS (decide (0<k)) x a) 0 p []=steps0 p from rfl]
 show _=some (endS (steps0 p))
 generalize steps0 p=l at hl
 cases l with
 | nil=>rfl
 | cons x xs=>
  have e1:decide ((((x::xs).length:Nat):Int)>0)=true:=by simp
  have e2:decide ((0:Int)<(((x::xs).length:Nat):Int))=true:=by simp
  have e3:(0:Int).toNat=0:=rfl
  have e4:decide ((0:Int)≤0)=true:=rfl
  have e5:decide (0<(x::xs).length)=true:=by simp
  simp only [e1,e2,e3,e4,e5,cond_true,List.getElem?_cons_zero,obind_some,List.set_cons_zero]
  rcases nil_or_concat ((x.1,(0:Int),x.2.2)::xs) with h0 | ⟨m,z,hm⟩
  ·cases h0
  ·have hlen:((x.1,(0:Int),x.2.2)::xs).length=(x::xs).length:=rfl
   rw [endS_some hm]
   rw [hm] at hlen ⊢
   rw [wr_last (by omega)]
   have e6:decide (m.length<(m++[z]).length)=true:=by simp
   simp only [pos_nat,lt_last,get_last,e6,cond_true,Int.toNat_natCast,obind_some,set_last]

def ends (p:den tPt):Int×Int:=
 match (steps p).head?,(steps p).getLast? with
 | some x,some y=>(x.1,y.1)
 | _,_=>(-1,-1)

theorem i_ends {p:den tPt} (h:tot tPt p≤34359738368):i_Endpoints p=some (ends p):=by
 unfold i_Endpoints ends
 have hl:=steps_len p
 rw [i_steps h,obind_some]
 generalize steps p=l at hl
 rcases nil_or_concat l with rfl | ⟨m,z,rfl⟩
 ·rfl
 ·rw [wr_last (by omega)]
  have e1:(((m++[z]).length:Int)==0)=false:=by simp<;>omega
  have e2:decide ((0:Int)<((m++[z]).length:Int))=true:=by simp<;>omega
  have e3:decide ((0:Int)≤0)=true:=rfl
  rw [e1,e2,e3,pos_nat,lt_last,List.getLast?_concat]
  cases m with
  | nil=>rfl
  | cons x m=>simp

theorem s_ends {p:den tPt} (h:tot tPt p≤34359738368):s_Endpoints p=some (ends p):=by
 unfold s_Endpoints ends
 have hl:=steps_len p
 rw [s_steps h,obind_some]
 generalize steps p=l at hl
 rcases nil_or_concat l with rfl | ⟨m,z,rfl⟩
 ·rfl
 ·rw [wr_last (by omega)]
  have e1:(((m++[z]).length:Int)==0)=false:=by simp<;>omega
  have e2:decide ((0:Int)<((m++[z]).length:Int))=true:=by simp<;>omega
  have e3:decide ((0:Int)≤0)=true:=rfl
  rw [e1,e2,e3,pos_nat,lt_last,List.getLast?_concat]
  cases m with
  | nil=>rfl
  | cons x m=>simp


def pkR (p:den tPk):Int×Int×Int×Int×Int×Int×Int×Int×(List (den tPp))×(List Int):=(p.1,p.2.1,p.2.2.1,p.2.2.2.2.1,p.2.2.2.2.2.1,p.2.2.2.2.2.2.1,p.2.2.2.2.2.2.2.1,p.2.2.2.2.2.2.2.2.1,p.2.2.2.1,p.2.2.2.2.2.2.2.2.2)

def beta0 (p:den tPt):Int:=match p with
 | []=>0
 | x::_=>x.2.2.1

def newPk (kind:Int) (p:den tPt) (res seq:Int) (pay:List Int):den tPk:=(kind,(ends p).1,(ends p).2,p,0,0,beta0 p,res,seq,pay)

theorem i_newPk {kind res seq:Int} {p:den tPt} {pay:List Int} (h:tot tPt p≤34359738368) (hp:pay.length≤68719476736):i_NewPacket kind p res seq pay=some (pkR (newPk kind p res seq pay)):=by
 unfold i_NewPacket
 rw [i_copyP ((sm_of_tot h).mono (by decide)),i_copyB hp,i_ends h]
 simp only [obind_some]
 cases p with
 | nil=>rfl
 | cons x p=>
  have e1:decide (((x::p).length:Int)>0)=true:=by simp
  rw [e1];rfl

theorem s_newPk {kind res seq:Int} {p:den tPt} {pay:List Int} (h:tot tPt p≤34359738368) (hp:pay.length≤68719476736):s_NewPacket kind p res seq pay=some (pkR (newPk kind p res seq pay)):=by
 unfold s_NewPacket
 rw [s_copyP ((sm_of_tot h).mono (by decide)),s_ends h,apOk_le (b:=1) (n:=([]:List Int).length) (by decide) (by simpa using hp)]
 simp only [obind_some,cond_true,List.nil_append]
 cases p with
 | nil=>rfl
 | cons x p=>
  have e1:decide (((x::p).length:Int)>0)=true:=by simp
  rw [e1];rfl

def resid (n:Int):Bool:=inR n 0 2147483646

theorem s_resid (n:Int):s_l3Ok n=some (resid n):=by unfold s_l3Ok resid;rw [s_in];rfl

def addM (b s:Int):Int:=if resid b&&resid s then Int.tmod (wr (b+s)) 2147483647 else 0

def subM (b s:Int):Int:=if resid b&&resid s then Int.tmod (wr ((wr (b - s))+2147483647)) 2147483647 else 0

theorem s_addM (b s:Int):s_AddMod b s=some (addM b s):=by
 unfold s_AddMod addM
 simp only [s_resid,obind_some]
 cases resid b<;>cases resid s<;>rfl

theorem s_subM (b s:Int):s_SubMod b s=some (subM b s):=by
 unfold s_SubMod subM
 simp only [s_resid,obind_some]
 cases resid b<;>cases resid s<;>rfl

def betaStep (k:Int) (b:Int) (h:den tHop):Int:=if isRev k then subM b h.2.2.2.2 else addM b h.2.2.2.2

def betaA (p:den tPp) (n:Nat):Int:=(p.2.2.2.take n).foldl (betaStep p.1) p.2.2.1

theorem s_betaA {p:den tPp} {n:Nat} (hn:n≤p.2.2.2.length) (hl:p.2.2.2.length≤68719476736):s_BetaAfter p (n:Int)=some (betaA p n):=by
 unfold s_BetaAfter betaA
 have e1:inR (n:Int) 0 (p.2.2.2.length:Int)=true:=by rw [inR_iff];omega
 have e3:(p.2.2.2.take n).length=n:=by rw [List.length_take];omega
 rw [s_in,e1,obind_some]
 rw [loopG (fun k (b:Int)=>(b,(k:Int))) (p.2.2.1,(0:Int)) p.2.2.1 (p.2.2.2.take n) (fun _ h b=>betaStep p.1 b h) (fun _=>0) (fun _=>0) 0 id rfl (by rw [e3];omega) (by rw [sum_nil];exact Nat.le_refl _) (fun _ _ _=>Nat.le_refl _) (fun k x b hi hx hd hw hk hb=>by
  have hx':p.2.2.2[k]? =some x:=by rw [List.getElem?_take] at hx;split at hx;exact hx;cases hx
  rw [e3] at hd
  simp only [hd,hw,cond_true,obind_some,idx_nat,hx',s_isRev,s_subM,s_addM,betaStep]
  cases isRev p.1<;>rfl) (fun b=>by rw [e3];simp),foldI_foldl (fun b h=>betaStep p.1 b h)]
 rfl

def pk0:den tPk:=(0,0,0,[],0,0,0,0,0,[])


def pkB (p:den tPk) (b:Bool):Int×Int×Int×Int×Int×Int×Int×Int×Bool×(List (den tPp))×(List Int):=(p.1,p.2.1,p.2.2.1,p.2.2.2.2.1,p.2.2.2.2.2.1,p.2.2.2.2.2.2.1,p.2.2.2.2.2.2.2.1,p.2.2.2.2.2.2.2.2.1,b,p.2.2.2.1,p.2.2.2.2.2.2.2.2.2)

def sends (f:den tFl):Bool:=inR f.2.2.2.2.2.2.1 0 ((f.2.2.2.2.2.1.length:Int) - 1)&&inR f.2.2.2.1 0 ((f.2.2.2.2.1.length:Int) - 1)

def nextT (f:den tFl):den tPk:=
 if sends f then newPk 1 ((f.2.2.2.2.2.1[f.2.2.2.2.2.2.1.toNat]?).getD []) f.2.2.1 f.2.2.2.1 ((f.2.2.2.2.1[f.2.2.2.1.toNat]?).getD []) else pk0

theorem getD_tot {t:Ty} {l:List (den t)} {d:den t} {i:Nat} (hd:tot t d=0):tot t ((l[i]?).getD d)≤tot (.sl t) l:=by
 cases h:l[i]? with
 | none=>simp [hd]
 | some x=>have :=tot_get h;simp;omega

theorem i_nextT {f:den tFl} (h:tot tFl f≤34359738368):i_NextTransmission f=some (pkB (nextT f) (sends f)):=by
 have h0:=tot_r (tot_r (tot_r (tot_r h)))
 have hm:=tot_l h0
 have hp:=tot_l (tot_r h0)
 have l1:=tot_len f.2.2.2.2.1
 have l2:=tot_len f.2.2.2.2.2.1
 unfold i_NextTransmission nextT sends
 simp only [i_in,wr_len (n:=f.2.2.2.2.2.1.length) (by omega),wr_len (n:=f.2.2.2.2.1.length) (by omega),obind_some]
 cases c1:inR f.2.2.2.2.2.2.1 0 ((f.2.2.2.2.2.1.length:Int) - 1) with
 | false=>rfl
 | true=>
  cases c2:inR f.2.2.2.1 0 ((f.2.2.2.2.1.length:Int) - 1) with
  | false=>rfl
  | true=>
   rw [inR_iff] at c1 c2
   rw [idx_lt c1.1 (by omega),idx_lt c2.1 (by omega)]
   have e1:f.2.2.2.2.2.1[f.2.2.2.2.2.2.1.toNat]? =some (f.2.2.2.2.2.1[f.2.2.2.2.2.2.1.toNat]'(by omega)):=List.getElem?_eq_getElem (by omega)
   have e2:f.2.2.2.2.1[f.2.2.2.1.toNat]? =some (f.2.2.2.2.1[f.2.2.2.1.toNat]'(by omega)):=List.getElem?_eq_getElem (by omega)
   have t1:=tot_get e1
   have t2:=tot_get e2
   have t3:=tot_len (t:=tb) (f.2.2.2.2.1[f.2.2.2.1.toNat]'(by omega))
   simp only [obind_some,Bool.not_true,cond_false]
   rw [i_newPk (by omega) (by have t2:1+tot (.sl tb) _≤_:=t2;omega),e1,e2]
   rfl

theorem s_nextT {f:den tFl} (h:tot tFl f≤34359738368):s_NextTransmission f=some (pkB (nextT f) (sends f)):=by
 have h0:=tot_r (tot_r (tot_r (tot_r h)))
 have hm:=tot_l h0
 have hp:=tot_l (tot_r h0)
 have l1:=tot_len f.2.2.2.2.1
 have l2:=tot_len f.2.2.2.2.2.1
 unfold s_NextTransmission nextT sends
 simp only [s_in,wr_len (n:=f.2.2.2.2.2.1.length) (by omega),wr_len (n:=f.2.2.2.2.1.length) (by omega),obind_some]
 cases c1:inR f.2.2.2.2.2.2.1 0 ((f.2.2.2.2.2.1.length:Int) - 1) with
 | false=>cases inR f.2.2.2.1 0 ((f.2.2.2.2.1.length:Int) - 1)<;>rfl
 | true=>
  cases c2:inR f.2.2.2.1 0 ((f.2.2.2.2.1.length:Int) - 1) with
  | false=>rfl
  | true=>
   rw [inR_iff] at c1 c2
   rw [idx_lt c1.1 (by omega),idx_lt c2.1 (by omega)]
   have e1:f.2.2.2.2.2.1[f.2.2.2.2.2.2.1.toNat]? =some (f.2.2.2.2.2.1[f.2.2.2.2.2.2.1.toNat]'(by omega)):=List.getElem?_eq_getElem (by omega)
   have e2:f.2.2.2.2.1[f.2.2.2.1.toNat]? =some (f.2.2.2.2.1[f.2.2.2.1.toNat]'(by omega)):=List.getElem?_eq_getElem (by omega)
   have t1:=tot_get e1
   have t2:=tot_get e2
   have t3:=tot_len (t:=tb) (f.2.2.2.2.1[f.2.2.2.1.toNat]'(by omega))
   simp only [obind_some,Bool.not_true,cond_false]
   rw [s_newPk (by omega) (by have t2:1+tot (.sl tb) _≤_:=t2;omega),e1,e2]
   rfl

def nextP (f:den tFl):Int:=if wr (f.2.2.2.2.2.2.1+1)≥(f.2.2.2.2.2.1.length:Int) then 0 else wr (f.2.2.2.2.2.2.1+1)

def setCW (f:den tFl) (c w:Int):den tFl:=(f.1,f.2.1,f.2.2.1,f.2.2.2.1,f.2.2.2.2.1,f.2.2.2.2.2.1,c,w,f.2.2.2.2.2.2.2.2)

theorem setCW_tot (f:den tFl) (c w:Int):tot tFl (setCW f c w)=tot tFl f:=rfl


def tickF (f:den tFl):den tFl×den tPk×Bool:=
 if sends f then
  if f.2.2.2.2.2.2.2.1==0 then (setCW f f.2.2.2.2.2.2.1 1,nextT f,true)
  else if f.2.2.2.2.2.2.2.1==4 then (setCW f (nextP f) 1,nextT (setCW f (nextP f) 1),sends (setCW f (nextP f) 1))
  else (setCW f f.2.2.2.2.2.2.1 (wr (f.2.2.2.2.2.2.2.1+1)),pk0,false)
 else (setCW f f.2.2.2.2.2.2.1 0,pk0,false)


def tickR (f:den tFl) (p:den tPk) (b:Bool):Int×Int×Int×Int×Int×Int×Int×Int×Int×Int×Int×Int×Int×Int×Bool×(List (den tMs))×(List (den tPt))×(List (den tRv))×(List (den tPp))×(List Int):=
 (f.1,f.2.1,f.2.2.1,f.2.2.2.1,f.2.2.2.2.2.2.1,f.2.2.2.2.2.2.2.1,p.1,p.2.1,p.2.2.1,p.2.2.2.2.1,p.2.2.2.2.2.1,p.2.2.2.2.2.2.1,p.2.2.2.2.2.2.2.1,p.2.2.2.2.2.2.2.2.1,b,f.2.2.2.2.1,f.2.2.2.2.2.1,f.2.2.2.2.2.2.2.2,p.2.2.2.1,p.2.2.2.2.2.2.2.2.2)

theorem i_nextP (f:den tFl):i_nextPath f=some (nextP f):=by
 unfold i_nextPath nextP
 by_cases h:wr (f.2.2.2.2.2.2.1+1)≥(f.2.2.2.2.2.1.length:Int)
 ·rw [decide_eq_true h,if_pos h];rfl
 ·rw [decide_eq_false h,if_neg h];rfl

theorem i_tickF {f:den tFl} (h:tot tFl f≤34359738368):i_TickFlow f=some (tickR (tickF f).1 (tickF f).2.1 (tickF f).2.2):=by
 unfold i_TickFlow tickF
 have e:i_NextTransmission (f.1,f.2.1,f.2.2.1,f.2.2.2.1,f.2.2.2.2.1,f.2.2.2.2.2.1,nextP f,1,f.2.2.2.2.2.2.2.2)=some (pkB (nextT (setCW f (nextP f) 1)) (sends (setCW f (nextP f) 1))):=i_nextT (f:=setCW f (nextP f) 1) h
 simp only [peta,i_copyF ((sm_of_tot h).mono (by decide)),i_nextT h,i_nextP,obind_some,both_self,dup_self,dup3_self,dup4_self,dup5_self,flowR,e]
 cases c1:sends f with
 | false=>simp only [pkB,Bool.not_false,cond_true];rfl
 | true=>
  simp only [pkB,Bool.not_true,cond_false,if_true]
  cases c2:f.2.2.2.2.2.2.2.1==0 with
  | true=>rfl
  | false=>
   cases c3:f.2.2.2.2.2.2.2.1==4 with
   | true=>rfl
   | false=>rfl

theorem turn_key {c:Int} {n:Nat} (h0:0≤c) (h1:c≤(n:Int) - 1) (hn:n≤68719476736):inR c 0 (wr ((n:Int) - 2))= !decide (wr (c+1)≥(n:Int)):=by
 have e1:wr ((n:Int) - 2)=(n:Int) - 2:=wri (by omega) (by omega)
 have e2:wr (c+1)=c+1:=wri (by omega) (by omega)
 rw [e1,e2,Bool.eq_iff_iff,inR_iff]
 simp
 omega

theorem s_turn {f:den tFl} (h:SmB 68719476736 tFl f) (hs:inR f.2.2.2.2.2.2.1 0 ((f.2.2.2.2.2.1.length:Int) - 1)=true):s_l35Turn f=some (flowR (setCW f (nextP f) f.2.2.2.2.2.2.2.1)):=by
 unfold s_l35Turn nextP
 have hl:=h.2.2.2.2.2.1.1
 rw [inR_iff] at hs
 simp only [peta,s_copyF h,s_in,turn_key hs.1 hs.2 hl,obind_some,flowR]
 by_cases hc:wr (f.2.2.2.2.2.2.1+1)≥(f.2.2.2.2.2.1.length:Int)
 ·rw [decide_eq_true hc,if_pos hc];rfl
 ·rw [decide_eq_false hc,if_neg hc];rfl

theorem s_tickF {f:den tFl} (h:tot tFl f≤34359738368):s_TickFlow f=some (tickR (tickF f).1 (tickF f).2.1 (tickF f).2.2):=by
 unfold s_TickFlow tickF
 have sm:SmB 68719476736 tFl f:=(sm_of_tot h).mono (by decide)
 have e:s_NextTransmission (f.1,f.2.1,f.2.2.1,f.2.2.2.1,f.2.2.2.2.1,f.2.2.2.2.2.1,nextP f,1,f.2.2.2.2.2.2.2.2)=some (pkB (nextT (setCW f (nextP f) 1)) (sends (setCW f (nextP f) 1))):=s_nextT (f:=setCW f (nextP f) 1) h
 simp only [peta,s_copyF sm,s_nextT h,obind_some,both_self,dup_self,dup3_self,dup4_self,dup5_self]
 cases c1:sends f with
 | false=>simp only [pkB,flowR,Bool.not_false,cond_true];rfl
 | true=>
  have hs:inR f.2.2.2.2.2.2.1 0 ((f.2.2.2.2.2.1.length:Int) - 1)=true:=by
   unfold sends at c1;simp only [Bool.and_eq_true] at c1;exact c1.1
  rw [s_turn sm hs]
  simp only [pkB,flowR,setCW,obind_some,Bool.not_true,cond_false,if_true,e]
  cases c2:f.2.2.2.2.2.2.2.1==0 with
  | true=>rfl
  | false=>
   cases c3:f.2.2.2.2.2.2.2.1==4 with
   | true=>rfl
   | false=>rfl

theorem u8_wrap {n:Nat} (h:n<256):IntKind.wrap .u8 (n:Int)=(n:Int):=by
 simp only [IntKind.wrap,IntKind.signed,IntKind.bits]
 simp
 omega

theorem newPk_tot {kind res seq:Int} {p:den tPt} {pay:List Int}:tot tPk (newPk kind p res seq pay)=tot tPt p+tot (.sl tb) pay:=by
 show 0+(0+(0+(tot tPt p+(0+(0+(0+(0+(0+tot (.sl tb) pay))))))))=_
 omega

theorem nextT_tot (f:den tFl):tot tPk (nextT f)≤tot tFl f:=by
 unfold nextT
 split
 ·rw [newPk_tot]
  have h1:=getD_tot (t:=tPt) (l:=f.2.2.2.2.2.1) (d:=[]) (i:=f.2.2.2.2.2.2.1.toNat) rfl
  have h2:=getD_tot (t:= .sl tb) (l:=f.2.2.2.2.1) (d:=[]) (i:=f.2.2.2.1.toNat) rfl
  show _≤0+(0+(0+(0+(tot (.sl (.sl tb)) f.2.2.2.2.1+(tot (.sl tPt) f.2.2.2.2.2.1+(0+(0+tot (.sl tRv) f.2.2.2.2.2.2.2.2)))))))
  omega
 ·exact Nat.zero_le _

theorem tickF_tot (f:den tFl):tot tFl (tickF f).1=tot tFl f∧tot tPk (tickF f).2.1≤tot tFl f:=by
 unfold tickF
 split
 ·split
  ·exact ⟨setCW_tot f _ _,nextT_tot f⟩
  ·split
   ·exact ⟨setCW_tot f _ _,nextT_tot (setCW f (nextP f) 1)⟩
   ·exact ⟨setCW_tot f _ _,Nat.zero_le _⟩
 ·exact ⟨setCW_tot f _ _,Nat.zero_le _⟩

theorem flow_parts {f:den tFl} {N:Nat} (h:tot tFl f≤N):tot (.sl tMs) f.2.2.2.2.1≤N∧tot (.sl tPt) f.2.2.2.2.2.1≤N∧tot (.sl tRv) f.2.2.2.2.2.2.2.2≤N:=by
 have h0:=tot_r (tot_r (tot_r (tot_r h)))
 exact ⟨tot_l h0,tot_l (tot_r h0),tot_r (tot_r (tot_r (tot_r h0)))⟩

def rvGo (b:List Int) (p:Nat):Nat→Nat→Nat→Int×Int×Bool
 | 0,_,_=>(0,0,false)
 | f+1,k,n=>match b[p+k]? with
  | none=>(0,0,false)
  | some x=>
   if x.toNat<128 then (if (decide (x.toNat=0)&&decide (0<k))||decide (1000000000000<n+x.toNat % 128 * 2 ^ (7 * k)) then (0,0,false) else (((n+x.toNat % 128 * 2 ^ (7 * k):Nat):Int),((p+k+1:Nat):Int),true))
   else rvGo b p f (k+1) (n+x.toNat % 128 * 2 ^ (7 * k))

def rv (b:List Int) (p:Nat):Int×Int×Bool:=rvGo b p 6 0 0

def addAt (x:den tRv) (l:List (den tRv)) (k:Nat) (y:den tRv):Option (List (den tRv)):=
 cond (y.1==x.1) (cond (y.2.1==x.2.1) (some (l.set k (y.1,y.2.1,if x.2.2>y.2.2 then x.2.2 else y.2.2))) none) none

def addV (l:List (den tRv)) (x:den tRv):List (den tRv):=
 cond (validV x) (match scanI (addAt x l) 0 l with
  | some r=>r
  | none=>if 16<l.length+1 then (l++[x]).drop 1 else l++[x]) l

theorem cut_one {α:Type} {l:List α} (h:0<l.length):cut l (1:Int) (l.length:Int)=l.drop 1:=cut_drop (k:=1) h

theorem addV_big (l:List (den tRv)) (x:den tRv):decide (((l++[x]).length:Int)>16)=decide (16<l.length+1):=by
 rw [Bool.eq_iff_iff];simp;omega

theorem s_addV {l:List (den tRv)} {x:den tRv} (h:l.length≤1073741824):s_AddRevocation l x=some (addV l x):=by
 unfold s_AddRevocation addV
 rw [apOk_le (b:=24) (n:=([]:List (den tRv)).length) (by decide) (by simp;omega)]
 simp only [cond_true,obind_some,peta,s_validV,List.nil_append]
 cases hv:validV x with
 | false=>rfl
 | true=>
  simp only [Bool.not_true,cond_false,cond_true]
  rw [loop_scan (l:=l) (addAt x l) (by omega) (fun k y hi hd hw hm hk=>by
   have hy:l[k]? =some y:=by rw [← idx_nat];exact hi
   have hk2:decide (k<l.length)=true:=by simpa using hk
   simp only [hd,cond_true,pos_nat,Int.toNat_natCast,hy,obind_some,s_max,hw,hk2]
   unfold addAt
   cases y.1==x.1
   ·rfl
   ·cases y.2.1==x.2.1<;>rfl) (by simp)]
  cases scanI (addAt x l) 0 l with
  | some r=>rfl
  | none=>
   have e1:slOk (1:Int) ((l++[x]).length:Int) ((l++[x]).length:Int)=true:=by
    have :=slOk_nat (a:=1) (b:=(l++[x]).length) (n:=(l++[x]).length)
    rw [show ((1:Nat):Int)=1 from rfl] at this
    rw [this];simp
   have e2:=cut_one (l:=l++[x]) (by simp)
   simp only [obind_some,Sum.elim_inl,apOk_le (b:=24) (n:=l.length) (m:=1) (by decide) (by omega),cond_true,addV_big,e1,e2]
   by_cases c:16<l.length+1
   ·have c2:(16:Int)<(l.length:Int)+1:=by omega
    simp [c,c2]
   ·have c2: ¬ (16:Int)<(l.length:Int)+1:=by omega
    simp [c,c2]

def numS (s:den tStep) (a:List Int):List Int:=
 (fun b=>cond (s.2.2 != 0) (b++[wr (wr (8 * s.1)+s.2.2)]) b) (cond (s.2.1 != 0) (a++[wr (wr (8 * s.1)+s.2.1)]) a)

theorem numS_len (s:den tStep) (a:List Int):(numS s a).length≤a.length+2:=by
 unfold numS
 cases s.2.1 != 0<;>cases s.2.2 != 0<;>simp

def usedI (p:den tPt):List Int:=foldI (fun _ s a=>numS s a) 0 (steps p) []

theorem sum_two {α:Type} (l:List α):(l.map fun _=>2).sum=2 * l.length:=by
 induction l with
 | nil=>rfl
 | cons x l ih=>simp only [List.map_cons,List.sum_cons,ih,List.length_cons];omega

theorem i_usedI {p:den tPt} (h:tot tPt p≤1073741824):i_InterfacesUsed p=some (usedI p):=by
 have hl:=steps_len p
 unfold i_InterfacesUsed i_numbered usedI
 rw [i_steps (Nat.le_trans h (by decide))]
 simp only [obind_some]
 rw [loopG (fun k (a:List Int)=>((k:Int),a)) ((0:Int),[]) [] (steps p) (fun _ s a=>numS s a) List.length (fun _=>2) 68719476736 id rfl (by omega) (by rw [sum_two];simp;omega) (fun k x a=>numS_len x a) (fun k x a hi hx hd hw hk hb=>by
  simp only [hd,hi,hw,cond_true,obind_some,apOk_le (b:=8) (n:=a.length) (m:=1) (by decide) (by omega)]
  unfold numS
  cases x.2.1 != 0<;>cases x.2.2 != 0<;>simp [apOk_le (b:=8) (n:=a.length) (m:=1) (by decide) (by omega),apOk_le (b:=8) (n:=a.length+1) (m:=1) (by decide) (by omega)]) (fun a=>by simp)]
 rfl

theorem s_usedI {p:den tPt} (h:tot tPt p≤1073741824):s_InterfacesUsed p=some (usedI p):=by
 have hl:=steps_len p
 unfold s_InterfacesUsed usedI
 rw [s_steps (Nat.le_trans h (by decide))]
 simp only [obind_some]
 rw [loopG (fun k (a:List Int)=>((k:Int),a)) ((0:Int),[]) [] (steps p) (fun _ s a=>numS s a) List.length (fun _=>2) 68719476736 id rfl (by omega) (by rw [sum_two];simp;omega) (fun k x a=>numS_len x a) (fun k x a hi hx hd hw hk hb=>by
  simp only [hd,hx,hw,cond_true,obind_some,pos_nat,Int.toNat_natCast,apOk_le (b:=8) (n:=a.length) (m:=1) (by decide) (by omega)]
  unfold numS
  cases x.2.1 != 0<;>cases x.2.2 != 0<;>simp [apOk_le (b:=8) (n:=a.length) (m:=1) (by decide) (by omega),apOk_le (b:=8) (n:=a.length+1) (m:=1) (by decide) (by omega)]) (fun a=>by simp)]
 rfl

def hasI (l:List Int) (n:Int):Bool:= !(l.all fun x=> !(x==n))

theorem i_hasI {l:List Int} {n:Int} (h:l.length≤68719476736):i_hasInt l n=some (hasI l n):=by
 unfold i_hasInt hasI
 rw [loop_scan (l:=l) (fun _ x=>if !(x==n) then none else some true) (by omega) (fun k x hi hd hw hm hk=>by
  simp only [hd,hi,hw,cond_true,obind_some]
  cases x==n<;>rfl) (by simp),scanA (fun x:Int=> !(x==n))]
 cases l.all (fun x=> !(x==n))<;>rfl

theorem s_hasI {l:List Int} {n:Int} (h:l.length≤68719476736):s_l9Has l n=some (hasI l n):=by
 unfold s_l9Has hasI
 rw [loop_scan (l:=l) (fun _ x=>if !(x==n) then none else some true) (by omega) (fun k x hi hd hw hm hk=>by
  simp only [hd,hi,hw,cond_true,obind_some]
  cases x==n<;>rfl) (by simp),scanA (fun x:Int=> !(x==n))]
 cases l.all (fun x=> !(x==n))<;>rfl

theorem usedI_len (p:den tPt):(usedI p).length≤2 * tot tPt p:=by
 have h:=foldI_m (f:=fun _ s (a:List Int)=>numS s a) (m:=List.length) (cost:=fun _=>2) (fun k x a=>numS_len x a) (steps p) 0 []
 have hl:=steps_len p
 rw [sum_two] at h
 unfold usedI
 simp at h
 omega

def affects (p:den tPt) (x:den tRv):Bool:=validV x&&hasI (usedI p) (wr (wr (8 * x.1)+x.2.1))

theorem i_affects {p:den tPt} {x:den tRv} (h:tot tPt p≤1073741824):i_Affects p x=some (affects p x):=by
 have :=usedI_len p
 unfold i_Affects affects
 simp only [peta,i_validV,obind_some,i_usedI h,i_hasI (l:=usedI p) (by omega)]
 cases validV x<;>rfl

theorem s_affects {p:den tPt} {x:den tRv} (h:tot tPt p≤1073741824):s_Affects p x=some (affects p x):=by
 have :=usedI_len p
 unfold s_Affects affects
 simp only [peta,s_validV,obind_some,s_usedI h,s_hasI (l:=usedI p) (by omega)]
 cases validV x<;>rfl

theorem scanI_sum {α R:Type} (m:R→Nat) (B:Nat) {g:Nat→α→Option R}: ∀ {l:List α} {k:Nat},(∀ j x r,l[j]? =some x→g (k+j) x=some r→m r≤B)→ ∀ r,scanI g k l=some r→m r≤B
 | [],_,_,r,h=>by cases h
 | x::xs,k,hg,r,h=>by
  simp only [scanI] at h
  cases hx:g k x with
  | some r'=>rw [hx] at h;injection h with h;subst h;exact hg 0 x r' rfl hx
  | none=>
   rw [hx] at h
   exact scanI_sum m B (fun j y r hy hr=>hg (j+1) y r (by simpa using hy) (by rw [show k+(j+1)=k+1+j by omega];exact hr)) r h

theorem tot_rv (l:List (den tRv)):tot (.sl tRv) l=l.length:=by
 induction l with
 | nil=>rfl
 | cons x l ih=>rw [tot_cons,ih];simp [tot];omega

theorem addV_tot (l:List (den tRv)) (x:den tRv):tot (.sl tRv) (addV l x)≤l.length+1:=by
 rw [tot_rv]
 unfold addV
 cases validV x with
 | false=>simp
 | true=>
  simp only [cond_true]
  cases hs:scanI (addAt x l) 0 l with
  | some r=>
   refine scanI_sum List.length (l.length+1) (g:=addAt x l) (l:=l) (k:=0) (fun j y r' hy hr=> ?_) r hs
   unfold addAt at hr
   cases c1:y.1==x.1 with
   | false=>rw [c1] at hr;cases hr
   | true=>
    cases c2:y.2.1==x.2.1 with
    | false=>rw [c1,c2] at hr;cases hr
    | true=>rw [c1,c2] at hr;injection hr with hr;rw [← hr];simp
  | none=>
   by_cases c:16<l.length+1
   ·simp [c]
   ·simp [c]

def validH (h:den tHop):Bool:=inR h.1 0 7&&(inR h.2.1 0 6&&(inR h.2.2.1 0 6&&(!(h.2.1==h.2.2.1)&&(inR h.2.2.2.1 0 1000000&&resid h.2.2.2.2))))

theorem s_validH (h:den tHop):s_ValidHop h=some (validH h):=by
 unfold s_ValidHop validH
 simp only [s_in,s_resid,obind_some,bne]
 cases inR h.1 0 7<;>cases inR h.2.1 0 6<;>cases inR h.2.2.1 0 6<;>cases h.2.1==h.2.2.1<;>cases inR h.2.2.2.1 0 1000000<;>rfl

theorem wr_less {n:Nat} (h:n≤68719476736):wr ((n:Int) - 1)=(n:Int) - 1:=wri (by omega) (by omega)

def asOk (t:den tTo) (r:Int):Bool:=inR r 0 ((t.1.length:Int) - 1)

theorem s_asOk {t:den tTo} {r:Int} (h:t.1.length≤68719476736):s_l5Realm t r=some (asOk t r):=by
 unfold s_l5Realm asOk
 rw [wr_less h,s_in];rfl

def endsL (l:den tLk) (r d:Int):Bool:=(l.1==r&&l.2.1==d)||(l.2.2.1==r&&l.2.2.2.1==d)

theorem s_endsL (l:den tLk) (r d:Int):s_l5Ends l r d=some (endsL l r d):=by
 unfold s_l5Ends endsL
 cases l.1==r<;>cases l.2.1==d<;>cases l.2.2.1==r<;>cases l.2.2.2.1==d<;>rfl

def kindOk2 (k:Int) (x y:den tAS):Bool:=cond (k==1) (x.2.1&&y.2.1) (cond (k==2) (x.1==y.1&& !y.2.1) (cond (k==3) (!x.2.1&& !y.2.1) false))

def linkV (t:den tTo) (l:den tLk):Bool:=
 asOk t l.1&&(asOk t l.2.2.1&&(!decide (l.1≥l.2.2.1)&&(inR l.2.1 1 6&&(inR l.2.2.2.1 1 6&&kindOk2 l.2.2.2.2 ((t.1[l.1.toNat]?).getD (0,false,0)) ((t.1[l.2.2.1.toNat]?).getD (0,false,0))))))

theorem as_at {t:den tTo} {r:Int} (h:asOk t r=true): ∃ x,t.1[r.toNat]? =some x∧idx t.1 r=some x:=by
 obtain ⟨h0,h1⟩:=inR_iff.1 h
 obtain ⟨x,hx⟩:=get_some h0 h1
 exact ⟨x,hx,idx_of h0 hx⟩

theorem s_linkV {t:den tTo} {l:den tLk} (h:t.1.length≤68719476736):s_l5LinkOk t l=some (linkV t l):=by
 unfold s_l5LinkOk linkV
 simp only [peta,s_asOk h,s_in,obind_some]
 cases c1:asOk t l.1
 ·rfl
 ·cases c2:asOk t l.2.2.1
  ·rfl
  ·obtain ⟨x,hx,ix⟩:=as_at c1
   obtain ⟨y,hy,iy⟩:=as_at c2
   rw [ix,iy,hx,hy]
   simp only [obind_some,Option.getD_some,Bool.not_true,cond_false,Bool.true_and]
   unfold kindOk2
   cases decide (l.1≥l.2.2.1)
   ·cases inR l.2.1 1 6
    ·rfl
    ·cases inR l.2.2.2.1 1 6
     ·rfl
     ·cases l.2.2.2.2==1
      ·cases l.2.2.2.2==2
       ·cases l.2.2.2.2==3
        ·rfl
        ·cases x.2.1<;>rfl
       ·cases x.1==y.1<;>rfl
      ·cases x.2.1<;>rfl
   ·rfl

theorem slOk_take {k n:Nat} (h:k<n):slOk (0:Int) (k:Int) (n:Int)=true:=by
 have :=slOk_nat (a:=0) (b:=k) (n:=n)
 rw [show ((0:Nat):Int)=0 from rfl] at this
 rw [this];simp;omega

theorem s_copyG {x:den tSg} (h:x.2.2.length≤68719476736):s_l9Copy x=some x:=by
 unfold s_l9Copy
 rw [apOk_le (b:=40) (n:=([]:List (den tHop)).length) (by decide) (by simpa using h)]
 rfl

theorem s_copyGs {l:List (den tSg)} (h:SmB 68719476736 (.sl tSg) l):s_l16All l=some l:=by
 unfold s_l16All
 rw [(loopF (fun k (a:List (den tSg))=>((k:Int),a)) ((0:Int),[]) [] l (fun _ x a=>a++[x]) List.length (fun _=>1) 68719476736 id rfl (Nat.le_trans h.1 (by decide)) (by rw [sum_one];simpa using h.1) (fun k x a hi hx hd hw hk hb=>by
  have e:=h.2 x (List.mem_of_getElem? hx)
  simp only [hd,hi,hw,cond_true,obind_some,peta,s_copyG e.2.2.1,apOk_le (b:=40) (by decide) hb]
  simp) (fun a=>by simp)).1,foldI_map (fun x=>x)]
 simp

def modP (n:Int):Int:=Int.tmod (wr ((Int.tmod n 2147483647)+2147483647)) 2147483647

theorem i_modP (n:Int):i_Mod n 2147483647=some (modP n):=by unfold i_Mod;rw [i_in];rfl

theorem s_modP (n:Int):s_Mod n 2147483647=some (modP n):=by unfold s_Mod;rw [s_in];rfl

def digS (a x:Int):Int:=Int.tmod (wr ((wr ((wr (a * (1000003:Int)))+modP x))+(11:Int))) (2147483647:Int)

def digest (l:List Int):Int:=foldI (fun _ x a=>digS a x) 0 l 7

theorem i_digest {l:List Int} (h:l.length≤68719476736):i_Digest l=some (digest l):=by
 unfold i_Digest digest
 rw [loopG (fun k (a:Int)=>(a,(k:Int))) ((7:Int),(0:Int)) 7 l (fun _ x a=>digS a x) (fun _=>0) (fun _=>0) 1 id rfl (by omega) (by rw [sum_nil];omega) (fun k x a=>by omega) (fun k x a hi hx hd hw hk hb=>by
  simp only [hd,hi,hw,cond_true,obind_some,i_modP]
  rfl) (fun a=>by simp)]
 rfl

theorem s_digest {l:List Int} (h:l.length≤68719476736):s_Digest l=some (digest l):=by
 unfold s_Digest digest
 rw [loopG (fun k (a:Int)=>(a,(k:Int))) ((7:Int),(0:Int)) 7 l (fun _ x a=>digS a x) (fun _=>0) (fun _=>0) 1 id rfl (by omega) (by rw [sum_nil];omega) (fun k x a=>by omega) (fun k x a hi hx hd hw hk hb=>by
  simp only [hd,hi,hw,cond_true,obind_some,s_modP]
  rfl) (fun a=>by simp)]
 rfl

def hopD (h:den tHop) (a:List Int):List Int:=a++[h.1,h.2.1,h.2.2.1]

def partD (x:den tPp) (a:List Int):List Int:=foldI (fun _ h a=>hopD h a) 0 x.2.2.2 (a++[x.1,x.2.1,x.2.2.1])

def pathD (p:den tPt):List Int:=foldI (fun _ x a=>partD x a) 0 p []

theorem sum_k {α:Type} (c:Nat) (l:List α):(l.map fun _=>c).sum=c * l.length:=by
 induction l with
 | nil=>rfl
 | cons x l ih=>simp only [List.map_cons,List.sum_cons,ih,List.length_cons,Nat.mul_succ];omega

theorem partD_len (x:den tPp) (a:List Int):(partD x a).length≤a.length+(3+3 * x.2.2.2.length):=by
 have h:=foldI_m (f:=fun _ h (a:List Int)=>hopD h a) (m:=List.length) (cost:=fun _=>3) (fun k x a=>by simp [hopD]) x.2.2.2 0 (a++[x.1,x.2.1,x.2.2.1])
 rw [sum_k] at h
 unfold partD
 simp at h
 omega

theorem parts_sum: ∀ p:den tPt,(p.map fun x:den tPp=>3+3 * x.2.2.2.length).sum≤3 * tot tPt p
 | []=>by simp
 | x::p=>by
  have h1:=tot_cons (t:=tPp) x p
  have h2:x.2.2.2.length≤tot tPp x:=Nat.le_trans (tot_len (t:=tHop) x.2.2.2) (by simp only [tot_pair,tot_int];omega)
  have h3:=parts_sum p
  simp only [List.map_cons,List.sum_cons]
  show _≤3 * tot (.sl tPp) (x::p)
  rw [h1]
  have h3:(p.map fun x:den tPp=>3+3 * x.2.2.2.length).sum≤3 * tot (.sl tPp) p:=h3
  omega

theorem pathD_len (p:den tPt):(pathD p).length≤3 * tot tPt p:=by
 have h:=foldI_m (f:=fun _ x (a:List Int)=>partD x a) (m:=List.length) (cost:=fun x:den tPp=>3+3 * x.2.2.2.length) (fun k x a=>partD_len x a) p 0 []
 have h2:=parts_sum p
 unfold pathD
 simp only [List.length_nil,Nat.zero_add] at h
 omega

theorem i_pathDig {p:den tPt} (h:tot tPt p≤1073741824):i_PathDigest p=some (digest (pathD p)):=by
 have hl:=tot_len (t:=tPp) p
 have hl:p.length≤1073741824:=Nat.le_trans hl h
 have hs:=parts_sum p
 have hd':=pathD_len p
 unfold i_PathDigest
 rw [loopG (fun k (a:List Int)=>((k:Int),a)) ((0:Int),[]) [] p (fun _ x a=>partD x a) List.length (fun x:den tPp=>3+3 * x.2.2.2.length) 68719476736 id rfl (by omega) (by simp only [List.length_nil];omega) (fun k x a=>partD_len x a) (fun k x a hi hx hd hw hk hb=>by
  simp only [hd,hi,hw,cond_true,obind_some,apOk_le (b:=8) (n:=a.length) (m:=3) (by decide) (by omega)]
  rw [loopG (fun k (a:List Int)=>((k:Int),a)) ((0:Int),a++[x.1,x.2.1,x.2.2.1]) (a++[x.1,x.2.1,x.2.2.1]) x.2.2.2 (fun _ h a=>hopD h a) List.length (fun _=>3) 68719476736 id rfl (by omega) (by rw [sum_k];simp;omega) (fun k h a=>by simp [hopD]) (fun k h a hi hx hd hw hk hb=>by
   simp only [hd,hi,hw,cond_true,obind_some,apOk_le (b:=8) (n:=a.length) (m:=3) (by decide) (by omega)]
   rfl) (fun a=>by simp)]
  rfl) (fun a=>by simp)]
 simp only [obind_some]
 rw [show foldI (fun _ x a=>partD x a) 0 p []=pathD p from rfl]
 simp only [id,i_digest (l:=pathD p) (by omega),obind_some]

theorem s_pathDig {p:den tPt} (h:tot tPt p≤1073741824):s_PathDigest p=some (digest (pathD p)):=by
 have hl:=tot_len (t:=tPp) p
 have hl:p.length≤1073741824:=Nat.le_trans hl h
 have hs:=parts_sum p
 have hd':=pathD_len p
 unfold s_PathDigest
 rw [loopG (fun k (a:List Int)=>((k:Int),a)) ((0:Int),[]) [] p (fun _ x a=>partD x a) List.length (fun x:den tPp=>3+3 * x.2.2.2.length) 68719476736 id rfl (by omega) (by simp only [List.length_nil];omega) (fun k x a=>partD_len x a) (fun k x a hi hx hd hw hk hb=>by
  simp only [hd,hi,hw,cond_true,obind_some,apOk_le (b:=8) (n:=a.length) (m:=3) (by decide) (by omega)]
  rw [loopG (fun k (a:List Int)=>((k:Int),a)) ((0:Int),a++[x.1,x.2.1,x.2.2.1]) (a++[x.1,x.2.1,x.2.2.1]) x.2.2.2 (fun _ h a=>hopD h a) List.length (fun _=>3) 68719476736 id rfl (by omega) (by rw [sum_k];simp;omega) (fun k h a=>by simp [hopD]) (fun k h a hi hx hd hw hk hb=>by
   simp only [hd,hi,hw,cond_true,obind_some,apOk_le (b:=8) (n:=a.length) (m:=3) (by decide) (by omega)]
   rfl) (fun a=>by simp)]
  rfl) (fun a=>by simp)]
 simp only [obind_some]
 rw [show foldI (fun _ x a=>partD x a) 0 p []=pathD p from rfl]
 simp only [id,s_digest (l:=pathD p) (by omega),obind_some]

def leastS (a:Int×Bool) (h:den tHop):Int×Bool:=cond (!a.2||decide (h.2.2.2.1<a.1)) (h.2.2.2.1,true) a

def least (l:List (den tHop)):Int:=(l.foldl leastS (0,false)).1

def hops (p:den tPt):List (den tHop):=foldI (fun _ x a=>a++x.2.2.2) 0 p []

theorem hops_app: ∀ (p:den tPt) (k:Nat) (a:List (den tHop)),foldI (fun _ (x:den tPp) a=>a++x.2.2.2) k p a=a++p.flatMap (fun x:den tPp=>x.2.2.2)
 | [],_,a=>by simp [foldI]
 | x::p,k,a=>by
  simp only [foldI]
  rw [hops_app p (k+1)]
  simp

theorem hops_len (p:den tPt):(hops p).length≤tot tPt p:=by
 have h:=foldI_m (f:=fun _ (x:den tPp) (a:List (den tHop))=>a++x.2.2.2) (m:=List.length) (cost:=fun x:den tPp=>x.2.2.2.length) (fun k x a=>by simp) p 0 []
 have h2:=hops_sum p
 unfold hops
 simp only [List.length_nil,Nat.zero_add] at h
 omega

def leastI (k:Nat) (h:den tHop) (a:Int):Int:=if k=0∨h.2.2.2.1<a then h.2.2.2.1 else a

theorem least_go: ∀ (l:List (den tHop)) (k:Nat) (a:Int),0<k→foldI leastI k l a=(l.foldl leastS (a,true)).1
 | [],_,_,_=>rfl
 | h::l,k,a,hk=>by
  simp only [foldI,List.foldl_cons]
  by_cases c:h.2.2.2.1<a
  ·have e1:leastI k h a=h.2.2.2.1:=by unfold leastI;rw [if_pos (.inr c)]
   have e2:leastS (a,true) h=(h.2.2.2.1,true):=by unfold leastS;simp [c]
   rw [e1,e2];exact least_go l (k+1) _ (by omega)
  ·have e1:leastI k h a=a:=by unfold leastI;rw [if_neg (fun hc=>hc.elim (fun e=>by omega) c)]
   have e2:leastS (a,true) h=(a,true):=by unfold leastS;simp [c]
   rw [e1,e2];exact least_go l (k+1) _ (by omega)

theorem least_eq (l:List (den tHop)):foldI leastI 0 l 0=least l:=by
 cases l with
 | nil=>rfl
 | cons h l=>
  unfold least
  simp only [foldI,List.foldl_cons]
  have e1:leastI 0 h 0=h.2.2.2.1:=by unfold leastI;rw [if_pos (.inl rfl)]
  have e2:leastS (0,false) h=(h.2.2.2.1,true):=by unfold leastS;simp
  rw [e1,e2];exact least_go l 1 _ (by omega)

theorem i_expiry {p:den tPt} (h:tot tPt p≤1073741824):i_PathExpiry p=some (least (hops p)):=by
 have hl:p.length≤1073741824:=Nat.le_trans (tot_len (t:=tPp) p) h
 have hs:=hops_sum p
 have hh:=hops_len p
 unfold i_PathExpiry i_allHops i_leastExpiry
 rw [loopG (fun k (a:List (den tHop))=>((k:Int),a)) ((0:Int),[]) [] p (fun _ x a=>a++x.2.2.2) List.length (fun x:den tPp=>x.2.2.2.length) 68719476736 id rfl (by omega) (by simp only [List.length_nil];omega) (fun k x a=>by simp) (fun k x a hi hx hd hw hk hb=>by
  simp only [hd,hi,hw,cond_true,obind_some,apOk_le (b:=40) (n:=a.length) (m:=x.2.2.2.length) (by decide) (by omega)]) (fun a=>by simp)]
 simp only [obind_some]
 rw [show foldI (fun _ (x:den tPp) a=>a++x.2.2.2) 0 p []=hops p from rfl]
 simp only [id]
 rw [loopG (fun k (a:Int)=>(a,(k:Int))) ((0:Int),(0:Int)) 0 (hops p) leastI (fun _=>0) (fun _=>0) 1 id rfl (by omega) (by rw [sum_nil];omega) (fun k x a=>by omega) (fun k x a hi hx hd hw hk hb=>by
  simp only [hd,hi,hw,cond_true,obind_some]
  unfold leastI
  have e1:((k:Int)==0)=decide (k=0):=by rw [Bool.eq_iff_iff];simp
  rw [e1]
  by_cases c:k=0
  ·simp [c]
  ·by_cases c2:x.2.2.2.1<a
   ·simp [c,c2]
   ·simp [c,c2]) (fun a=>by simp)]
 rw [least_eq]
 rfl

theorem fold_parts: ∀ (p:den tPt) (k:Nat) (a:Int×Bool),foldI (fun _ (x:den tPp) a=>foldI (fun _ h a=>leastS a h) 0 x.2.2.2 a) k p a=(p.flatMap fun x:den tPp=>x.2.2.2).foldl leastS a
 | [],_,_=>rfl
 | x::p,k,a=>by
  simp only [foldI,List.flatMap_cons,List.foldl_append]
  rw [fold_parts p (k+1),foldI_foldl]

theorem s_expiry {p:den tPt} (h:tot tPt p≤1073741824):s_PathExpiry p=some (least (hops p)):=by
 have hl:p.length≤1073741824:=Nat.le_trans (tot_len (t:=tPp) p) h
 have hs:=hops_sum p
 unfold s_PathExpiry
 rw [loopG (fun k (a:Int×Bool)=>(a.1,a.2,(k:Int))) ((0:Int),false,(0:Int)) ((0:Int),false) p (fun _ (x:den tPp) a=>foldI (fun _ h a=>leastS a h) 0 x.2.2.2 a) (fun _=>0) (fun _=>0) 1 (fun a=>a.1) rfl (by omega) (by rw [sum_nil];omega) (fun k x a=>by omega) (fun k x a hi hx hd hw hk hb=>by
  have hxl:x.2.2.2.length≤1073741824:=by
   have h1:=tot_get (t:=tPp) hx
   have h2:x.2.2.2.length≤tot tPp x:=Nat.le_trans (tot_len (t:=tHop) x.2.2.2) (by simp only [tot_pair,tot_int];omega)
   have h3:tot (.sl tPp) p≤1073741824:=h
   omega
  simp only [hd,hi,hw,cond_true,obind_some]
  rw [loopG (fun k (a:Int×Bool)=>(a.1,a.2,(k:Int))) (a.1,a.2,(0:Int)) a x.2.2.2 (fun _ h a=>leastS a h) (fun _=>0) (fun _=>0) 1 id rfl (by omega) (by rw [sum_nil];omega) (fun k x a=>by omega) (fun k h a hi hx hd hw hk hb=>by
   simp only [hd,hi,hw,cond_true,obind_some]
   unfold leastS
   cases ca:a.2
   ·rfl
   ·cases c:decide (h.2.2.2.1<a.1)<;>simp [c,ca]) (fun a=>by simp)]
  rfl) (fun a=>by simp)]
 rw [fold_parts]
 unfold least hops
 rw [hops_app]
 rfl

def better (a b:den tPt):Bool:=
 cond (((steps a).length:Int) != ((steps b).length:Int)) (decide (((steps a).length:Int)<((steps b).length:Int)))
  (cond (least (hops a) != least (hops b)) (decide (least (hops a)>least (hops b))) (decide (digest (pathD a)<digest (pathD b))))

theorem i_better {a b:den tPt} (ha:tot tPt a≤1073741824) (hb:tot tPt b≤1073741824):i_BetterPath a b=some (better a b):=by
 unfold i_BetterPath i_PathLength better
 simp only [i_steps (p:=a) (Nat.le_trans ha (by decide)),i_steps (p:=b) (Nat.le_trans hb (by decide)),i_expiry ha,i_expiry hb,i_pathDig ha,i_pathDig hb,obind_some]
 cases ((steps a).length:Int) != ((steps b).length:Int)
 ·cases least (hops a) != least (hops b)<;>rfl
 ·rfl

theorem s_better {a b:den tPt} (ha:tot tPt a≤1073741824) (hb:tot tPt b≤1073741824):s_BetterPath a b=some (better a b):=by
 unfold s_BetterPath s_PathLength better
 simp only [s_steps (p:=a) (Nat.le_trans ha (by decide)),s_steps (p:=b) (Nat.le_trans hb (by decide)),s_expiry ha,s_expiry hb,s_pathDig ha,s_pathDig hb,obind_some]
 cases ((steps a).length:Int) != ((steps b).length:Int)
 ·cases least (hops a) != least (hops b)<;>rfl
 ·rfl

def posn (x:den tPt) (out:List (den tPt)):Nat→Nat
 | 0=>0
 | k+1=>cond (better x ((out[k]?).getD [])) (posn x out k) (k+1)

theorem posn_le (x:den tPt) (out:List (den tPt)): ∀ k,posn x out k≤k
 | 0=>Nat.le_refl _
 | k+1=>by
  unfold posn
  cases better x ((out[k]?).getD [])
  ·exact Nat.le_refl _
  ·exact Nat.le_succ_of_le (posn_le x out k)

theorem posn_loop {x:den tPt} {out:List (den tPt)} {step:Int→Option (Int⊕Int)} (hl:out.length≤68719476736)
  (h0:step 0=some (.inr 0)) (h1: ∀ k (y:den tPt),out[k]? =some y→step ((k+1:Nat):Int)=some (cond (better x y) (.inl (k:Int)) (.inr ((k+1:Nat):Int)))):
  ∀ k,k≤out.length→loopM step (k:Int)=some ((posn x out k:Nat):Int)
 | 0,_=>loopM_done h0
 | k+1,hk=>by
  have hy:out[k]? =some out[k]:=List.getElem?_eq_getElem (by omega)
  have hs:=h1 k _ hy
  unfold posn
  rw [hy,Option.getD_some]
  cases hb:better x out[k] with
  | true=>rw [hb] at hs;rw [loopM_next hs];exact posn_loop hl h0 h1 k (by omega)
  | false=>rw [hb] at hs;exact loopM_done hs

def putP (x:den tPt) (out:List (den tPt)):List (den tPt):=out.take (posn x out out.length)++[x]++out.drop (posn x out out.length)

theorem putP_tot (x:den tPt) (out:List (den tPt)):tot (.sl tPt) (putP x out)=tot (.sl tPt) out+(1+tot tPt x):=by
 have h:=tot_app (t:=tPt) (out.take (posn x out out.length)) (out.drop (posn x out out.length))
 rw [List.take_append_drop] at h
 unfold putP
 rw [tot_app,tot_app,tot_one]
 omega

def sortP (l:List (den tPt)):List (den tPt):=foldI (fun _ x a=>putP x a) 0 l []

theorem sortP_tot (l:List (den tPt)):tot (.sl tPt) (sortP l)≤tot (.sl tPt) l:=by
 have h:=foldI_m (f:=fun _ x (a:List (den tPt))=>putP x a) (m:=tot (.sl tPt)) (cost:=fun x=>1+tot tPt x) (fun k x a=>Nat.le_of_eq (putP_tot x a)) l 0 []
 rw [tot_sum,tot_nil] at h
 unfold sortP
 omega

theorem i_sortP {l:List (den tPt)} (h:tot (.sl tPt) l≤1073741824):i_SortPaths l=some (sortP l):=by
 have hl:=tot_len (t:=tPt) l
 unfold i_SortPaths sortP
 rw [loopG (fun k (a:List (den tPt))=>((k:Int),a)) ((0:Int),[]) [] l (fun _ x a=>putP x a) (tot (.sl tPt)) (fun x=>1+tot tPt x) 1073741824 id rfl (by omega) (by rw [tot_sum,tot_nil];omega) (fun k x a=>Nat.le_of_eq (putP_tot x a)) (fun k x a hi hx hd hw hk hb=>by
  have ha:=tot_len (t:=tPt) a
  have hsm:SmB 68719476736 tPt x:=(sm_of_tot (B:=1073741824) (t:=tPt) (by omega)).mono (by decide)
  simp only [hd,hi,hw,cond_true,obind_some]
  rw [posn_loop (x:=x) (out:=a) (by omega) (by rfl) (fun j y hy=>by
   have hlt:=(List.getElem?_eq_some_iff.1 hy).1
   have hty:=tot_get (t:=tPt) hy
   have e1:decide (((j+1:Nat):Int)>0)=true:=by simp<;>omega
   have e2:wr (((j+1:Nat):Int) - 1)=(j:Int):=by
    have :wr (((j+1:Nat):Int) - 1)=((j+1:Nat):Int) - 1:=wri (by omega) (by omega)
    rw [this];omega
   have e3:decide ((j:Int)<(a.length:Int))=true:=by simp;omega
   simp only [e1,e2,e3,pos_nat,cond_true,Int.toNat_natCast,hy,obind_some,i_better (a:=x) (b:=y) (by omega) (by omega)]
   cases better x y<;>rfl) a.length (Nat.le_refl _)]
  have hp:=posn_le x a a.length
  have s1:slOk (0:Int) ((posn x a a.length:Nat):Int) (a.length:Int)=true:=by
   have :=slOk_nat (a:=0) (b:=posn x a a.length) (n:=a.length)
   rw [show ((0:Nat):Int)=0 from rfl] at this
   rw [this];simp;omega
  have s2:slOk ((posn x a a.length:Nat):Int) (a.length:Int) (a.length:Int)=true:=by rw [slOk_nat];simp;omega
  simp only [obind_some,s1,s2,cond_true,cut_take,cut_drop hp,i_copyP hsm]
  rw [apOk_le (b:=24) (by decide) (by simp<;>omega),apOk_le (b:=24) (by decide) (by simp<;>omega),apOk_le (b:=24) (by decide) (by simp<;>omega)]
  simp only [cond_true,List.nil_append]
  rfl) (fun a=>by simp)]
 rfl

theorem s_sortP {l:List (den tPt)} (h:tot (.sl tPt) l≤1073741824):s_SortPaths l=some (sortP l):=by
 have hl:=tot_len (t:=tPt) l
 unfold s_SortPaths sortP
 rw [loopG (fun k (a:List (den tPt))=>((k:Int),a)) ((0:Int),[]) [] l (fun _ x a=>putP x a) (tot (.sl tPt)) (fun x=>1+tot tPt x) 1073741824 id rfl (by omega) (by rw [tot_sum,tot_nil];omega) (fun k x a=>Nat.le_of_eq (putP_tot x a)) (fun k x a hi hx hd hw hk hb=>by
  have ha:=tot_len (t:=tPt) a
  have hsm:SmB 68719476736 tPt x:=(sm_of_tot (B:=1073741824) (t:=tPt) (by omega)).mono (by decide)
  simp only [hd,hi,hw,cond_true,obind_some,both_self,dup_self,dup3_self,dup4_self,dup5_self]
  rw [posn_loop (x:=x) (out:=a) (by omega) (by rfl) (fun j y hy=>by
   have hlt:=(List.getElem?_eq_some_iff.1 hy).1
   have hty:=tot_get (t:=tPt) hy
   have e1:decide (((j+1:Nat):Int)>0)=true:=by simp<;>omega
   have e2:wr (((j+1:Nat):Int) - 1)=(j:Int):=by
    have :wr (((j+1:Nat):Int) - 1)=((j+1:Nat):Int) - 1:=wri (by omega) (by omega)
    rw [this];omega
   have e3:decide ((j:Int)<(a.length:Int))=true:=by simp;omega
   simp only [e1,e2,e3,pos_nat,cond_true,Int.toNat_natCast,hy,obind_some,s_better (a:=x) (b:=y) (by omega) (by omega)]
   cases better x y<;>rfl) a.length (Nat.le_refl _)]
  have hp:=posn_le x a a.length
  have s1:slOk (0:Int) ((posn x a a.length:Nat):Int) (a.length:Int)=true:=by
   have :=slOk_nat (a:=0) (b:=posn x a a.length) (n:=a.length)
   rw [show ((0:Nat):Int)=0 from rfl] at this
   rw [this];simp;omega
  have s2:slOk ((posn x a a.length:Nat):Int) (a.length:Int) (a.length:Int)=true:=by rw [slOk_nat];simp;omega
  simp only [obind_some,s1,s2,cond_true,cut_take,cut_drop hp,s_copyP hsm]
  rw [apOk_le (b:=24) (by decide) (by simp<;>omega),apOk_le (b:=24) (by decide) (by simp<;>omega),apOk_le (b:=24) (by decide) (by simp<;>omega)]
  simp only [cond_true,List.nil_append,obind_some]
  rfl) (fun a=>by simp)]
 rfl

def activeV (l:List (den tRv)) (now:Int):List (den tRv):=l.filter fun x=>decide (now≤x.2.2)

theorem i_activeV {l:List (den tRv)} {now:Int} (h:l.length≤1073741824):i_ActiveRevocations l now=some (activeV l now):=by
 unfold i_ActiveRevocations activeV
 rw [loopG (fun k (a:List (den tRv))=>((k:Int),a)) ((0:Int),[]) [] l (fun _ x a=>if decide (now≤x.2.2)=true then a++[x] else a) List.length (fun _=>1) 68719476736 id rfl (by omega) (by rw [sum_one];simp;omega) (fun k x a=>by split<;>simp) (fun k x a hi hx hd hw hk hb=>by
  simp only [hd,hi,hw,cond_true,obind_some,peta,apOk_le (b:=24) (n:=a.length) (m:=1) (by decide) (by omega)]
  cases decide (now≤x.2.2)<;>simp) (fun a=>by simp),foldI_filter (fun x:den tRv=>decide (now≤x.2.2))]
 simp

theorem s_activeV {l:List (den tRv)} {now:Int} (h:l.length≤1073741824):s_ActiveRevocations l now=some (activeV l now):=by
 unfold s_ActiveRevocations activeV
 rw [loopG (fun k (a:List (den tRv))=>((k:Int),a)) ((0:Int),[]) [] l (fun _ x a=>if decide (now≤x.2.2)=true then a++[x] else a) List.length (fun _=>1) 68719476736 id rfl (by omega) (by rw [sum_one];simp;omega) (fun k x a=>by split<;>simp) (fun k x a hi hx hd hw hk hb=>by
  simp only [hd,hi,hw,cond_true,obind_some,peta,apOk_le (b:=24) (n:=a.length) (m:=1) (by decide) (by omega)]
  cases decide (now≤x.2.2)<;>simp) (fun a=>by simp),foldI_filter (fun x:den tRv=>decide (now≤x.2.2))]
 simp

def revd (l:List (den tRv)) (p:den tPt) (now:Int):Bool:= !((activeV l now).all fun x=> !affects p x)

theorem active_len (l:List (den tRv)) (now:Int):(activeV l now).length≤l.length:=List.length_filter_le _ _

theorem i_revd {l:List (den tRv)} {p:den tPt} {now:Int} (h:l.length≤1073741824) (hp:tot tPt p≤1073741824):i_Revoked l p now=some (revd l p now):=by
 have ha:=active_len l now
 unfold i_Revoked revd
 rw [i_activeV h,obind_some]
 rw [loop_scan (l:=activeV l now) (fun _ x=>if !affects p x then none else some true) (by omega) (fun k x hi hd hw hm hk=>by
  have hy:(activeV l now)[k]? =some x:=by rw [← idx_nat];exact hi
  simp only [hd,hy,hw,cond_true,obind_some,pos_nat,Int.toNat_natCast,peta,i_affects hp]
  cases affects p x<;>rfl) (by simp),scanA (fun x:den tRv=> !affects p x)]
 cases (activeV l now).all (fun x=> !affects p x)<;>rfl

theorem s_revd {l:List (den tRv)} {p:den tPt} {now:Int} (h:l.length≤1073741824) (hp:tot tPt p≤1073741824):s_Revoked l p now=some (revd l p now):=by
 have ha:=active_len l now
 unfold s_Revoked revd
 rw [s_activeV h,obind_some]
 rw [loop_scan (l:=activeV l now) (fun _ x=>if !affects p x then none else some true) (by omega) (fun k x hi hd hw hm hk=>by
  have hy:(activeV l now)[k]? =some x:=by rw [← idx_nat];exact hi
  simp only [hd,hy,hw,cond_true,obind_some,pos_nat,Int.toNat_natCast,peta,s_affects hp]
  cases affects p x<;>rfl) (by simp),scanA (fun x:den tRv=> !affects p x)]
 cases (activeV l now).all (fun x=> !affects p x)<;>rfl

def preferP (l:List (den tRv)) (p:List (den tPt)) (now:Int):List (den tPt):=(p.filter fun x=> !revd l x now)++p.filter fun x=>revd l x now

def two (r:den tPt→Bool) (x:den tPt) (a:List (den tPt)×List (den tPt)):List (den tPt)×List (den tPt):=cond (r x) (a.1,a.2++[x]) (a.1++[x],a.2)

theorem two_len (r:den tPt→Bool) (x:den tPt) (a:List (den tPt)×List (den tPt)):(two r x a).1.length+(two r x a).2.length≤a.1.length+a.2.length+1:=by
 unfold two
 cases r x<;>simp<;>omega

theorem two_filter (r:den tPt→Bool): ∀ (l:List (den tPt)) (k:Nat) (a:List (den tPt)×List (den tPt)),foldI (fun _ x a=>two r x a) k l a=(a.1++l.filter (fun x=> !r x),a.2++l.filter r)
 | [],_,a=>by simp [foldI]
 | x::l,k,a=>by
  simp only [foldI]
  rw [two_filter r l (k+1)]
  unfold two
  cases h:r x<;>simp [h]

theorem i_preferP {l:List (den tRv)} {p:List (den tPt)} {now:Int} (h:l.length≤1073741824) (hp:tot (.sl tPt) p≤1073741824):i_PreferUnrevoked l p now=some (preferP l p now):=by
 have hl:=tot_len (t:=tPt) p
 unfold i_PreferUnrevoked preferP
 rw [loopG (fun k (a:List (den tPt)×List (den tPt))=>((k:Int),a.1,a.2)) ((0:Int),[],[]) ([],[]) p (fun _ x a=>two (fun x=>revd l x now) x a) (fun a=>a.1.length+a.2.length) (fun _=>1) 68719476736 (fun a=>(a.1,a.2)) rfl (by omega) (by rw [sum_one];simp;omega) (fun k x a=>two_len _ x a) (fun k x a hi hx hd hw hk hb=>by
  have ht:=tot_get (t:=tPt) hx
  have hsm:SmB 68719476736 tPt x:=(sm_of_tot (B:=1073741824) (t:=tPt) (by omega)).mono (by decide)
  simp only [hd,hi,hw,cond_true,obind_some,i_revd (l:=l) (p:=x) (now:=now) h (by omega),i_copyP hsm,apOk_le (b:=24) (n:=a.1.length) (m:=1) (by decide) (by omega),apOk_le (b:=24) (n:=a.2.length) (m:=1) (by decide) (by omega)]
  have e:two (fun x=>revd l x now) x a=cond (revd l x now) (a.1,a.2++[x]) (a.1++[x],a.2):=rfl
  rw [e]
  cases revd l x now<;>rfl) (fun a=>by simp),two_filter]
 have e:(p.filter fun x=> !revd l x now).length≤p.length:=List.length_filter_le _ _
 have e2:(p.filter fun x=>revd l x now).length≤p.length:=List.length_filter_le _ _
 simp only [obind_some,List.nil_append]
 rw [apOk_le (b:=24) (by decide) (by omega),cond_true]

theorem s_preferP {l:List (den tRv)} {p:List (den tPt)} {now:Int} (h:l.length≤1073741824) (hp:tot (.sl tPt) p≤1073741824):s_PreferUnrevoked l p now=some (preferP l p now):=by
 have hl:=tot_len (t:=tPt) p
 unfold s_PreferUnrevoked preferP
 rw [loopG (fun k (a:List (den tPt))=>((k:Int),a)) ((0:Int),[]) [] p (fun _ x a=>if (!revd l x now)=true then a++[x] else a) List.length (fun _=>1) 68719476736 id rfl (by omega) (by rw [sum_one];simp;omega) (fun k x a=>by split<;>simp) (fun k x a hi hx hd hw hk hb=>by
  have ht:=tot_get (t:=tPt) hx
  have hsm:SmB 68719476736 tPt x:=(sm_of_tot (B:=1073741824) (t:=tPt) (by omega)).mono (by decide)
  simp only [hd,hi,hw,cond_true,obind_some,s_revd (l:=l) (p:=x) (now:=now) h (by omega),s_copyP hsm,apOk_le (b:=24) (n:=a.length) (m:=1) (by decide) (by omega)]
  cases revd l x now<;>simp) (fun a=>by simp),foldI_filter (fun x:den tPt=> !revd l x now)]
 have e:(p.filter fun x=> !revd l x now).length≤p.length:=List.length_filter_le _ _
 simp only [id,obind_some,List.nil_append]
 rw [loopG (fun k (a:List (den tPt))=>((k:Int),a)) ((0:Int),p.filter fun x=> !revd l x now) (p.filter fun x=> !revd l x now) p (fun _ x a=>if revd l x now=true then a++[x] else a) List.length (fun _=>1) 68719476736 id rfl (by omega) (by rw [sum_one];omega) (fun k x a=>by split<;>simp) (fun k x a hi hx hd hw hk hb=>by
  have ht:=tot_get (t:=tPt) hx
  have hsm:SmB 68719476736 tPt x:=(sm_of_tot (B:=1073741824) (t:=tPt) (by omega)).mono (by decide)
  simp only [hd,hi,hw,cond_true,obind_some,s_revd (l:=l) (p:=x) (now:=now) h (by omega),s_copyP hsm,apOk_le (b:=24) (n:=a.length) (m:=1) (by decide) (by omega)]
  cases revd l x now<;>simp) (fun a=>by simp),foldI_filter (fun x:den tPt=>revd l x now)]
 rfl

theorem filter_tot (r:den tPt→Bool): ∀ p:List (den tPt),tot (.sl tPt) (p.filter (fun x=> !r x))+tot (.sl tPt) (p.filter r)=tot (.sl tPt) p
 | []=>rfl
 | x::p=>by
  have ih:=filter_tot r p
  rw [tot_cons]
  cases h:r x
  ·have e:=tot_cons (t:=tPt) x (p.filter fun x=> !r x)
   simp only [List.filter_cons,h,Bool.not_false,if_true,Bool.false_eq_true,if_false];omega
  ·have e:=tot_cons (t:=tPt) x (p.filter r)
   simp only [List.filter_cons,h,Bool.not_true,if_true,Bool.false_eq_true,if_false];omega

theorem preferP_tot (l:List (den tRv)) (p:List (den tPt)) (now:Int):tot (.sl tPt) (preferP l p now)=tot (.sl tPt) p:=by
 unfold preferP
 rw [tot_app]
 exact filter_tot (fun x=>revd l x now) p

def newPs (f:den tFl) (p:List (den tPt)) (now:Int):List (den tPt):=(preferP f.2.2.2.2.2.2.2.2 (sortP p) now).take (min (preferP f.2.2.2.2.2.2.2.2 (sortP p) now).length 24)

theorem min_int (n:Nat):(if (24:Int)<(n:Int) then (24:Int) else (n:Int))=((min n 24:Nat):Int):=by
 by_cases c:24<n
 ·rw [if_pos (by omega),Nat.min_eq_right (by omega)];rfl
 ·rw [if_neg (by omega),Nat.min_eq_left (by omega)]

theorem slOk_min (n:Nat):slOk (0:Int) ((min n 24:Nat):Int) (n:Int)=true:=by
 have :=slOk_nat (a:=0) (b:=min n 24) (n:=n)
 rw [show ((0:Nat):Int)=0 from rfl] at this
 rw [this];simp;omega

theorem i_setP {f:den tFl} {p:List (den tPt)} {now:Int} (h:tot tFl f≤1073741824) (hp:tot (.sl tPt) p≤1073741824):i_SetPaths f p now=some (f.1,f.2.1,f.2.2.1,f.2.2.2.1,0,0,f.2.2.2.2.1,newPs f p now,f.2.2.2.2.2.2.2.2):=by
 have hf:SmB 68719476736 tFl f:=(sm_of_tot h).mono (by decide)
 have hv:f.2.2.2.2.2.2.2.2.length≤1073741824:=Nat.le_trans (tot_len (t:=tRv) _) (tot_r (tot_r (tot_r (tot_r (tot_r (tot_r (tot_r (tot_r h))))))))
 have hs:=sortP_tot p
 unfold i_SetPaths newPs
 simp only [peta,i_copyF hf,i_sortP hp,i_preferP (l:=f.2.2.2.2.2.2.2.2) (p:=sortP p) (now:=now) hv (by omega),i_min,obind_some,min_int,slOk_min,cond_true,Int.toNat_natCast]
 rfl

theorem s_setP {f:den tFl} {p:List (den tPt)} {now:Int} (h:tot tFl f≤1073741824) (hp:tot (.sl tPt) p≤1073741824):s_SetPaths f p now=some (f.1,f.2.1,f.2.2.1,f.2.2.2.1,newPs f p now,0,0,f.2.2.2.2.1,f.2.2.2.2.2.2.2.2):=by
 have hf:SmB 68719476736 tFl f:=(sm_of_tot h).mono (by decide)
 have hv:f.2.2.2.2.2.2.2.2.length≤1073741824:=Nat.le_trans (tot_len (t:=tRv) _) (tot_r (tot_r (tot_r (tot_r (tot_r (tot_r (tot_r (tot_r h))))))))
 have hs:=sortP_tot p
 unfold s_SetPaths newPs
 simp only [peta,s_copyF hf,s_sortP hp,s_preferP (l:=f.2.2.2.2.2.2.2.2) (p:=sortP p) (now:=now) hv (by omega),s_min,obind_some,min_int,slOk_min,cond_true,cut_take]
 rfl

theorem newPs_tot (f:den tFl) (p:List (den tPt)) (now:Int):tot (.sl tPt) (newPs f p now)≤tot (.sl tPt) p:=by
 have h1:=sortP_tot p
 have h2:=preferP_tot f.2.2.2.2.2.2.2.2 (sortP p) now
 have h3:=tot_take (t:=tPt) (preferP f.2.2.2.2.2.2.2.2 (sortP p) now) (min (preferP f.2.2.2.2.2.2.2.2 (sortP p) now).length 24)
 unfold newPs
 omega

def linkIx (t:den tTo) (r d:Int):Int:=
 match scanI (fun k x=>if endsL x r d then some (k:Int) else none) 0 t.2 with
 | some i=>i
 | none=> -1

theorem linkIx_at (t:den tTo) (r d:Int):linkIx t r d= -1∨ ∃ (j:Nat) (x:den tLk),linkIx t r d=(j:Int)∧t.2[j]? =some x∧endsL x r d=true:=by
 unfold linkIx
 cases h:scanI (fun k x=>if endsL x r d then some (k:Int) else none) 0 t.2 with
 | none=>exact .inl rfl
 | some i=>
  obtain ⟨j,x,h1,h2,h3⟩:=scanI_at h
  exact .inr ⟨j,x,by simpa using h2,h1,h3⟩

theorem s_linkIx {t:den tTo} {r d:Int} (h:t.2.length≤68719476736):s_LinkIndex t r d=some (linkIx t r d):=by
 unfold s_LinkIndex
 rw [loop_scan (l:=t.2) (fun k x=>if endsL x r d then some (k:Int) else none) (by omega) (fun k x hi hd hw hx hk=>by
  simp only [hd,hi,hw,cond_true,obind_some,s_endsL]
  cases endsL x r d<;>rfl) (by simp)]
 unfold linkIx
 cases scanI (fun k x=>if endsL x r d then some (k:Int) else none) 0 t.2<;>rfl


def farE (x:den tLk) (r d:Int):Int×Int:=cond (x.1==r&&x.2.1==d) (x.2.2.1,x.2.2.2.1) (x.1,x.2.1)

def remote (t:den tTo) (r d:Int):Int×Int:=if linkIx t r d<0 then (-1,0) else farE ((t.2[(linkIx t r d).toNat]?).getD (0,0,0,0,0)) r d

theorem s_remote {t:den tTo} {r d:Int} (h:t.2.length≤68719476736):s_RemoteEnd t r d=some (remote t r d):=by
 unfold s_RemoteEnd remote
 simp only [peta,s_linkIx h,obind_some]
 rcases linkIx_at t r d with e | ⟨j,x,e,hx,he⟩
 ·rw [e];rfl
 ·rw [e,decide_eq_false (by omega),cond_false,if_neg (by omega),idx_nat,hx,Int.toNat_natCast,hx,obind_some,Option.getD_some]
  unfold farE
  cases x.1==r<;>cases x.2.1==d<;>rfl

def kindL (x:den tLk) (r d:Int):Int:=cond (x.2.2.2.2==1) 1 (cond (x.2.2.2.2==3) 4 (cond (x.2.2.2.2==2) (cond (x.1==r&&x.2.1==d) 2 3) 0))

def kindI (t:den tTo) (r d:Int):Int:=cond (d==0) 5 (if linkIx t r d<0 then 0 else kindL ((t.2[(linkIx t r d).toNat]?).getD (0,0,0,0,0)) r d)

theorem s_kindI {t:den tTo} {r d:Int} (h:t.2.length≤68719476736):s_InterfaceKind t r d=some (kindI t r d):=by
 unfold s_InterfaceKind kindI
 simp only [peta,s_linkIx h,obind_some]
 cases d==0
 ·rcases linkIx_at t r d with e | ⟨j,x,e,hx,he⟩
  ·rw [e];rfl
  ·rw [e,decide_eq_false (by omega),cond_false,cond_false,cond_false,if_neg (by omega),idx_nat,hx,Int.toNat_natCast,hx,obind_some,Option.getD_some]
   unfold kindL
   cases x.2.2.2.2==1<;>cases x.2.2.2.2==3<;>cases x.2.2.2.2==2<;>cases x.1==r<;>cases x.2.1==d<;>rfl
 ·rfl

theorem forL_pos {α:Type} (p:α→Bool) (N:Int): ∀ (l:List α) (k:Nat),N=((k+l.length:Nat):Int)→forL (fun k x (_:Unit)=>if p x then .inl () else .inr (k:Int)) (fun _=>N) k l ()=((k+l.findIdx (fun x=> !p x):Nat):Int)
 | [],k,h=>by simpa [forL] using h
 | x::xs,k,h=>by
  simp only [forL,List.findIdx_cons]
  cases hp:p x with
  | true=>
   have :=forL_pos p N xs (k+1) (by rw [h];simp;omega)
   simp only [if_true,this,Bool.not_true,cond_false]
   omega
  | false=>simp

def posI (l:List Int) (n:Int):Nat:=l.findIdx fun x=> !decide (x<n)

theorem posI_le (l:List Int) (n:Int):posI l n≤l.length:=List.findIdx_le_length

theorem posI_loop {l:List Int} {n:Int} {step:Int→Option (Int⊕Int)} (hl:l.length≤68719476736)
  (h: ∀ (k:Nat) (x:Int),idx l (k:Int)=some x→l[k]? =some x→decide ((k:Int)<(l.length:Int))=true→IntKind.i64.wrap ((k:Int)+1)=((k+1:Nat):Int)→step (k:Int)=some (if decide (x<n) then .inl ((k+1:Nat):Int) else .inr (k:Int)))
  (he:step (l.length:Int)=some (.inr (l.length:Int))):loopM step (0:Int)=some (posI l n:Int):=by
 rw [loopE (fun k (_:Unit)=>(k:Int)) (0:Int) () l (fun k x _=>if decide (x<n) then .inl () else .inr (k:Int)) (fun _ _=>True) (fun _=>(l.length:Int)) rfl (by omega) trivial (fun k x a hi hx hd hw hk _=>by
  refine ⟨?_,fun _ _=>trivial⟩
  rw [h k x hi hx hd hw]
  cases decide (x<n)<;>rfl) (fun _ _=>he)]
 rw [forL_pos (fun x=>decide (x<n)) (l.length:Int) l 0 (by simp)]
 simp [posI]


def insI (l:List Int) (n:Int):List Int:=if l[posI l n]? =some n then l else l.take (posI l n)++[n]++l.drop (posI l n)

theorem insI_len (l:List Int) (n:Int):(insI l n).length≤l.length+1:=by
 unfold insI
 split
 ·omega
 ·simp;omega

theorem slOk_to {k n:Nat} (h:k≤n):slOk (0:Int) (k:Int) (n:Int)=true:=by
 simp only [slOk,Bool.and_eq_true,decide_eq_true_eq];omega

theorem slOk_from {k n:Nat} (h:k≤n):slOk (k:Int) (n:Int) (n:Int)=true:=by
 simp only [slOk,Bool.and_eq_true,decide_eq_true_eq];omega

theorem cut_from {α:Type} {l:List α} {k:Nat}:cut l (k:Int) (l.length:Int)=l.drop k:=by
 unfold cut
 rw [Int.toNat_natCast]
 apply List.take_of_length_le
 simp

theorem ins_at {l:List Int} {n:Int} {b:Bool} (hb:(l[posI l n]? =some n)=(b=true)):insI l n=cond b l (l.take (posI l n)++[n]++l.drop (posI l n)):=by
 unfold insI
 cases b with
 | true=>rw [if_pos (by rw [hb])];rfl
 | false=>rw [if_neg (by rw [hb];simp)];rfl

theorem s_insI {l:List Int} {n:Int} (h:l.length≤4294967296):s_l5Put'r l n=some (insI l n):=by
 have hp:=posI_le l n
 unfold s_l5Put'r
 rw [posI_loop (l:=l) (n:=n) (by omega) (fun k x hi hx hd hw=>by
  simp only [hd,cond_true,pos_nat,Int.toNat_natCast,hx,obind_some,hw]
  cases decide (x<n)<;>rfl) (by simp)]
 simp only [obind_some,slOk_to hp,slOk_from hp,cut_take,cut_from,cond_true,both_self,dup_self,dup3_self,dup4_self,dup5_self,List.nil_append,List.length_nil]
 rw [apOk_le (b:=8) (n:=0) (m:=(l.take (posI l n)).length) (by decide) (by simp;omega),apOk_le (b:=8) (n:=(l.take (posI l n)).length) (m:=1) (by decide) (by simp;omega),apOk_le (b:=8) (m:=(l.drop (posI l n)).length) (by decide) (by simp;omega)]
 by_cases hlt:posI l n<l.length
 ·have hx:l[posI l n]? =some l[posI l n]:=List.getElem?_eq_getElem hlt
  rw [decide_eq_true (by omega),cond_true,pos_nat,cond_true,cond_true,Int.toNat_natCast,hx,obind_some,obind_some]
  rw [ins_at (b:=l[posI l n]==n) (by rw [hx];simp)]
  cases l[posI l n]==n<;>rfl
 ·rw [decide_eq_false (by omega),cond_false,obind_some]
  rw [ins_at (b:=false) (by rw [List.getElem?_eq_none (by omega)];simp)]
  rfl


def doorS (r:Int) (x:den tLk) (a:List Int):List Int:=cond (x.2.2.1==r) (insI (cond (x.1==r) (insI a x.2.1) a) x.2.2.2.1) (cond (x.1==r) (insI a x.2.1) a)

theorem doorS_len (r:Int) (x:den tLk) (a:List Int):(doorS r x a).length≤a.length+2:=by
 unfold doorS
 have h1:=insI_len a x.2.1
 have h2:=insI_len (insI a x.2.1) x.2.2.2.1
 have h3:=insI_len a x.2.2.2.1
 cases x.1==r<;>cases x.2.2.1==r<;>simp only [cond_true,cond_false]<;>omega

def doors (t:den tTo) (r:Int):List Int:=foldI (fun _ x a=>doorS r x a) 0 t.2 []

theorem doors_len (t:den tTo) (r:Int):(doors t r).length≤2 * t.2.length:=by
 have h:=foldI_m (f:=fun _ x (a:List Int)=>doorS r x a) (m:=List.length) (cost:=fun _=>2) (fun k x a=>doorS_len r x a) t.2 0 []
 rw [sum_two] at h
 simpa [doors] using h

theorem s_doors {t:den tTo} {r:Int} (h:t.2.length≤1073741824):s_Interfaces t r=some (doors t r):=by
 unfold s_Interfaces
 rw [(loopF (fun k (a:List Int)=>((k:Int),a)) ((0:Int),[]) [] t.2 (fun _ x a=>doorS r x a) List.length (fun _=>2) 4294967296 id rfl (by omega) (by rw [sum_two];simp;omega) (fun k x a hi hx hd hw hk hb=>by
  refine ⟨?_,doorS_len r x a⟩
  have h1:=insI_len a x.2.1
  simp only [hd,hi,hw,cond_true,obind_some,s_insI (l:=a) (by omega),s_insI (l:=insI a x.2.1) (by omega)]
  unfold doorS
  cases x.1==r<;>cases x.2.2.1==r<;>simp only [cond_true,cond_false,obind_some,s_insI (l:=a) (by omega),s_insI (l:=insI a x.2.1) (by omega)]) (fun a=>by simp)).1]
 rfl

def macH (key ts beta:Int) (h:den tHop):Int:=digest (([key]++[ts,beta,h.1,h.2.1,h.2.2.1,h.2.2.2.1])++[key])

theorem s_macH (key ts beta:Int) (h:den tHop):s_HopMAC key ts beta h=some (macH key ts beta h):=by
 unfold s_HopMAC s_ComputeMAC macH
 rw [apOk_le (b:=8) (n:=[key].length) (by decide) (by simp),apOk_le (b:=8) (by decide) (by simp),s_digest (by simp)]
 rfl

def h0:den tHop:=(0,0,0,0,0)

def keyOf (t:den tTo) (r:Int):Int:=((t.1[r.toNat]?).getD (0,false,0)).2.2

def verH (t:den tTo) (ts beta:Int) (h:den tHop):Bool:=validH h&&(asOk t h.1&&(h.2.2.2.2==macH (keyOf t h.1) ts beta h))

theorem s_verH {t:den tTo} {ts beta:Int} {h:den tHop} (ht:t.1.length≤68719476736):s_VerifyHop t ts beta h=some (verH t ts beta h):=by
 unfold s_VerifyHop verH
 simp only [peta,s_validH,s_asOk ht,obind_some,s_macH]
 cases validH h
 ·rfl
 ·cases c:asOk t h.1
  ·rfl
  ·obtain ⟨x,hx,ix⟩:=as_at c
   rw [ix,keyOf,hx]
   rfl

def hopP (t:den tTo) (l:List (den tHop)) (k:Nat) (x:den tHop):Bool:=validH x&&(asOk t x.1&&(l.take k).all fun y=> !(y.1==x.1))

def hopsV (t:den tTo) (l:List (den tHop)):Bool:=(l.zipIdx 0).all fun z=>hopP t l z.2 z.1

def lnkP (t:den tTo) (p:den tPp) (x y:den tHop):Bool:= !(pEg p x==0)&&((remote t x.1 (pEg p x)).1==y.1&&(remote t x.1 (pEg p x)).2==pIn p y)

def lnkAt (t:den tTo) (p:den tPp) (k:Nat) (y:den tHop):Bool:=decide (k=0)||lnkP t p ((p.2.2.2[k - 1]?).getD h0) y

def validPt (t:den tTo) (p:den tPp):Bool:=
 inR (p.2.2.2.length:Int) 1 8&&(inR p.1 1 4&&(inR p.2.1 0 1000000&&(resid p.2.2.1&&(hopsV t p.2.2.2&&(p.2.2.2.zipIdx 0).all fun z=>lnkAt t p z.2 z.1))))

theorem ne_beq (a b:Int):(a != b)= !(a==b):=rfl

theorem forL_all {α S:Type} (p:Nat→α→Bool) (o r:S): ∀ (l:List α) (k:Nat),forL (fun k x (_:Unit)=>if p k x then .inl () else .inr r) (fun _=>o) k l ()=if (l.zipIdx k).all (fun z=>p z.2 z.1) then o else r
 | [],_=>rfl
 | x::xs,k=>by
  simp only [forL,List.zipIdx_cons,List.all_cons]
  rcases Bool.eq_false_or_eq_true (p k x) with h | h
  ·simp only [h,if_true,Bool.true_and];exact forL_all p o r xs (k+1)
  ·simp [h]

theorem s_realms {p:den tPp} (hl:p.2.2.2.length≤68719476736):s_l21Realms p=some (p.2.2.2.map (·.1)):=by
 unfold s_l21Realms
 rw [(loopF (fun k (a:List Int)=>((k:Int),a)) ((0:Int),[]) [] p.2.2.2 (fun _ x a=>a++[x.1]) List.length (fun _=>1) 68719476736 id rfl (by omega) (by rw [sum_one];simpa using hl) (fun k x a hi hx hd hw hk hb=>by
  simp only [hd,hi,hw,cond_true,obind_some,apOk_le (b:=8) (by decide) hb]
  simp) (fun a=>by simp)).1,foldI_map (fun x:den tHop=>x.1)]
 simp

theorem hasI_map (l:List (den tHop)) (k:Nat) (n:Int):hasI ((l.map (·.1)).take k) n= !((l.take k).all fun y=> !(y.1==n)):=by
 unfold hasI
 rw [← List.map_take,List.all_map]
 rfl

theorem s_validPt {t:den tTo} {p:den tPp} (ht:t.1.length≤68719476736) (ht2:t.2.length≤68719476736) (hl:p.2.2.2.length≤68719476736):s_ValidPart t p=some (validPt t p):=by
 unfold s_ValidPart validPt
 simp only [peta,s_realms hl,obind_some]
 have hR:(p.2.2.2.map (·.1)).length=p.2.2.2.length:=by simp
 rw [loopE (fun k (_:Unit)=>(p.2.2.2.map (·.1),(k:Int))) (p.2.2.2.map (·.1),(0:Int)) () p.2.2.2 (fun k x _=>if (hopP t p.2.2.2 k x&&lnkAt t p k x) then .inl () else .inr (.inr false)) (fun _ _=>True) (fun _=> .inl ()) rfl (by omega) trivial (fun k x a hi hx hd hw hk _=>by
  refine ⟨?_,fun _ _=>trivial⟩
  have hr:(p.2.2.2.map (·.1))[k]? =some x.1:=by rw [List.getElem?_map,hx];rfl
  have hs:slOk (0:Int) (k:Int) ((p.2.2.2.map (·.1)).length:Int)=true:=by rw [hR];exact slOk_take hk
  have hh:s_l9Has ((p.2.2.2.map (·.1)).take k) x.1=some (!((p.2.2.2.take k).all fun y=> !(y.1==x.1))):=by
   rw [s_hasI (by simp;omega),hasI_map]
  simp only [hd,cond_true,hi,idx_nat,hr,obind_some,s_validH,s_asOk ht,hs,cut_take,hh,hw]
  cases k with
  | zero=>
   rw [show decide (((0:Nat):Int)>0)=false from by decide]
   unfold hopP lnkAt
   cases validH x<;>cases asOk t x.1<;>cases (p.2.2.2.take 0).all (fun y=> !(y.1==x.1))<;>rfl
  | succ j=>
   have hw1:wr (((j+1:Nat):Int) - 1)=(j:Int):=(wri (by omega) (by omega)).trans (by omega)
   obtain ⟨y,hy⟩: ∃ y,p.2.2.2[j]? =some y:=⟨_,List.getElem?_eq_getElem (by omega)⟩
   have hr1:(p.2.2.2.map (·.1))[j]? =some y.1:=by rw [List.getElem?_map,hy];rfl
   rw [show decide (((j+1:Nat):Int)>0)=true from by simp]
   simp only [hw1,idx_nat,hr1,obind_some,s_pEg hy hl,s_pIn hx hl,s_remote ht2,cond_true,ne_beq]
   unfold hopP lnkAt lnkP
   rw [Nat.add_sub_cancel,hy,Option.getD_some]
   cases validH x<;>cases asOk t x.1<;>cases (p.2.2.2.take (j+1)).all (fun y=> !(y.1==x.1))<;>cases pEg p y==0<;>cases (remote t y.1 (pEg p y)).1==x.1<;>cases (remote t y.1 (pEg p y)).2==pIn p x<;>rfl) (fun a _=>by simp)]
 rw [forL_all (fun k x=>hopP t p.2.2.2 k x&&lnkAt t p k x)]
 have hsplit:(p.2.2.2.zipIdx 0).all (fun z=>hopP t p.2.2.2 z.2 z.1&&lnkAt t p z.2 z.1)=(hopsV t p.2.2.2&&(p.2.2.2.zipIdx 0).all fun z=>lnkAt t p z.2 z.1):=by
  unfold hopsV
  rw [Bool.eq_iff_iff]
  simp only [List.all_eq_true,Bool.and_eq_true]
  exact ⟨fun h=>⟨fun z hz=>(h z hz).1,fun z hz=>(h z hz).2⟩,fun h z hz=>⟨h.1 z hz,h.2 z hz⟩⟩
 rw [hsplit]
 simp only [s_in,s_resid,obind_some]
 cases inR (p.2.2.2.length:Int) 1 8<;>cases inR p.1 1 4<;>cases inR p.2.1 0 1000000<;>cases resid p.2.2.1<;>cases hopsV t p.2.2.2<;>cases (p.2.2.2.zipIdx 0).all (fun z=>lnkAt t p z.2 z.1)<;>rfl

def placeK (k:Int):Int:=cond (k==1) 1 (cond (k==2||k==3) 2 3)

theorem s_placeK (k:Int):s_l22Rank k=some (placeK k):=by
 unfold s_l22Rank placeK
 cases k==1<;>cases k==2<;>cases k==3<;>rfl

def pt0:den tPp:=(0,0,0,[])

def lastH (y:den tPp):den tHop:=(y.2.2.2[y.2.2.2.length - 1]?).getD h0

def headH (y:den tPp):den tHop:=(y.2.2.2[0]?).getD h0

def joinP (y x:den tPp):Bool:= !decide (placeK y.1≥placeK x.1)&&(lastH y).1==(headH x).1

def wfAt (t:den tTo) (p:den tPt) (k:Nat) (x:den tPp):Bool:=validPt t x&&(decide (k=0)||joinP ((p[k - 1]?).getD pt0) x)

def wfP (t:den tTo) (p:den tPt):Bool:=inR (p.length:Int) 1 3&&(p.zipIdx 0).all fun z=>wfAt t p z.2 z.1

theorem validPt_pos {t:den tTo} {p:den tPp} (h:validPt t p=true):0<p.2.2.2.length:=by
 unfold validPt at h
 rw [Bool.and_eq_true] at h
 have :=inR_iff.1 h.1
 omega

theorem last_idx {y:den tPp} (h:0<y.2.2.2.length) (hl:y.2.2.2.length≤68719476736):idx y.2.2.2 (wr ((y.2.2.2.length:Int) - 1))=some (lastH y):=by
 rw [wr_pos hl h,idx_nat]
 unfold lastH
 rw [List.getElem?_eq_getElem (show y.2.2.2.length - 1<y.2.2.2.length by omega)]
 rfl

theorem head_idx {y:den tPp} (h:0<y.2.2.2.length):idx y.2.2.2 (0:Int)=some (headH y):=by
 have :idx y.2.2.2 ((0:Nat):Int)=y.2.2.2[0]? :=idx_nat
 rw [show (0:Int)=((0:Nat):Int) from rfl,this]
 unfold headH
 rw [List.getElem?_eq_getElem h]
 rfl

theorem s_wfP {t:den tTo} {p:den tPt} (ht:t.1.length≤68719476736) (ht2:t.2.length≤68719476736) (h:SmB 68719476736 tPt p):s_WellFormedPath t p=some (wfP t p):=by
 have lp:=h.1
 have lh: ∀ (k:Nat) (x:den tPp),p[k]? =some x→x.2.2.2.length≤68719476736:=fun k x hx=>(h.2 x (List.mem_of_getElem? hx)).2.2.2.1
 unfold s_WellFormedPath wfP
 rw [loopE (fun k (_:Unit)=>(k:Int)) (0:Int) () p (fun k x _=>if wfAt t p k x then .inl () else .inr (.inr false)) (fun k _=> ∀ j y,j<k→p[j]? =some y→0<y.2.2.2.length) (fun _=> .inl ()) rfl (by omega) (fun j y hj=>absurd hj (Nat.not_lt_zero _)) (fun k x a hi hx hd hw hk hI=>by
  have hlx:=lh k x hx
  refine ⟨?_,fun a' ha j y hj hy=> ?_⟩
  ·simp only [hd,cond_true,hi,obind_some,peta,s_validPt ht ht2 hlx,hw]
   cases hv:validPt t x with
   | false=>unfold wfAt;rw [hv];rfl
   | true=>
    cases k with
    | zero=>
     rw [show decide (((0:Nat):Int)>0)=false from by decide]
     unfold wfAt;rw [hv];rfl
    | succ j=>
     have hw1:wr (((j+1:Nat):Int) - 1)=(j:Int):=(wri (by omega) (by omega)).trans (by omega)
     obtain ⟨y,hy⟩: ∃ y,p[j]? =some y:=⟨_,List.getElem?_eq_getElem (by omega)⟩
     rw [show decide (((j+1:Nat):Int)>0)=true from by simp]
     simp only [hw1,idx_nat,hy,obind_some,s_placeK,last_idx (hI j y (Nat.lt_succ_self j) hy) (lh j y hy),head_idx (validPt_pos hv),cond_true,ne_beq,Bool.not_true,cond_false]
     unfold wfAt joinP
     rw [Nat.add_sub_cancel,hy,Option.getD_some,hv]
     cases decide (placeK y.1≥placeK x.1)<;>cases (lastH y).1==(headH x).1<;>rfl
  ·rcases Nat.lt_succ_iff_lt_or_eq.1 hj with hj | rfl
   ·exact hI j y hj hy
   ·rw [hx] at hy
    injection hy with hy
    subst hy
    rcases Bool.eq_false_or_eq_true (wfAt t p j x) with hb | hb
    ·unfold wfAt at hb
     rw [Bool.and_eq_true] at hb
     exact validPt_pos hb.1
    ·simp [hb] at ha) (fun a _=>by simp)]
 rw [forL_all (wfAt t p),s_in,obind_some]
 cases inR (p.length:Int) 1 3<;>cases (p.zipIdx 0).all (fun z=>wfAt t p z.2 z.1)<;>rfl

def newAt (l:List Int) (k:Nat) (n:Int):Bool:= !hasI (l.take k) n

def simpleP (t:den tTo) (p:den tPt):Bool:=wfP t p&&((usedI p).zipIdx 0).all fun z=>newAt (usedI p) z.2 z.1

theorem path_sm {p:den tPt} (h:tot tPt p≤1073741824):SmB 68719476736 tPt p:=(sm_of_tot h).mono (by decide)

theorem s_simpleP {t:den tTo} {p:den tPt} (ht:t.1.length≤68719476736) (ht2:t.2.length≤68719476736) (h:tot tPt p≤1073741824):s_SimplePath t p=some (simpleP t p):=by
 have hu:=usedI_len p
 unfold s_SimplePath simpleP
 simp only [peta,s_wfP ht ht2 (path_sm h),s_usedI h,obind_some]
 rw [loopE (fun k (_:Unit)=>(usedI p,(k:Int))) (usedI p,(0:Int)) () (usedI p) (fun k x _=>if newAt (usedI p) k x then .inl () else .inr (.inr false)) (fun _ _=>True) (fun _=> .inl ()) rfl (by omega) trivial (fun k x a hi hx hd hw hk _=>by
  refine ⟨?_,fun _ _=>trivial⟩
  simp only [hd,cond_true,hi,obind_some,slOk_take hk,cut_take,hw,s_hasI (l:=(usedI p).take k) (n:=x) (by simp;omega)]
  unfold newAt
  cases hasI ((usedI p).take k) x<;>rfl) (fun a _=>by simp)]
 rw [forL_all (newAt (usedI p))]
 cases wfP t p<;>cases ((usedI p).zipIdx 0).all (fun z=>newAt (usedI p) z.2 z.1)<;>rfl


def Ans {α:Type} (o:Option α) (P:α→Prop):Prop:= ∃ y,o=some y∧P y

theorem loop_ans {S R:Type} {step:S→Option (S⊕R)} (I:Nat→S→Prop) (Q:R→Prop) (h: ∀ n s,I n s→(∃ r,step s=some (.inr r)∧Q r)∨ ∃ m s',m<n∧step s=some (.inl s')∧I m s') (n:Nat): ∀ s,I n s→Ans (loopM step s) Q:=by
 induction n using Nat.strongRecOn with
 | ind n ih=>
  intro s hs
  rcases h n s hs with ⟨r,h1,h2⟩ | ⟨m,s',h1,h2,h3⟩
  ·exact ⟨r,loopM_done h1,h2⟩
  ·obtain ⟨r,h4,h5⟩:=ih m h1 s' h3
   exact ⟨r,(loopM_next h2).trans h4,h5⟩

theorem loop_bind {S R T:Type} {step:S→Option (S⊕R)} (I:Nat→S→Prop) (Q:R→Prop) {k:R→Option T} {G:Option T→Prop} (h: ∀ n s,I n s→(∃ r,step s=some (.inr r)∧Q r)∨ ∃ m s',m<n∧step s=some (.inl s')∧I m s') (n:Nat) (s:S) (hs:I n s) (hk: ∀ r,Q r→G (k r)):G (Option.bind (loopM step s) k):=by
 obtain ⟨r,h1,h2⟩:=loop_ans I Q h n s hs
 rw [h1]
 exact hk r h2


theorem loop_up {S R T:Type} {step:S→Option (S⊕R)} (len:Nat) (pos:S→Int) (J:Nat→S→Prop) (Q:R→Prop) {k:R→Option T} {G:Option T→Prop}
  (h: ∀ (i:Nat) (s:S),i<len→pos s=(i:Int)→J i s→(∃ r,step s=some (.inr r)∧Q r)∨ ∃ s',step s=some (.inl s')∧pos s'=((i+1:Nat):Int)∧J (i+1) s')
  (he: ∀ s:S,pos s=(len:Int)→J len s→ ∃ r,step s=some (.inr r)∧Q r) (i0:Nat) (s0:S) (hi:i0≤len) (hp:pos s0=(i0:Int)) (hJ:J i0 s0) (hk: ∀ r,Q r→G (k r)):G (Option.bind (loopM step s0) k):=by
 refine loop_bind (fun n s=> ∃ i:Nat,pos s=(i:Int)∧i+n=len∧J i s) Q ?_ (len - i0) s0 ⟨i0,hp,by omega,hJ⟩ hk
 rintro n s ⟨i,h1,h2,h3⟩
 cases n with
 | zero=>
  have e:i=len:=by omega
  subst e
  exact .inl (he s h1 h3)
 | succ n=>
  rcases h i s (by omega) h1 h3 with h4 | ⟨s',h4,h5,h6⟩
  ·exact .inl h4
  ·exact .inr ⟨n,s',by omega,h4,i+1,h5,by omega,h6⟩

theorem wr_small {n:Int} (h0: -1000000000000≤n) (h1:n≤1000000000000):wr n=n:=wri (by omega) (by omega)

theorem wr_succ {n:Nat} (h:n≤1000000000):wr ((n:Int)+1)=((n+1:Nat):Int):=by rw [wr_small (by omega) (by omega)];omega

theorem bAnd_255 (a:Int):0≤bAnd .i64 a 255∧bAnd .i64 a 255≤255:=by
 have h:((BitVec.ofInt 64 a &&& BitVec.ofInt 64 255).toNat)≤255:=by
  rw [BitVec.toNat_and]
  exact Nat.le_trans Nat.and_le_right (by decide)
 have e:bAnd .i64 a 255=wr (((BitVec.ofInt 64 a &&& BitVec.ofInt 64 255).toNat:Nat):Int):=rfl
 rw [e,show wr (((BitVec.ofInt 64 a &&& BitVec.ofInt 64 255).toNat:Nat):Int)=_ from wri (by omega) (by omega)]
 omega


def Cur (code:List Int) (c:List Int×Int×Int):Prop:=c.1=code∧0≤c.2.1∧c.2.1≤(code.length:Int)

theorem byte_ans {code:List Int} (hl:code.length≤1048576) {c:List Int} {p h:Int} (hc:Cur code (c,p,h)): ∃ v c' p' h',s_l1Byte (c,p,h)=some (v,c',p',h')∧(0≤v∧v≤255)∧Cur code (c',p',h'):=by
 obtain ⟨h1,h2,h3⟩:=hc
 simp only at h1 h2 h3
 subst h1
 unfold s_l1Byte
 simp only [obind_some]
 by_cases hp:p<(c.length:Int)
 ·obtain ⟨m,rfl⟩:=Int.eq_ofNat_of_zero_le h2
  have hm:m<c.length:=by omega
  rw [decide_eq_true hp,cond_true,idx_nat,List.getElem?_eq_getElem hm]
  refine ⟨_,_,_,_,rfl,bAnd_255 _,rfl,?_,?_⟩
  ·show 0≤wr ((m:Int)+1);rw [show wr ((m:Int)+1)=(m:Int)+1 from wri (by omega) (by omega)];omega
  ·show wr ((m:Int)+1)≤_;rw [show wr ((m:Int)+1)=(m:Int)+1 from wri (by omega) (by omega)];omega
 ·rw [decide_eq_false hp,cond_false]
  exact ⟨_,_,_,_,rfl,bAnd_255 _,rfl,h2,h3⟩

theorem below_ans {code:List Int} (hl:code.length≤1048576) {n:Int} (h0:0<n) (h1:n≤256) {c:List Int} {p h:Int} (hc:Cur code (c,p,h)): ∃ v c' p' h',s_l1Below (c,p,h) n=some (v,c',p',h')∧(0≤v∧v<n)∧Cur code (c',p',h'):=by
 obtain ⟨v,c',p',h',hb,hv,hc'⟩:=byte_ans hl hc
 refine ⟨Int.tmod v n,c',p',h',?_,⟨Int.tmod_nonneg _ hv.1,Int.tmod_lt_of_pos _ h0⟩,hc'⟩
 unfold s_l1Below
 rw [decide_eq_false (by omega),cond_false,decide_eq_true h1,cond_true]
 simp only [hb,obind_some]
 rw [show (n==0)=false by rw [beq_eq_false_iff_ne];omega,cond_false]

theorem below_big {code:List Int} (hl:code.length≤1048576) {n:Int} (h1:256<n) {c:List Int} {p h:Int} (hc:Cur code (c,p,h)): ∃ v c' p' h',s_l1Below (c,p,h) n=some (v,c',p',h')∧(0≤v∧v<n)∧Cur code (c',p',h'):=by
 obtain ⟨v1,c1,p1,h1',e1,r1,k1⟩:=byte_ans hl hc
 obtain ⟨v2,c2,p2,h2',e2,r2,k2⟩:=byte_ans hl k1
 obtain ⟨v3,c3,p3,h3',e3,r3,k3⟩:=byte_ans hl k2
 have w1:wr (v1 * 65536)=v1 * 65536:=wr_small (by omega) (by omega)
 have w2:wr (v2 * 256)=v2 * 256:=wr_small (by omega) (by omega)
 have w3:wr (v1 * 65536+v2 * 256)=v1 * 65536+v2 * 256:=wr_small (by omega) (by omega)
 have w4:wr (v1 * 65536+v2 * 256+v3)=v1 * 65536+v2 * 256+v3:=wr_small (by omega) (by omega)
 refine ⟨Int.tmod (v1 * 65536+v2 * 256+v3) n,c3,p3,h3',?_,⟨Int.tmod_nonneg _ (by omega),Int.tmod_lt_of_pos _ (by omega)⟩,k3⟩
 unfold s_l1Below
 rw [decide_eq_false (by omega),cond_false,decide_eq_false (by omega),cond_false]
 simp only [e1,e2,e3,obind_some,w1,w2,w3,w4]
 rw [show (n==0)=false by rw [beq_eq_false_iff_ne];omega,cond_false]

theorem int_ans {code:List Int} (hl:code.length≤1048576) {l:List Int} (h0:0<l.length) (h1:l.length≤256) {c:List Int} {p h:Int} (hc:Cur code (c,p,h)): ∃ v c' p' h',s_l1Int (c,p,h) l=some (v,c',p',h')∧v∈l∧Cur code (c',p',h'):=by
 obtain ⟨v,c',p',h',hb,hv,hc'⟩:=below_ans hl (n:=(l.length:Int)) (by omega) (by omega) hc
 obtain ⟨m,rfl⟩:=Int.eq_ofNat_of_zero_le hv.1
 have hm:m<l.length:=by omega
 refine ⟨l[m],c',p',h',?_,List.getElem_mem hm,hc'⟩
 unfold s_l1Int
 simp only [hb,obind_some,idx_nat,List.getElem?_eq_getElem hm]

theorem once_ans {code:List Int} (hl:code.length≤1048576) {n:Int} (h0:0<n) (h1:n≤256) {c:List Int} {p h:Int} (hc:Cur code (c,p,h)): ∃ b c' p' h',s_l1Once (c,p,h) n=some (b,c',p',h')∧Cur code (c',p',h'):=by
 obtain ⟨v,c',p',h',hb,hv,hc'⟩:=below_ans hl h0 h1 hc
 refine ⟨v==0,c',p',h',?_,hc'⟩
 unfold s_l1Once
 simp only [hb,obind_some]

theorem new_ans {code:List Int} (hl:code.length≤1048576): ∃ c p h,s_l1New code=some (c,p,h)∧Cur code (c,p,h):=by
 unfold s_l1New
 refine loop_bind (G:=fun o=> ∃ c p h,o=some (c,p,h)∧Cur code (c,p,h)) (fun n s=> ∃ k:Nat,s.2=(k:Int)∧k+n=code.length) (fun _=>True) ?_ code.length _ ⟨0,rfl,by omega⟩ ?_
 ·rintro n ⟨a,b⟩ ⟨k,hk,hn⟩
  simp only at hk
  subst hk
  by_cases h1:(k:Int)<(code.length:Int)
  ·by_cases h2:(k:Int)<4000
   ·right
    have hk:k<code.length:=by omega
    refine ⟨n - 1,(bAnd .i64 (wr ((wr ((wr (a * (137:Int)))+(wr code[k])))+(11:Int))) (1073741823:Int),((k+1:Nat):Int)),by omega,?_,k+1,rfl,by omega⟩
    simp only [decide_eq_true h1,decide_eq_true h2,cond_true,obind_some,idx_nat,List.getElem?_eq_getElem hk]
    rw [show wr ((k:Int)+1)=((k+1:Nat):Int) from by rw [show wr ((k:Int)+1)=(k:Int)+1 from wri (by omega) (by omega)];omega]
   ·left
    refine ⟨a,?_,trivial⟩
    simp only [decide_eq_true h1,decide_eq_false h2,cond_true,cond_false,obind_some]
  ·left
   refine ⟨a,?_,trivial⟩
   simp only [decide_eq_false h1,cond_false,obind_some]
 ·intro r _
  exact ⟨_,_,_,rfl,rfl,Int.le_refl 0,by show (0:Int)≤_;omega⟩

theorem mem_insI {l:List Int} {n x:Int} (h:x∈insI l n):x=n∨x∈l:=by
 unfold insI at h
 split at h
 ·exact .inr h
 ·simp only [List.mem_append,List.mem_singleton] at h
  rcases h with (h | h) | h
  ·exact .inr (List.mem_of_mem_take h)
  ·exact .inl h
  ·exact .inr (List.mem_of_mem_drop h)

theorem mem_doorS {r d:Int} {x:den tLk} {a:List Int} (h:d∈doorS r x a):endsL x r d=true∨d∈a:=by
 unfold doorS at h
 unfold endsL
 cases c1:x.1==r<;>cases c2:x.2.2.1==r<;>rw [c1,c2] at h<;>simp only [cond_true,cond_false] at h
 ·exact .inr h
 ·rcases mem_insI h with e | h
  ·left;simp [e]
  ·exact .inr h
 ·rcases mem_insI h with e | h
  ·left;simp [e]
  ·exact .inr h
 ·rcases mem_insI h with e | h
  ·left;simp [e]
  ·rcases mem_insI h with e | h
   ·left;simp [e]
   ·exact .inr h

theorem mem_doors {t:den tTo} {r d:Int} (h:d∈doors t r): ∃ x∈t.2,endsL x r d=true:=by
 have : ∀ (l:List (den tLk)) (k:Nat) (a:List Int),d∈foldI (fun _ x a=>doorS r x a) k l a→(∃ x∈l,endsL x r d=true)∨d∈a:=by
  intro l
  induction l with
  | nil=>intro k a h;exact .inr h
  | cons x l ih=>
   intro k a h
   rcases ih (k+1) (doorS r x a) h with ⟨y,hy,e⟩ | h
   ·exact .inl ⟨y,List.mem_cons_of_mem _ hy,e⟩
   ·rcases mem_doorS h with e | h
    ·exact .inl ⟨x,by simp,e⟩
    ·exact .inr h
 rcases this t.2 0 [] h with h | h
 ·exact h
 ·cases h

theorem linkIx_found {t:den tTo} {r d:Int} (h: ∃ x∈t.2,endsL x r d=true): ∃ (j:Nat) (x:den tLk),linkIx t r d=(j:Int)∧t.2[j]? =some x∧endsL x r d=true:=by
 rcases linkIx_at t r d with e | h
 ·exfalso
  have : ∀ (l:List (den tLk)) (k:Nat),(∃ x∈l,endsL x r d=true)→ ∃ i,scanI (fun k x=>if endsL x r d then some ((k:Nat):Int) else none) k l=some i∧0≤i:=by
   intro l
   induction l with
   | nil=>rintro k ⟨x,hx,_⟩;cases hx
   | cons y l ih=>
    rintro k ⟨x,hx,hxe⟩
    cases c:endsL y r d with
    | true=>exact ⟨(k:Int),by simp [scanI,c],by omega⟩
    | false=>
     rcases List.mem_cons.1 hx with rfl | hx
     ·rw [c] at hxe;cases hxe
     ·obtain ⟨i,h1,h2⟩:=ih (k+1) ⟨x,hx,hxe⟩
      exact ⟨i,by simp only [scanI,c];exact h1,h2⟩
  obtain ⟨i,h1,h2⟩:=this t.2 0 h
  unfold linkIx at e
  rw [h1] at e
  have e:i= -1:=e
  omega
 ·exact h


theorem remote_as {t:den tTo} (hv: ∀ x∈t.2,linkV t x=true) {r d:Int} (h:d∈doors t r):asOk t (remote t r d).1=true:=by
 obtain ⟨j,x,e,hx,he⟩:=linkIx_found (mem_doors h)
 have hl:=hv x (List.mem_of_getElem? hx)
 unfold remote
 rw [e,if_neg (by omega),Int.toNat_natCast,hx]
 unfold linkV at hl
 simp only [Bool.and_eq_true] at hl
 unfold farE
 simp only [Option.getD_some]
 cases x.1==r&&x.2.1==d with
 | true=>exact hl.2.1
 | false=>exact hl.1

theorem kinds_ans {t:den tTo} {r k:Int} (h:t.2.length≤1000000): ∃ l,s_InterfacesOfKind t r k=some l∧l.length≤2 * t.2.length∧ ∀ d∈l,d∈doors t r:=by
 have hd:=doors_len t r
 unfold s_InterfacesOfKind
 rw [show ((t.1,t.2):den tTo)=t from rfl,s_doors (t:=t) (by omega),obind_some]
 refine loop_up (G:=fun o=> ∃ l,o=some l∧l.length≤2 * t.2.length∧ ∀ d∈l,d∈doors t r) (doors t r).length (fun s:Int×List Int=>s.1) (fun i s=>s.2.length≤i∧ ∀ d∈s.2,d∈doors t r) (fun l:List Int=>l.length≤2 * t.2.length∧ ∀ d∈l,d∈doors t r) ?_ ?_ 0 ((0:Int),[]) (by omega) rfl ⟨by simp,fun d hd=>(List.not_mem_nil hd).elim⟩ (fun l hl=>⟨l,rfl,hl⟩)
 ·rintro i ⟨_,l⟩ hi rfl ⟨h1,h2⟩
  right
  simp only at h1 h2
  simp only [decide_eq_true (show (i:Int)<((doors t r).length:Int) by omega),decide_eq_true (show (0:Int)≤(i:Int) by omega),cond_true,Int.toNat_natCast,List.getElem?_eq_getElem hi,obind_some,s_kindI (t:=t) (show t.2.length≤68719476736 by omega),wr_succ (show i≤1000000000 by omega)]
  rw [apOk_le (b:=8) (n:=l.length) (m:=1) (by decide) (by omega),cond_true]
  cases kindI t r (doors t r)[i]==k with
  | true=>exact ⟨_,rfl,rfl,by simp;omega,fun d hd=>by
    rcases List.mem_append.1 hd with hd | hd
    ·exact h2 d hd
    ·rw [List.mem_singleton.1 hd];exact List.getElem_mem hi⟩
  | false=>exact ⟨_,rfl,rfl,by show l.length≤i+1;omega,h2⟩
 ·rintro ⟨_,l⟩ rfl ⟨h1,h2⟩
  exact ⟨l,by simp only [decide_eq_false (Int.lt_irrefl _),cond_false],by simp only at h1;omega,h2⟩

theorem add_ans {t:den tTo} {a b k:Int} (h:t.2.length≤1000000): ∃ ls,s_l5Add t a b k=some (t.1,ls)∧ls.length≤t.2.length+1:=by
 unfold s_l5Add
 rw [show ((t.1,t.2):den tTo)=t from rfl,s_doors (t:=t) (by omega),s_doors (t:=t) (by omega),obind_some,obind_some,apOk_le (b:=40) (n:=t.2.length) (m:=1) (by decide) (by omega)]
 cases decide (wr (((doors t a).length:Int)+1)≤6) with
 | false=>exact ⟨t.2,rfl,by omega⟩
 | true=>
  cases decide (wr (((doors t b).length:Int)+1)≤6) with
  | false=>exact ⟨t.2,rfl,by omega⟩
  | true=>exact ⟨_,rfl,by simp⟩


structure TopD (as:List (den tAS)) (ls:List (den tLk)):Prop where
 pos:1≤as.length
 len:as.length≤8
 links:ls.length≤100
 val: ∀ x∈ls,linkV (as,ls) x=true

def TopP (code:List Int) (o:Option (List (den tAS)×List (den tLk)×List Int×Int×Int)):Prop:= ∃ as ls c' p' h',o=some (as,ls,c',p',h')∧TopD as ls∧Cur code (c',p',h')

def T3I (code:List Int) (n:Nat) (i:Nat) (s:Int×List (den tAS)×List (den tLk)×List Int×Int×Int):Prop:=s.2.1.length=n∧s.2.2.1.length≤10 * i∧Cur code s.2.2.2

theorem top_ans {code:List Int} (hl:code.length≤1048576) {c:List Int} {p h:Int} (hc:Cur code (c,p,h)):TopP code (s_l5Draw (c,p,h)):=by
 obtain ⟨v1,c1,p1,h1,e1,r1,k1⟩:=below_ans hl (n:=3) (by decide) (by decide) hc
 obtain ⟨v2,c2,p2,h2,e2,r2,k2⟩:=below_ans hl (n:=6) (by decide) (by decide) k1
 obtain ⟨m1,rfl⟩:=Int.eq_ofNat_of_zero_le r1.1
 obtain ⟨m2,rfl⟩:=Int.eq_ofNat_of_zero_le r2.1
 have w1:wr ((1:Int)+(m1:Int))=((m1+1:Nat):Int):=by rw [wr_small (by omega) (by omega)];omega
 have w2:wr (((m1+1:Nat):Int)+(m2:Int))=((m1+1+m2:Nat):Int):=by rw [wr_small (by omega) (by omega)];omega
 unfold s_l5Draw
 simp only [e1,e2,obind_some,both_self,dup_self,dup3_self,dup4_self,dup5_self,w1,w2]
 generalize hco:m1+1=co at *
 generalize hn:co+m2=n at *
 have hco1:1≤co:=by omega
 have hcn:co≤n:=by omega
 have hn8:n≤8:=by omega
 refine loop_up (G:=TopP code) n (fun s:Int×List (den tAS)×List Int×Int×Int=>s.1) (fun i s=>s.2.1.length=i∧Cur code s.2.2) (fun r:List (den tAS)×List Int×Int×Int=>r.1.length=n∧Cur code r.2) ?_ ?_ 0 ((0:Int),[],c2,p2,h2) (by omega) rfl ⟨rfl,k2⟩ ?_
 ·rintro i ⟨_,as,c3,p3,h3⟩ hi rfl ⟨a1,a2⟩
  simp only at a1 a2
  right
  obtain ⟨v4,c4,p4,h4,e4,r4,k4⟩:=below_ans hl (n:=2) (by decide) (by decide) a2
  obtain ⟨v5,c5,p5,h5,e5,r5,k5⟩:=below_big hl (n:=1000000) (by decide) k4
  refine ⟨(((i+1:Nat):Int),as++[(v4,decide ((i:Int)<((co:Nat):Int)),wr ((wr ((1:Int)+(wr (v5 * (8:Int)))))+(i:Int)))],c5,p5,h5),?_,rfl,by simp [a1],k5⟩
  simp only [decide_eq_true (show (i:Int)<(n:Int) by omega),cond_true,e4,e5,obind_some,apOk_le (b:=24) (n:=as.length) (m:=1) (by decide) (by omega),wr_succ (show i≤1000000000 by omega)]
 ·rintro ⟨_,as,c3,p3,h3⟩ rfl ⟨a1,a2⟩
  exact ⟨(as,c3,p3,h3),by simp only [decide_eq_false (Int.lt_irrefl _),cond_false],a1,a2⟩
 rintro ⟨as,c3,p3,h3⟩ ⟨a1,a2⟩
 simp only at a1 a2
 refine loop_up (G:=TopP code) co (fun s:Int×List (den tAS)×List (den tLk)×List Int×Int×Int=>s.1) (fun i s=>1≤i∧T3I code n i s) (fun r:List (den tAS)×List (den tLk)×List Int×Int×Int=>r.1.length=n∧r.2.1.length≤10 * co∧Cur code r.2.2) ?_ ?_ 1 ((1:Int),as,[],c3,p3,h3) hco1 rfl ⟨Nat.le_refl 1,a1,by simp,a2⟩ ?_
 ·rintro i ⟨_,as,ls,c4,p4,h4⟩ hi rfl ⟨b0,b1,b2,b3⟩
  simp only at b1 b2 b3
  right
  obtain ⟨v5,c5,p5,h5,e5,r5,k5⟩:=below_ans hl (n:=(i:Int)) (by omega) (by omega) b3
  obtain ⟨l6,e6,r6⟩:=add_ans (t:=(as,ls)) (a:=v5) (b:=(i:Int)) (k:=1) (by show ls.length≤_;omega)
  obtain ⟨v7,c7,p7,h7,e7,k7⟩:=once_ans hl (n:=2) (by decide) (by decide) k5
  simp only at e6 r6
  cases v7 with
  | false=>
   refine ⟨(((i+1:Nat):Int),as,l6,c7,p7,h7),?_,rfl,by omega,b1,by simp only;omega,k7⟩
   simp only [decide_eq_true (show (i:Int)<(co:Int) by omega),cond_true,cond_false,e5,e6,e7,obind_some,wr_succ (show i≤1000000000 by omega)]
  | true=>
   obtain ⟨v8,c8,p8,h8,e8,r8,k8⟩:=below_ans hl (n:=(i:Int)) (by omega) (by omega) k7
   obtain ⟨l9,e9,r9⟩:=add_ans (t:=(as,l6)) (a:=v8) (b:=(i:Int)) (k:=1) (by show l6.length≤_;omega)
   simp only at e9 r9
   refine ⟨(((i+1:Nat):Int),as,l9,c8,p8,h8),?_,rfl,by omega,b1,by simp only;omega,k8⟩
   simp only [decide_eq_true (show (i:Int)<(co:Int) by omega),cond_true,e5,e6,e7,e8,e9,obind_some,wr_succ (show i≤1000000000 by omega)]
 ·rintro ⟨_,as,ls,c4,p4,h4⟩ rfl ⟨b0,b1,b2,b3⟩
  exact ⟨(as,ls,c4,p4,h4),by simp only [decide_eq_false (Int.lt_irrefl _),cond_false],b1,b2,b3⟩
 rintro ⟨as,ls,c4,p4,h4⟩ ⟨b1,b2,b3⟩
 simp only at b1 b2 b3
 refine loop_up (G:=TopP code) n (fun s:Int×List (den tAS)×List (den tLk)×List Int×Int×Int=>s.1) (fun i s=>1≤i∧co≤i∧T3I code n i s) (fun r:List (den tAS)×List (den tLk)×List Int×Int×Int=>r.1.length=n∧r.2.1.length≤10 * n∧Cur code r.2.2) ?_ ?_ co (((co:Nat):Int),as,ls,c4,p4,h4) hcn rfl ⟨hco1,Nat.le_refl co,b1,b2,b3⟩ ?_
 ·rintro i ⟨_,as,ls,c5,p5,h5⟩ hi rfl ⟨d0,d1,d2,d3,d4⟩
  simp only at d2 d3 d4
  right
  have hlen:(as.length:Int)=(n:Int):=by omega
  obtain ⟨v6,c6,p6,h6,e6,r6,k6⟩:=below_ans hl (n:=2) (by decide) (by decide) d4
  obtain ⟨m6,rfl⟩:=Int.eq_ofNat_of_zero_le r6.1
  have w6:wr ((1:Int)+(m6:Int))=((m6+1:Nat):Int):=by rw [wr_small (by omega) (by omega)];omega
  simp only [hlen,decide_eq_true (show (i:Int)<(n:Int) by omega),cond_true,e6,w6,obind_some,Option.bind_assoc]
  refine loop_bind (G:=fun o=> ∃ s',o=some (Sum.inl s')∧s'.1=((i+1:Nat):Int)∧1≤i+1∧co≤i+1∧T3I code n (i+1) s') (fun (m:Nat) (s:Int×List (den tAS)×List (den tLk)×List Int×Int×Int)=>s.1=(m:Int)∧m≤2∧s.2.1.length=n∧s.2.2.1.length+m≤10 * i+2∧Cur code s.2.2.2) (fun r:List (den tAS)×List (den tLk)×List Int×Int×Int=>r.1.length=n∧r.2.1.length≤10 * i+2∧Cur code r.2.2) ?_ (m6+1) (((m6+1:Nat):Int),as,ls,c6,p6,h6) ⟨rfl,by omega,d2,by simp only;omega,k6⟩ ?_
  ·rintro m ⟨_,as,ls,c7,p7,h7⟩ ⟨rfl,f1,f2,f3,f4⟩
   simp only at f2 f3 f4
   cases m with
   | zero=>exact .inl ⟨(as,ls,c7,p7,h7),rfl,f2,by simpa using f3,f4⟩
   | succ m=>
    right
    obtain ⟨v8,c8,p8,h8,e8,r8,k8⟩:=below_ans hl (n:=(i:Int)) (by omega) (by omega) f4
    obtain ⟨q8,rfl⟩:=Int.eq_ofNat_of_zero_le r8.1
    obtain ⟨v9,c9,p9,h9,e9,k9⟩:=once_ans hl (n:=5) (by decide) (by decide) k8
    have hq:q8<n:=by omega
    have hlen:(as.length:Int)=(n:Int):=by omega
    have hq1:as[q8]? =some (as[q8]'(by omega)):=List.getElem?_eq_getElem (by omega)
    have hi1:as[i]? =some (as[i]'(by omega)):=List.getElem?_eq_getElem (by omega)
    have wm:wr (((m+1:Nat):Int) - 1)=(m:Int):=by rw [wr_small (by omega) (by omega)];omega
    have fin: ∀ (as':List (den tAS)) (c p h:_),as'.length=n→Cur code (c,p,h)→ ∃ s',(Option.bind (cond (decide ((0:Int)≤(q8:Int))) (cond (decide ((q8:Int)<(as'.length:Int))) (Option.bind as'[((q8:Nat):Int).toNat]? fun x79=>cond (decide ((0:Int)≤(i:Int))) (cond (decide ((i:Int)<(as'.length:Int))) (Option.bind as'[((i:Nat):Int).toNat]? fun x80=>cond (x79.1==x80.1) (Option.bind (s_l5Add (as',ls) (q8:Int) (i:Int) (2:Int)) fun y81=>some (y81.1,y81.2,c,p,h)) (some (as',ls,c,p,h))) none) none) none) none) fun (s82:List (den tAS)×List (den tLk)×List Int×Int×Int)=>some (Sum.inl (wr (((m+1:Nat):Int) - (1:Int)),s82.1,s82.2.1,s82.2.2.1,s82.2.2.2.1,s82.2.2.2.2)):Option ((Int×List (den tAS)×List (den tLk)×List Int×Int×Int)⊕(List (den tAS)×List (den tLk)×List Int×Int×Int)))=some (Sum.inl s')∧s'.1=(m:Int)∧m≤2∧s'.2.1.length=n∧s'.2.2.1.length+m≤10 * i+2∧Cur code s'.2.2.2:=by
     intro as' c p h g1 g2
     have hl':(as'.length:Int)=(n:Int):=by omega
     have hq1:as'[q8]? =some (as'[q8]'(by omega)):=List.getElem?_eq_getElem (by omega)
     have hi1:as'[i]? =some (as'[i]'(by omega)):=List.getElem?_eq_getElem (by omega)
     simp only [hl',decide_eq_true (show (0:Int)≤(q8:Int) by omega),decide_eq_true (show (q8:Int)<(n:Int) by omega),decide_eq_true (show (0:Int)≤(i:Int) by omega),decide_eq_true (show (i:Int)<(n:Int) by omega),cond_true,Int.toNat_natCast,hq1,hi1,obind_some,wm]
     obtain ⟨l6,e6,r6⟩:=add_ans (t:=(as',ls)) (a:=(q8:Int)) (b:=(i:Int)) (k:=2) (by show ls.length≤_;omega)
     simp only at e6 r6
     cases (as'[q8]'(by omega)).1==(as'[i]'(by omega)).1 with
     | true=>exact ⟨_,by simp only [cond_true,e6,obind_some];rfl,rfl,by omega,g1,by simp only;omega,g2⟩
     | false=>exact ⟨_,by simp only [cond_false,obind_some];rfl,rfl,by omega,g1,by simp only;omega,g2⟩
    cases v9 with
    | true=>
     obtain ⟨s',g1,g2⟩:=fin as c9 p9 h9 f2 k9
     refine ⟨m,s',by omega,?_,g2⟩
     rw [← g1]
     simp only [decide_eq_true (show ((m+1:Nat):Int)>0 by omega),cond_true,cond_false,e8,e9,obind_some,Bool.not_true]
    | false=>
     obtain ⟨s',g1,g2⟩:=fin (as.set i ((as[q8]'(by omega)).1,(as[i]'(by omega)).2.1,(as[i]'(by omega)).2.2)) c9 p9 h9 (by simp [f2]) k9
     refine ⟨m,s',by omega,?_,g2⟩
     rw [← g1]
     simp only [decide_eq_true (show ((m+1:Nat):Int)>0 by omega),cond_true,e8,e9,obind_some,Bool.not_false,hlen,decide_eq_true (show (0:Int)≤(q8:Int) by omega),decide_eq_true (show (q8:Int)<(n:Int) by omega),decide_eq_true (show (0:Int)≤(i:Int) by omega),decide_eq_true (show (i:Int)<(n:Int) by omega),Int.toNat_natCast,hq1,hi1]
  ·rintro ⟨as,ls,c7,p7,h7⟩ ⟨f1,f2,f3⟩
   simp only at f1 f2 f3
   have w7:wr (wr ((i:Int) - (co:Int))+1)=((i - co+1:Nat):Int):=by rw [wr_small (n:=(i:Int) - (co:Int)) (by omega) (by omega),wr_small (by omega) (by omega)];omega
   obtain ⟨v8,c8,p8,h8,e8,r8,k8⟩:=below_ans hl (n:=((i - co+1:Nat):Int)) (by omega) (by omega) f3
   obtain ⟨v9,c9,p9,h9,e9,k9⟩:=once_ans hl (n:=3) (by decide) (by decide) k8
   obtain ⟨l6,e6,r6⟩:=add_ans (t:=(as,ls)) (a:=wr ((co:Int)+v8)) (b:=(i:Int)) (k:=3) (by show ls.length≤_;omega)
   simp only at e6 r6
   simp only [w7,e8,obind_some,wr_succ (show i≤1000000000 by omega)]
   cases decide (wr ((co:Int)+v8)<(i:Int)) with
   | false=>exact ⟨_,by simp only [cond_false,obind_some];rfl,rfl,by omega,by omega,f1,by simp only;omega,k8⟩
   | true=>
    cases v9 with
    | false=>exact ⟨_,by simp only [cond_true,cond_false,e9,obind_some];rfl,rfl,by omega,by omega,f1,by simp only;omega,k9⟩
    | true=>exact ⟨_,by simp only [cond_true,e9,e6,obind_some];rfl,rfl,by omega,by omega,f1,by simp only;omega,k9⟩
 ·rintro ⟨_,as,ls,c5,p5,h5⟩ rfl ⟨d0,d1,d2,d3,d4⟩
  simp only at d2 d3 d4
  exact ⟨(as,ls,c5,p5,h5),by simp only [d2,decide_eq_false (Int.lt_irrefl _),cond_false],d2,d3,d4⟩
 rintro ⟨as,ls,c5,p5,h5⟩ ⟨d2,d3,d4⟩
 simp only at d2 d3 d4
 refine loop_up (G:=TopP code) ls.length (fun s:Int×List (den tLk)=>s.1) (fun i s=>s.2.length≤i∧ ∀ x∈s.2,linkV (as,ls) x=true) (fun r:List (den tLk)=>r.length≤ls.length∧ ∀ x∈r,linkV (as,ls) x=true) ?_ ?_ 0 ((0:Int),[]) (by omega) rfl ⟨by simp,fun d hd=>(List.not_mem_nil hd).elim⟩ ?_
 ·rintro i ⟨_,l⟩ hi rfl ⟨g1,g2⟩
  simp only at g1 g2
  right
  simp only [decide_eq_true (show (i:Int)<(ls.length:Int) by omega),decide_eq_true (show (0:Int)≤(i:Int) by omega),cond_true,Int.toNat_natCast,List.getElem?_eq_getElem hi,obind_some,s_linkV (t:=(as,ls)) (show as.length≤68719476736 by omega),wr_succ (show i≤1000000000 by omega)]
  rw [apOk_le (b:=40) (n:=l.length) (m:=1) (by decide) (by omega),cond_true]
  cases hv:linkV (as,ls) ls[i] with
  | true=>exact ⟨_,rfl,rfl,by simp;omega,fun x hx=>by
    rcases List.mem_append.1 hx with hx | hx
    ·exact g2 x hx
    ·rw [List.mem_singleton.1 hx];exact hv⟩
  | false=>exact ⟨_,rfl,rfl,by show l.length≤i+1;omega,g2⟩
 ·rintro ⟨_,l⟩ rfl ⟨g1,g2⟩
  exact ⟨l,by simp only [decide_eq_false (Int.lt_irrefl _),cond_false],g1,g2⟩
 rintro l ⟨g1,g2⟩
 exact ⟨as,l,c5,p5,h5,rfl,⟨by omega,by omega,by omega,g2⟩,d4⟩

theorem segA_ans {s:den tSg} (h:s.2.2.length≤1000000): ∃ l,s_SegmentASes s=some l∧l.length=s.2.2.length:=by
 unfold s_SegmentASes
 refine loop_up (G:=fun o=> ∃ l,o=some l∧l.length=s.2.2.length) s.2.2.length (fun s:Int×List Int=>s.1) (fun i t=>t.2.length=i) (fun l:List Int=>l.length=s.2.2.length) ?_ ?_ 0 ((0:Int),[]) (by omega) rfl rfl (fun l hl=>⟨l,rfl,hl⟩)
 ·rintro i ⟨_,l⟩ hi rfl h1
  simp only at h1
  right
  refine ⟨(((i+1:Nat):Int),l++[s.2.2[i].1]),?_,rfl,by simp [h1]⟩
  simp only [decide_eq_true (show (i:Int)<(s.2.2.length:Int) by omega),cond_true,idx_nat,List.getElem?_eq_getElem hi,obind_some,apOk_le (b:=8) (n:=l.length) (m:=1) (by decide) (by omega),wr_succ (show i≤1000000000 by omega)]
 ·rintro ⟨_,l⟩ rfl h1
  exact ⟨l,by simp only [decide_eq_false (Int.lt_irrefl _),cond_false],h1⟩

theorem seals_ans {s:den tSg} {n:Nat} (hn:n≤s.2.2.length) (h:s.2.2.length≤1000000): ∃ l,s_l9Seals s (n:Int)=some l∧l.length=n:=by
 unfold s_l9Seals
 refine loop_up (G:=fun o=> ∃ l,o=some l∧l.length=n) n (fun s:Int×List Int=>s.1) (fun i t=>t.2.length=i) (fun l:List Int=>l.length=n) ?_ ?_ 0 ((0:Int),[]) (by omega) rfl rfl (fun l hl=>⟨l,rfl,hl⟩)
 ·rintro i ⟨_,l⟩ hi rfl h1
  simp only at h1
  right
  have hi':i<s.2.2.length:=by omega
  refine ⟨(((i+1:Nat):Int),l++[s.2.2[i].2.2.2.2]),?_,rfl,by simp [h1]⟩
  simp only [decide_eq_true (show (i:Int)<(n:Int) by omega),cond_true,idx_nat,List.getElem?_eq_getElem hi',obind_some,apOk_le (b:=8) (n:=l.length) (m:=1) (by decide) (by omega),wr_succ (show i≤1000000000 by omega)]
 ·rintro ⟨_,l⟩ rfl h1
  exact ⟨l,by simp only [decide_eq_false (Int.lt_irrefl _),cond_false],h1⟩

theorem chain_ans {b:Int} {l:List Int} (h:l.length≤1000000): ∃ v,s_ChainAdd b l=some v:=by
 unfold s_ChainAdd
 refine loop_up (G:=fun o=> ∃ v,o=some v) l.length (fun s:Int×Int=>s.2) (fun i t=>True) (fun v:Int=>True) ?_ ?_ 0 (b,(0:Int)) (by omega) rfl trivial (fun v hv=>⟨v,rfl⟩)
 ·rintro i ⟨v,_⟩ hi rfl _
  right
  refine ⟨(addM v l[i],((i+1:Nat):Int)),?_,rfl,trivial⟩
  simp only [decide_eq_true (show (i:Int)<(l.length:Int) by omega),cond_true,idx_nat,List.getElem?_eq_getElem hi,obind_some,s_addM,wr_succ (show i≤1000000000 by omega)]
 ·rintro ⟨v,_⟩ rfl _
  exact ⟨v,by simp only [decide_eq_false (Int.lt_irrefl _),cond_false],trivial⟩

theorem beta_ans {s:den tSg} (i:Int) (h:s.2.2.length≤1000000): ∃ v,s_BetaAt s i=some v:=by
 unfold s_BetaAt
 rw [s_in,obind_some]
 cases hc:inR i 0 (s.2.2.length:Int) with
 | false=>exact ⟨0,rfl⟩
 | true=>
  obtain ⟨h0,h1⟩:=inR_iff.1 hc
  obtain ⟨n,rfl⟩:=Int.eq_ofNat_of_zero_le h0
  obtain ⟨l,e,k⟩:=seals_ans (s:=s) (n:=n) (by omega) h
  obtain ⟨v,e2⟩:=chain_ans (b:=s.2.1) (l:=l) (by omega)
  refine ⟨v,?_⟩
  show Option.bind (s_l9Seals s (n:Int)) _=_
  rw [e,obind_some,e2,obind_some]

theorem auth_s (key ts b:Int) (h:den tHop):s_AuthenticateHop key ts b h=some (h.1,h.2.1,h.2.2.1,h.2.2.2.1,macH key ts b h):=by
 unfold s_AuthenticateHop
 rw [show ((h.1,h.2.1,h.2.2.1,h.2.2.2.1,h.2.2.2.2):den tHop)=h from rfl,s_macH,obind_some]


def InAS (hs:List (den tHop)):Prop:= ∀ x∈hs,(0:Int)≤x.1∧(8:Int)>x.1

def SegQ (code:List Int) (o:Option (Int×Int×List (den tHop)×List Int×Int×Int)):Prop:= ∃ a b hs c' p' h',o=some (a,b,hs,c',p',h')∧(hs.length≤5∧InAS hs)∧Cur code (c',p',h')

theorem InAS.snoc {hs:List (den tHop)} {x:den tHop} (h:InAS hs) (hx:(0:Int)≤x.1∧(8:Int)>x.1):InAS (hs++[x]):=fun y hy=>(List.mem_append.1 hy).elim (h y) fun hy=>by rw [List.mem_singleton.1 hy];exact hx

abbrev GrS:=Int×Int×Int×Int×Int×List (den tHop)×List Int×Int×Int

theorem grow_as {code:List Int} (hl:code.length≤1048576) {as:List (den tAS)} {ls:List (den tLk)} (ht:TopD as ls) (k:Int) {c:List Int} {p h:Int} (hc:Cur code (c,p,h)):SegQ code (s_l9Grow (c,p,h) (as,ls) k):=by
 have hlen:=ht.len
 have hlk:=ht.links
 unfold s_l9Grow
 simp only [both_self,dup_self,dup3_self,dup4_self,dup5_self]
 refine loop_up (G:=SegQ code) as.length (fun s:Int×List Int=>s.1) (fun i t=>t.2.length≤i∧ ∀ x∈t.2,0≤x∧x<(as.length:Int)) (fun r:List Int=>r.length≤8∧ ∀ x∈r,0≤x∧x<(as.length:Int)) ?_ ?_ 0 ((0:Int),[]) (by omega) rfl ⟨by simp,fun d hd=>(List.not_mem_nil hd).elim⟩ ?_
 ·rintro i ⟨_,l⟩ hi rfl ⟨g1,g2⟩
  simp only at g1 g2
  right
  simp only [decide_eq_true (show (i:Int)<(as.length:Int) by omega),cond_true,idx_nat,List.getElem?_eq_getElem hi,obind_some,apOk_le (b:=8) (n:=l.length) (m:=1) (by decide) (by omega),wr_succ (show i≤1000000000 by omega)]
  cases as[i].2.1 with
  | true=>exact ⟨_,rfl,rfl,by simp;omega,fun x hx=>by
    rcases List.mem_append.1 hx with hx | hx
    ·exact g2 x hx
    ·rw [List.mem_singleton.1 hx];omega⟩
  | false=>exact ⟨_,rfl,rfl,by show l.length≤i+1;omega,g2⟩
 ·rintro ⟨_,l⟩ rfl ⟨g1,g2⟩
  exact ⟨l,by simp only [decide_eq_false (Int.lt_irrefl _),cond_false],by simp only at g1;omega,g2⟩
 rintro cores ⟨g1,g2⟩
 obtain ⟨v1,c1,p1,h1,e1,r1,k1⟩:=below_ans hl (n:=50) (by decide) (by decide) hc
 obtain ⟨v2,c2,p2,h2,e2,r2,k2⟩:=below_big hl (n:=1000000) (by decide) k1
 simp only [e1,e2,obind_some]
 by_cases h0:cores.length=0
 ·rw [show ((cores.length:Int)==0)=true by rw [beq_iff_eq];omega,cond_true]
  exact ⟨_,_,_,_,_,_,rfl,⟨by simp,fun x hx=>(List.not_mem_nil hx).elim⟩,k2⟩
 rw [show ((cores.length:Int)==0)=false by rw [beq_eq_false_iff_ne];omega,cond_false]
 obtain ⟨v3,c3,p3,h3,e3,r3,k3⟩:=below_ans hl (n:=(cores.length:Int)) (by omega) (by omega) k2
 obtain ⟨m3,rfl⟩:=Int.eq_ofNat_of_zero_le r3.1
 have hm3:m3<cores.length:=by omega
 have hr:=g2 cores[m3] (List.getElem_mem hm3)
 simp only [e3,obind_some,decide_eq_true (show (0:Int)≤(m3:Int) by omega),decide_eq_true (show (m3:Int)<(cores.length:Int) by omega),cond_true,Int.toNat_natCast,List.getElem?_eq_getElem hm3]
 generalize cores[m3]=r at hr
 refine loop_up (G:=SegQ code) 5 (fun s:GrS=>s.2.2.1) (fun i s=>(0≤s.1∧s.1<(as.length:Int))∧(s.2.2.2.2.2.1.length=i∧InAS s.2.2.2.2.2.1)∧Cur code s.2.2.2.2.2.2) (fun z:((Int×Int×List (den tHop)×List Int×Int×Int)⊕(Int×Int×List (den tHop)×List Int×Int×Int))=> ∃ a b hs c p h,(z= .inl (a,b,hs,c,p,h)∨z= .inr (a,b,hs,c,p,h))∧(hs.length≤5∧InAS hs)∧Cur code (c,p,h)) ?_ ?_ 0 (r,(0:Int),(0:Int),v1,v2,[],c3,p3,h3) (by omega) rfl ⟨hr,⟨rfl,fun x hx=>(List.not_mem_nil hx).elim⟩,k3⟩ ?_
 ·rintro i ⟨r,inn,_,ts,be,hs,c4,p4,h4⟩ hi rfl ⟨b1,⟨b2,b2'⟩,b3⟩
  simp only at b1 b2 b2' b3
  obtain ⟨rn,rfl⟩:=Int.eq_ofNat_of_zero_le b1.1
  have hrn:rn<as.length:=by omega
  obtain ⟨ds,ek,dl,dm⟩:=kinds_ans (t:=(as,ls)) (r:=(rn:Int)) (k:=k) (by show ls.length≤_;omega)
  have dl:ds.length≤2 * ls.length:=dl
  have hout: ∃ out c5 p5 h5,(Option.bind (cond (decide ((ds.length:Int)>(0:Int))) (Option.bind (s_l1Once (c4,p4,h4) (5:Int)) fun y35=>some (!y35.1,y35.2.1,y35.2.2.1,y35.2.2.2)) (some (false,c4,p4,h4))) fun (s36:Bool×List Int×Int×Int)=>cond s36.1 (Option.bind (s_l1Below (s36.2.1,s36.2.2.1,s36.2.2.2) (ds.length:Int)) fun y37=>cond (decide ((0:Int)≤y37.1)) (cond (decide (y37.1<(ds.length:Int))) (Option.bind ds[y37.1.toNat]? fun x38=>some (x38,y37.2.1,y37.2.2.1,y37.2.2.2)) none) none) (some ((0:Int),s36.2.1,s36.2.2.1,s36.2.2.2)):Option (Int×List Int×Int×Int))=some (out,c5,p5,h5)∧(out=0∨out∈doors (as,ls) (rn:Int))∧Cur code (c5,p5,h5):=by
   by_cases hd:(ds.length:Int)>0
   ·obtain ⟨v5,c5,p5,h5,e5,k5⟩:=once_ans hl (n:=5) (by decide) (by decide) b3
    simp only [decide_eq_true hd,cond_true,e5,obind_some]
    cases v5 with
    | true=>exact ⟨0,c5,p5,h5,rfl,.inl rfl,k5⟩
    | false=>
     obtain ⟨v6,c6,p6,h6,e6,r6,k6⟩:=below_ans hl (n:=(ds.length:Int)) hd (by omega) k5
     obtain ⟨m6,rfl⟩:=Int.eq_ofNat_of_zero_le r6.1
     have hm6:m6<ds.length:=by omega
     exact ⟨ds[m6],c6,p6,h6,by simp only [Bool.not_false,cond_true,e6,obind_some,decide_eq_true (show (0:Int)≤(m6:Int) by omega),decide_eq_true (show (m6:Int)<(ds.length:Int) by omega),Int.toNat_natCast,List.getElem?_eq_getElem hm6],.inr (dm _ (List.getElem_mem hm6)),k6⟩
   ·exact ⟨0,c4,p4,h4,by simp only [decide_eq_false hd,cond_false,obind_some],.inl rfl,b3⟩
  obtain ⟨out,c5,p5,h5,eo,ho,k5⟩:=hout
  obtain ⟨al,ea,hal⟩:=segA_ans (s:=(ts,be,hs)) (by show hs.length≤_;omega)
  have hal:al.length=hs.length:=hal
  have er:=s_remote (t:=(as,ls)) (r:=(rn:Int)) (d:=out) (show ls.length≤68719476736 by omega)
  have hfar:out∈doors (as,ls) (rn:Int)→0≤(remote (as,ls) (rn:Int) out).1∧(remote (as,ls) (rn:Int) out).1<(as.length:Int):=fun hd=>by
   have :=remote_as (t:=(as,ls)) ht.val hd
   unfold asOk at this
   obtain ⟨h0,h1⟩:=inR_iff.1 this
   exact ⟨h0,by simp only at h1;omega⟩
  generalize remote (as,ls) (rn:Int) out=fd at er hfar
  obtain ⟨far,door⟩:=fd
  simp only at hfar
  obtain ⟨bb,eb⟩: ∃ b:Bool,(cond (out != (0:Int)) (Option.bind (s_SegmentASes (ts,be,hs)) fun y41=>Option.bind (s_l9Has y41 far) fun y42=>cond y42 (some true) (cond (far==(rn:Int)) (some true) (some (inn==out)))) (some (inn==out)))=some b:=by
   rw [ea,obind_some,s_hasI (by omega),obind_some]
   cases out != 0<;>cases hasI al far<;>cases far==(rn:Int)<;>exact ⟨_,rfl⟩
  obtain ⟨v6,c6,p6,h6,e6,r6,k6⟩:=below_ans hl (n:=50) (by decide) (by decide) k5
  obtain ⟨bt,et⟩:=beta_ans (s:=(ts,be,hs)) (hs.length:Int) (by show hs.length≤_;omega)
  have ix:as[rn]? =some as[rn]:=List.getElem?_eq_getElem hrn
  have hap:apOk 40 hs.length 1=true:=apOk_le (by decide) (by omega)
  simp only [decide_eq_true (show (i:Int)<5 by omega),cond_true,ek,obind_some]
  rw [eo,obind_some]
  simp only [er,obind_some]
  rw [eb,obind_some]
  have body: ∀ o:Int,o=0∨o=out→(∃ r,(cond (o==(0:Int)) (some (Sum.inr (Sum.inr (ts,be,hs++[(((rn:Int),inn,o,wr ((wr (ts+(50:Int)))+v6),macH as[rn].2.2 ts bt ((rn:Int),inn,o,wr ((wr (ts+(50:Int)))+v6),0)):den tHop)],c6,p6,h6)))) (some (Sum.inl (far,door,wr ((i:Int)+(1:Int)),ts,be,hs++[(((rn:Int),inn,o,wr ((wr (ts+(50:Int)))+v6),macH as[rn].2.2 ts bt ((rn:Int),inn,o,wr ((wr (ts+(50:Int)))+v6),0)):den tHop)],c6,p6,h6))):Option (GrS⊕((Int×Int×List (den tHop)×List Int×Int×Int)⊕(Int×Int×List (den tHop)×List Int×Int×Int))))=some (.inr r)∧(∃ a b hs c p h,(r= .inl (a,b,hs,c,p,h)∨r= .inr (a,b,hs,c,p,h))∧(hs.length≤5∧InAS hs)∧Cur code (c,p,h)))∨
    ∃ s':GrS,(cond (o==(0:Int)) (some (Sum.inr (Sum.inr (ts,be,hs++[(((rn:Int),inn,o,wr ((wr (ts+(50:Int)))+v6),macH as[rn].2.2 ts bt ((rn:Int),inn,o,wr ((wr (ts+(50:Int)))+v6),0)):den tHop)],c6,p6,h6)))) (some (Sum.inl (far,door,wr ((i:Int)+(1:Int)),ts,be,hs++[(((rn:Int),inn,o,wr ((wr (ts+(50:Int)))+v6),macH as[rn].2.2 ts bt ((rn:Int),inn,o,wr ((wr (ts+(50:Int)))+v6),0)):den tHop)],c6,p6,h6))):Option (GrS⊕((Int×Int×List (den tHop)×List Int×Int×Int)⊕(Int×Int×List (den tHop)×List Int×Int×Int))))=some (.inl s')∧s'.2.2.1=((i+1:Nat):Int)∧(0≤s'.1∧s'.1<(as.length:Int))∧(s'.2.2.2.2.2.1.length=i+1∧InAS s'.2.2.2.2.2.1)∧Cur code s'.2.2.2.2.2.2:=by
   intro o hoo
   cases hz:(o==(0:Int)) with
   | true=>exact .inl ⟨_,rfl,ts,be,_,c6,p6,h6,.inr rfl,⟨by simp;omega,b2'.snoc ⟨by simp only;omega,by simp only;omega⟩⟩,k6⟩
   | false=>
    refine .inr ⟨_,rfl,wr_succ (show i≤1000000000 by omega),?_,⟨by simp [b2],b2'.snoc ⟨by simp only;omega,by simp only;omega⟩⟩,k6⟩
    have hne:o≠0:=by simpa using hz
    rcases hoo with h | rfl
    ·exact absurd h hne
    ·rcases ho with h | h
     ·exact absurd h hne
     ·exact hfar h
  cases bb with
  | true=>
   cases inn==(0:Int) with
   | true=>exact .inl ⟨_,rfl,ts,be,hs,c5,p5,h5,.inr rfl,⟨by omega,b2'⟩,k5⟩
   | false=>
    have :=body 0 (.inl rfl)
    simpa only [cond_true,cond_false,obind_some,Sum.elim_inl,e6,idx_nat,ix,et,auth_s,hap] using this
  | false=>
   have :=body out (.inr rfl)
   simpa only [cond_true,cond_false,obind_some,Sum.elim_inl,e6,idx_nat,ix,et,auth_s,hap] using this
 ·rintro ⟨r,inn,_,ts,be,hs,c4,p4,h4⟩ rfl ⟨b1,⟨b2,b2'⟩,b3⟩
  simp only at b1 b2 b2' b3
  exact ⟨.inl (ts,be,hs,c4,p4,h4),by simp only [show decide ((((5:Nat):Int))<(5:Int))=false from rfl,cond_false],ts,be,hs,c4,p4,h4,.inl rfl,⟨by omega,b2'⟩,b3⟩
 ·rintro z ⟨a,b,hs,c,p,h,hz,h5,k5⟩
  rcases hz with rfl | rfl
  ·exact ⟨a,b,hs,c,p,h,rfl,h5,k5⟩
  ·exact ⟨a,b,hs,c,p,h,rfl,h5,k5⟩

theorem wfS_ans {as:List (den tAS)} {ls:List (den tLk)} (ht:TopD as ls) {s:den tSg} (h:s.2.2.length≤1000): ∃ b,s_WellFormed (as,ls) s=some b∧(b=true→ ∃ x,s.2.2[0]? =some x∧asOk (as,ls) x.1=true):=by
 obtain ⟨al,ea,hal⟩:=segA_ans (s:=s) (by omega)
 have hlen:=ht.len
 have hlk:=ht.links
 unfold s_WellFormed
 rw [s_in,obind_some]
 cases hc:inR (s.2.2.length:Int) 1 8 with
 | false=>exact ⟨false,rfl,fun e=>by cases e⟩
 | true=>
  obtain ⟨h0,h1⟩:=inR_iff.1 hc
  have h00:0<s.2.2.length:=by omega
  have i0:idx s.2.2 (0:Int)=some s.2.2[0]:=by rw [show (0:Int)=((0:Nat):Int) from rfl,idx_nat,List.getElem?_eq_getElem h00]
  simp only [Bool.not_true,cond_false,i0,obind_some]
  cases s.2.2[0].2.1 != (0:Int) with
  | true=>exact ⟨false,rfl,fun e=>by cases e⟩
  | false=>
   simp only [cond_false]
   rw [show ((s.1,s.2.1,s.2.2):den tSg)=s from rfl,ea,obind_some]
   refine loop_up (G:=fun o=> ∃ b,o=some b∧(b=true→ ∃ x,s.2.2[0]? =some x∧asOk (as,ls) x.1=true)) s.2.2.length (fun s:List Int×Int=>s.2) (fun i t=>t.1=al∧(0<i→asOk (as,ls) s.2.2[0].1=true)) (fun r:Unit⊕Bool=>r= .inl ()∧asOk (as,ls) s.2.2[0].1=true∨r= .inr false) ?_ ?_ 0 (al,(0:Int)) (by omega) rfl ⟨rfl,fun h=>by omega⟩ ?_
   ·rintro i ⟨_,_⟩ hi rfl ⟨rfl,g2⟩
    rename_i al
    have ix:idx s.2.2 (i:Int)=some s.2.2[i]:=by rw [idx_nat,List.getElem?_eq_getElem hi]
    simp only [decide_eq_true (show (i:Int)<(s.2.2.length:Int) by omega),cond_true,ix,obind_some]
    rw [show ((s.2.2[i].1,s.2.2[i].2.1,s.2.2[i].2.2.1,s.2.2[i].2.2.2.1,s.2.2[i].2.2.2.2):den tHop)=s.2.2[i] from rfl,s_validH,obind_some,s_asOk (t:=(as,ls)) (show as.length≤_ by omega),obind_some]
    have e1:slOk (0:Int) (i:Int) (al.length:Int)=true:=slOk_take (by rw [hal];exact hi)
    have e2:s_l9Has (cut al (0:Int) (i:Int)) s.2.2[i].1=some (hasI (cut al (0:Int) (i:Int)) s.2.2[i].1):=s_hasI (by rw [cut_take];exact Nat.le_trans (List.length_take_le _ _) (by omega))
    obtain ⟨b,eb,hb⟩: ∃ b:Bool,(cond (!(validH s.2.2[i])) (some true) (cond (!(asOk (as,ls) s.2.2[i].1)) (some true) (cond (slOk (0:Int) (i:Int) (al.length:Int)) (Option.bind (s_l9Has (cut al (0:Int) (i:Int)) s.2.2[i].1) fun y20=>cond y20 (some true) (cond (s.2.2[i].2.2.1==(0:Int)) (some (decide ((i:Int)<(wr ((s.2.2.length:Int) - (1:Int)))))) (some false))) none)))=some b∧(b=false→asOk (as,ls) s.2.2[i].1=true):=by
     rw [e1,e2,obind_some]
     cases validH s.2.2[i]
     ·exact ⟨true,rfl,fun e=>by cases e⟩
     ·cases asOk (as,ls) s.2.2[i].1
      ·exact ⟨true,rfl,fun e=>by cases e⟩
      ·cases hasI (cut al (0:Int) (i:Int)) s.2.2[i].1
       ·cases s.2.2[i].2.2.1==(0:Int)
        ·exact ⟨false,rfl,fun _=>rfl⟩
        ·exact ⟨_,rfl,fun _=>rfl⟩
       ·exact ⟨true,rfl,fun _=>rfl⟩
    rw [eb,obind_some]
    cases b with
    | true=>exact .inl ⟨.inr false,rfl,.inr rfl⟩
    | false=>
     have hok:=hb rfl
     by_cases hp:i=0
     ·subst hp
      refine .inr ⟨(al,((1:Nat):Int)),?_,rfl,rfl,fun _=>hok⟩
      rfl
     ·have hi1:i - 1<s.2.2.length:=by omega
      have w1:wr ((i:Int) - 1)=((i - 1:Nat):Int):=by rw [wr_small (by omega) (by omega)];omega
      have er:=s_remote (t:=(as,ls)) (r:=s.2.2[i - 1].1) (d:=s.2.2[i - 1].2.2.1) (show ls.length≤68719476736 by omega)
      simp only [cond_false,decide_eq_true (show (i:Int)>0 by omega),cond_true,w1,idx_nat,List.getElem?_eq_getElem hi1,obind_some,er]
      obtain ⟨b2,eb2⟩: ∃ b:Bool,(cond ((remote (as,ls) s.2.2[i - 1].1 s.2.2[i - 1].2.2.1).1 != s.2.2[i].1) (some true) (some ((remote (as,ls) s.2.2[i - 1].1 s.2.2[i - 1].2.2.1).2 != s.2.2[i].2.1)))=some b:=by
       cases (remote (as,ls) s.2.2[i - 1].1 s.2.2[i - 1].2.2.1).1 != s.2.2[i].1<;>exact ⟨_,rfl⟩
      rw [eb2,obind_some]
      cases b2 with
      | true=>exact .inl ⟨.inr false,rfl,.inr rfl⟩
      | false=>
       refine .inr ⟨(al,((i+1:Nat):Int)),?_,rfl,rfl,fun _=>g2 (by omega)⟩
       simp only [cond_false,obind_some,Sum.elim_inl,wr_succ (show i≤1000000000 by omega)]
   ·rintro ⟨_,_⟩ rfl ⟨rfl,g2⟩
    exact ⟨.inl (),by simp only [decide_eq_false (Int.lt_irrefl _),cond_false],.inl ⟨rfl,g2 h00⟩⟩
   ·rintro r (⟨rfl,hr⟩ | rfl)
    ·exact ⟨true,rfl,fun _=>⟨s.2.2[0],List.getElem?_eq_getElem h00,hr⟩⟩
    ·exact ⟨false,rfl,fun e=>by cases e⟩

theorem bad_ans {as:List (den tAS)} {ls:List (den tLk)} (ht:TopD as ls) {s:den tSg} (h:s.2.2.length≤1000): ∃ v,s_FirstInvalidHop (as,ls) s=some v:=by
 have hlen:=ht.len
 unfold s_FirstInvalidHop
 refine loop_up (G:=fun o=> ∃ b,o=some b) s.2.2.length (fun s:Int=>s) (fun i t=>True) (fun r:Unit⊕Int=>True) ?_ ?_ 0 (0:Int) (by omega) rfl trivial ?_
 ·rintro i _ hi rfl _
  obtain ⟨bt,et⟩:=beta_ans (s:=s) (i:Int) (by omega)
  have et:s_BetaAt (s.1,s.2.1,s.2.2) (i:Int)=some bt:=et
  have ev:=s_verH (t:=(as,ls)) (ts:=s.1) (beta:=bt) (h:=s.2.2[i]) (show as.length≤68719476736 by omega)
  have ev:s_VerifyHop (as,ls) s.1 bt (s.2.2[i].1,s.2.2[i].2.1,s.2.2[i].2.2.1,s.2.2[i].2.2.2.1,s.2.2[i].2.2.2.2)=some _:=ev
  simp only [decide_eq_true (show (i:Int)<(s.2.2.length:Int) by omega),cond_true,idx_nat,List.getElem?_eq_getElem hi,obind_some,et,ev,wr_succ (show i≤1000000000 by omega)]
  cases verH (as,ls) s.1 bt s.2.2[i] with
  | true=>exact .inr ⟨_,rfl,rfl,trivial⟩
  | false=>exact .inl ⟨_,rfl,trivial⟩
 ·rintro _ rfl _
  exact ⟨.inl (),by simp only [decide_eq_false (Int.lt_irrefl _),cond_false],trivial⟩
 ·rintro r _
  cases r with
  | inl u=>exact ⟨_,rfl⟩
  | inr v=>exact ⟨_,rfl⟩

theorem kindS_ans {as:List (den tAS)} {ls:List (den tLk)} (ht:TopD as ls) {s:den tSg} (h:s.2.2.length≤1000): ∃ v,s_SegmentKind (as,ls) s=some v:=by
 have hlen:=ht.len
 have hlk:=ht.links
 obtain ⟨b,eb,hb⟩:=wfS_ans ht h
 unfold s_SegmentKind
 have eb:s_WellFormed (as,ls) (s.1,s.2.1,s.2.2)=some b:=eb
 rw [eb,obind_some]
 cases b with
 | false=>exact ⟨0,rfl⟩
 | true=>
  obtain ⟨x,hx,hok⟩:=hb rfl
  obtain ⟨h0,rfl⟩:=List.getElem?_eq_some_iff.1 hx
  obtain ⟨y,hy,iy⟩:=as_at hok
  have ef:s_FirstAS (s.1,s.2.1,s.2.2)=some s.2.2[0].1:=by
   unfold s_FirstAS
   rw [show ((s.2.2.length:Int)==0)=false by rw [beq_eq_false_iff_ne];omega,cond_false,show (0:Int)=((0:Nat):Int) from rfl,idx_nat,List.getElem?_eq_getElem h0,obind_some]
  have iy:idx as s.2.2[0].1=some y:=iy
  simp only [Bool.not_true,cond_false,ef,iy,obind_some]
  cases y.2.1 with
  | false=>exact ⟨0,rfl⟩
  | true=>
   simp only [Bool.not_true,cond_false]
   refine loop_up (G:=fun o=> ∃ b,o=some b) s.2.2.length (fun s:Int×Int=>s.2) (fun i t=>True) (fun r:Int⊕Int=>True) ?_ ?_ 0 ((0:Int),(0:Int)) (by omega) rfl trivial ?_
   ·rintro i ⟨k,_⟩ hi rfl _
    have ek:=s_kindI (t:=(as,ls)) (r:=s.2.2[i].1) (d:=s.2.2[i].2.2.1) (show ls.length≤68719476736 by omega)
    simp only [decide_eq_true (show (i:Int)<(s.2.2.length:Int) by omega),cond_true,idx_nat,List.getElem?_eq_getElem hi,obind_some,ek,wr_succ (show i≤1000000000 by omega)]
    cases s.2.2[i].2.2.1==(0:Int) with
    | true=>exact .inr ⟨_,rfl,rfl,trivial⟩
    | false=>
     cases k != (0:Int) with
     | false=>exact .inr ⟨_,rfl,rfl,trivial⟩
     | true=>
      simp only [cond_true,cond_false,obind_some]
      cases kindI (as,ls) s.2.2[i].1 s.2.2[i].2.2.1 != k with
      | true=>exact .inl ⟨_,rfl,trivial⟩
      | false=>exact .inr ⟨_,rfl,rfl,trivial⟩
   ·rintro ⟨k,_⟩ rfl _
    exact ⟨.inl k,by simp only [decide_eq_false (Int.lt_irrefl _),cond_false],trivial⟩
   ·rintro r _
    cases r with
    | inr v=>exact ⟨_,rfl⟩
    | inl v=>
     simp only [Sum.elim_inl]
     cases v==(1:Int)
     ·cases v==(2:Int)<;>exact ⟨_,rfl⟩
     ·exact ⟨_,rfl⟩

theorem validS_ans {as:List (den tAS)} {ls:List (den tLk)} (ht:TopD as ls) {s:den tSg} (h:s.2.2.length≤1000): ∃ b,s_ValidSegment (as,ls) s=some b∧(b=true→s.2.2≠[]):=by
 obtain ⟨b,eb,hb⟩:=wfS_ans ht h
 have hb:b=true→s.2.2≠[]:=fun e he=>by
  obtain ⟨x,hx,_⟩:=hb e
  rw [he] at hx
  cases hx
 obtain ⟨v,ev⟩:=bad_ans ht h
 obtain ⟨k,ek⟩:=kindS_ans ht h
 have eb:s_WellFormed (as,ls) (s.1,s.2.1,s.2.2)=some b:=eb
 have ev:s_FirstInvalidHop (as,ls) (s.1,s.2.1,s.2.2)=some v:=ev
 have ek:s_SegmentKind (as,ls) (s.1,s.2.1,s.2.2)=some k:=ek
 unfold s_ValidSegment
 simp only [eb,ev,ek,s_in,s_resid,obind_some]
 cases b
 ·exact ⟨_,rfl,fun e=>Bool.noConfusion e⟩
 ·have hb:=hb rfl
  cases decide (v<0)
  ·exact ⟨_,rfl,fun _=>hb⟩
  ·cases k != (0:Int)
   ·exact ⟨_,rfl,fun _=>hb⟩
   ·cases inR s.1 0 1000000<;>exact ⟨_,rfl,fun _=>hb⟩

theorem term_ans {s:den tSg} (h:s.2.2.length≤1000): ∃ b,s_IsTerminated s=some b:=by
 unfold s_IsTerminated
 by_cases h0:(s.2.2.length:Int)>0
 ·have w1:wr ((s.2.2.length:Int) - 1)=((s.2.2.length - 1:Nat):Int):=by rw [wr_small (by omega) (by omega)];omega
  rw [decide_eq_true h0,cond_true,w1,idx_nat,List.getElem?_eq_getElem (by omega),obind_some,obind_some]
  exact ⟨_,rfl⟩
 ·rw [decide_eq_false h0,cond_false]
  exact ⟨_,rfl⟩

theorem sameHs_ans {a b:List (den tHop)} (h:a.length≤1000000): ∃ v,s_l9SameHops a b=some v:=by
 unfold s_l9SameHops
 by_cases hn:a.length=b.length
 ·rw [hn,bne_self_eq_false,cond_false,← hn]
  refine loop_up (G:=fun o=> ∃ b,o=some b) a.length (fun s:Int=>s) (fun i t=>True) (fun r:Unit⊕Bool=>True) ?_ ?_ 0 (0:Int) (by omega) rfl trivial ?_
  ·rintro i _ hi rfl _
   have h2:i<b.length:=by omega
   simp only [decide_eq_true (show (i:Int)<(a.length:Int) by omega),cond_true,idx_nat,List.getElem?_eq_getElem hi,List.getElem?_eq_getElem h2,obind_some,wr_succ (show i≤1000000000 by omega)]
   cases ((a[i].1==b[i].1)&&((a[i].2.1==b[i].2.1)&&((a[i].2.2.1==b[i].2.2.1)&&((a[i].2.2.2.1==b[i].2.2.2.1)&&((a[i].2.2.2.2==b[i].2.2.2.2)&&true))))) with
   | true=>exact .inr ⟨_,rfl,rfl,trivial⟩
   | false=>exact .inl ⟨_,rfl,trivial⟩
  ·rintro _ rfl _
   exact ⟨.inl (),by simp only [decide_eq_false (Int.lt_irrefl _),cond_false],trivial⟩
  ·rintro r _
   cases r with
   | inl u=>exact ⟨_,rfl⟩
   | inr v=>exact ⟨_,rfl⟩
 ·rw [show ((a.length:Int) != (b.length:Int))=true by rw [bne_iff_ne];omega,cond_true]
  exact ⟨_,rfl⟩

theorem eqSeg_ans {a b:den tSg} (h:a.2.2.length≤1000000): ∃ v,s_EqualSegments a b=some v:=by
 obtain ⟨v,e⟩:=sameHs_ans (b:=b.2.2) h
 unfold s_EqualSegments
 rw [e,obind_some]
 cases a.1==b.1
 ·exact ⟨_,rfl⟩
 ·cases a.2.1==b.2.1<;>exact ⟨_,rfl⟩

theorem hasL_ans {l:List (den tSg)} {s:den tSg} (hl:l.length≤1000000) (h: ∀ x∈l,x.2.2.length≤1000): ∃ v,s_l16Has l s=some v:=by
 unfold s_l16Has
 refine loop_up (G:=fun o=> ∃ b,o=some b) l.length (fun s:Int=>s) (fun i t=>True) (fun r:Unit⊕Bool=>True) ?_ ?_ 0 (0:Int) (by omega) rfl trivial ?_
 ·rintro i _ hi rfl _
  obtain ⟨v,e⟩:=eqSeg_ans (a:=l[i]) (b:=s) (by have :=h l[i] (List.getElem_mem hi);omega)
  have e:s_EqualSegments (l[i].1,l[i].2.1,l[i].2.2) (s.1,s.2.1,s.2.2)=some v:=e
  simp only [decide_eq_true (show (i:Int)<(l.length:Int) by omega),cond_true,idx_nat,List.getElem?_eq_getElem hi,obind_some,e,wr_succ (show i≤1000000000 by omega)]
  cases v with
  | false=>exact .inr ⟨_,rfl,rfl,trivial⟩
  | true=>exact .inl ⟨_,rfl,trivial⟩
 ·rintro _ rfl _
  exact ⟨.inl (),by simp only [decide_eq_false (Int.lt_irrefl _),cond_false],trivial⟩
 ·rintro r _
  cases r with
  | inl u=>exact ⟨_,rfl⟩
  | inr v=>exact ⟨_,rfl⟩


structure DbD (n:Nat) (d c:List (den tSg)):Prop where
 down:d.length≤n
 core:c.length≤n
 hd: ∀ x∈d,x.2.2.length≤5
 hc: ∀ x∈c,x.2.2.length≤5
 ha: ∀ x∈d,x.2.2≠[]∧InAS x.2.2

theorem segs_sm {l:List (den tSg)} {n:Nat} (hn:n≤1000) (h:l.length≤n) (hh: ∀ x∈l,x.2.2.length≤5):SmB 68719476736 (.sl tSg) l:=by
 refine ⟨by omega,fun x hx=>⟨trivial,trivial,?_,fun e he=>⟨trivial,trivial,trivial,trivial,trivial⟩⟩⟩
 have :=hh x hx
 show x.2.2.length≤_
 omega

theorem addS_ans {as:List (den tAS)} {ls:List (den tLk)} (ht:TopD as ls) {n:Nat} (hn:n≤100) {d c:List (den tSg)} (hk:DbD n d c) {s:den tSg} (h:s.2.2.length≤5) (ha:InAS s.2.2): ∃ d' c',s_AddSegment (as,ls) (d,c) s=some (d',c')∧DbD (n+1) d' c':=by
 obtain ⟨b1,e1,hb1⟩:=validS_ans ht (s:=s) (by omega)
 obtain ⟨b2,e2⟩:=term_ans (s:=s) (by omega)
 obtain ⟨b3,e3⟩:=hasL_ans (l:=d) (s:=s) (by have :=hk.down;omega) (fun x hx=>by have :=hk.hd x hx;omega)
 obtain ⟨b4,e4⟩:=hasL_ans (l:=c) (s:=s) (by have :=hk.core;omega) (fun x hx=>by have :=hk.hc x hx;omega)
 obtain ⟨k,ek⟩:=kindS_ans ht (s:=s) (by omega)
 have c1:=s_copyGs (segs_sm (by omega) hk.down hk.hd)
 have c2:=s_copyGs (segs_sm (by omega) hk.core hk.hc)
 have c3:=s_copyG (x:=s) (by omega)
 have e5: ∃ b,s_HasSegment (d,c) s=some b:=by
  unfold s_HasSegment
  have e3:s_l16Has d (s.1,s.2.1,s.2.2)=some b3:=e3
  have e4:s_l16Has c (s.1,s.2.1,s.2.2)=some b4:=e4
  simp only [e3,e4,obind_some]
  cases b3<;>exact ⟨_,rfl⟩
 obtain ⟨b5,e5⟩:=e5
 have hdn:=hk.down
 have hcn:=hk.core
 have e1:s_ValidSegment (as,ls) (s.1,s.2.1,s.2.2)=some b1:=e1
 have e2:s_IsTerminated (s.1,s.2.1,s.2.2)=some b2:=e2
 have e5:s_HasSegment (d,c) (s.1,s.2.1,s.2.2)=some b5:=e5
 have ek:s_SegmentKind (as,ls) (s.1,s.2.1,s.2.2)=some k:=ek
 have c3:s_l9Copy (s.1,s.2.1,s.2.2)=some s:=c3
 have same:DbD (n+1) d c:=⟨by omega,by omega,hk.hd,hk.hc,hk.ha⟩
 unfold s_AddSegment
 simp only [c1,c2,obind_some,both_self,dup_self,dup3_self,dup4_self,dup5_self,e1,e2,e5,ek,c3,apOk_le (b:=40) (n:=d.length) (m:=1) (by decide) (by omega),apOk_le (b:=40) (n:=c.length) (m:=1) (by decide) (by omega),cond_true]
 obtain ⟨b6,e6,hb6⟩: ∃ b:Bool,(cond (!b1) (some true) (cond (!b2) (some true) (some b5)))=some b∧(b=false→b1=true):=by
  cases b1
  ·exact ⟨_,rfl,fun e=>Bool.noConfusion e⟩
  ·cases b2<;>exact ⟨_,rfl,fun _=>rfl⟩
 rw [e6,obind_some]
 cases b6 with
 | true=>exact ⟨d,c,rfl,same⟩
 | false=>
  have hne:=hb1 (hb6 rfl)
  cases k==(2:Int) with
  | true=>exact ⟨_,_,rfl,by simp;omega,by simp only;omega,fun x hx=>(List.mem_append.1 hx).elim (hk.hd x) fun hx=>by rw [List.mem_singleton.1 hx];exact h,hk.hc,fun x hx=>(List.mem_append.1 hx).elim (hk.ha x) fun hx=>by rw [List.mem_singleton.1 hx];exact ⟨hne,ha⟩⟩
  | false=>exact ⟨_,_,rfl,by simp only;omega,by simp;omega,hk.hd,fun x hx=>(List.mem_append.1 hx).elim (hk.hc x) fun hx=>by rw [List.mem_singleton.1 hx];exact h,hk.ha⟩

def BookP (code:List Int) (o:Option (List (den tAS)×List (den tLk)×List (den tSg)×List (den tSg)×List Int×Int×Int)):Prop:= ∃ as ls d c c' p' h',o=some (as,ls,d,c,c',p',h')∧TopD as ls∧DbD 13 d c∧Cur code (c',p',h')

abbrev BkS:=Int×List (den tAS)×List (den tLk)×List (den tSg)×List (den tSg)×List Int×Int×Int

theorem DbD.mono {n m:Nat} {d c:List (den tSg)} (h:DbD n d c) (hm:n≤m):DbD m d c:=⟨Nat.le_trans h.down hm,Nat.le_trans h.core hm,h.hd,h.hc,h.ha⟩

theorem book_ans {code:List Int} (hl:code.length≤1048576) {c:List Int} {p h:Int} (hc:Cur code (c,p,h)):BookP code (s_l23Book (c,p,h)):=by
 obtain ⟨as,ls,c1,p1,h1,e1,ht,k1⟩:=top_ans hl hc
 obtain ⟨v2,c2,p2,h2,e2,r2,k2⟩:=below_ans hl (n:=8) (by decide) (by decide) k1
 obtain ⟨m2,rfl⟩:=Int.eq_ofNat_of_zero_le r2.1
 have w2:wr ((6:Int)+(m2:Int))=((m2+6:Nat):Int):=by rw [wr_small (by omega) (by omega)];omega
 unfold s_l23Book
 simp only [e1,e2,obind_some,both_self,dup_self,dup3_self,dup4_self,dup5_self,w2]
 refine loop_bind (G:=BookP code) (fun (n:Nat) (s:BkS)=>s.1=(n:Int)∧n≤13∧s.2.1=as∧s.2.2.1=ls∧DbD (13 - n) s.2.2.2.1 s.2.2.2.2.1∧Cur code s.2.2.2.2.2) (fun (r:List (den tAS)×List (den tLk)×List (den tSg)×List (den tSg)×List Int×Int×Int)=>r.1=as∧r.2.1=ls∧DbD 13 r.2.2.1 r.2.2.2.1∧Cur code r.2.2.2.2) ?_ (m2+6) (((m2+6:Nat):Int),as,ls,[],[],c2,p2,h2) ⟨rfl,by omega,rfl,rfl,⟨by simp,by simp,fun x hx=>(List.not_mem_nil hx).elim,fun x hx=>(List.not_mem_nil hx).elim,fun x hx=>(List.not_mem_nil hx).elim⟩,k2⟩ ?_
 ·rintro n ⟨_,xs,ys,d,cc,c3,p3,h3⟩ ⟨rfl,a1,ea,el,a4,a5⟩
  simp only at ea el a4 a5
  subst ea
  subst el
  cases n with
  | zero=>exact .inl ⟨_,rfl,rfl,rfl,a4,a5⟩
  | succ n=>
   right
   obtain ⟨v4,c4,p4,h4,e4,k4⟩:=once_ans hl (n:=3) (by decide) (by decide) a5
   have wn:wr (((n+1:Nat):Int) - 1)=(n:Int):=by rw [wr_small (by omega) (by omega)];omega
   have key: ∀ k:Int,∃ d' cc' c5 p5 h5,(Option.bind (s_l9Grow (c4,p4,h4) (xs,ys) k) fun y20=>Option.bind (s_AddSegment (xs,ys) (d,cc) (y20.1,y20.2.1,y20.2.2.1)) fun y21=>some (y21.1,y21.2,y20.2.2.2.1,y20.2.2.2.2.1,y20.2.2.2.2.2))=some (d',cc',c5,p5,h5)∧DbD (13 - n) d' cc'∧Cur code (c5,p5,h5):=fun k=>by
    obtain ⟨ts,be,hs,c5,p5,h5,e5,⟨l5,a5⟩,k5⟩:=grow_as hl ht k k4
    obtain ⟨d',cc',e6,k6⟩:=addS_ans ht (by omega) a4 (s:=(ts,be,hs)) l5 a5
    exact ⟨d',cc',c5,p5,h5,by simp only [e5,e6,obind_some],k6.mono (by omega),k5⟩
   cases v4 with
   | true=>
    obtain ⟨d',cc',c5,p5,h5,e5,k5,k6⟩:=key 1
    refine ⟨n,((n:Int),xs,ys,d',cc',c5,p5,h5),by omega,?_,rfl,by omega,rfl,rfl,k5,k6⟩
    simp only [decide_eq_true (show ((n+1:Nat):Int)>0 by omega),cond_true,e4,obind_some]
    rw [e5,obind_some,wn]
   | false=>
    obtain ⟨d',cc',c5,p5,h5,e5,k5,k6⟩:=key 2
    refine ⟨n,((n:Int),xs,ys,d',cc',c5,p5,h5),by omega,?_,rfl,by omega,rfl,rfl,k5,k6⟩
    simp only [decide_eq_true (show ((n+1:Nat):Int)>0 by omega),cond_true,cond_false,e4,obind_some]
    rw [e5,obind_some,wn]
 ·rintro ⟨_,_,d,cc,c3,p3,h3⟩ ⟨rfl,rfl,a4,a5⟩
  exact ⟨_,_,d,cc,c3,p3,h3,rfl,ht,a4,a5⟩

theorem lastA_ans {s:den tSg} (h:s.2.2.length≤1000): ∃ v,s_LastAS s=some v:=by
 unfold s_LastAS
 by_cases h0:s.2.2.length=0
 ·rw [show ((s.2.2.length:Int)==0)=true by rw [beq_iff_eq];omega,cond_true]
  exact ⟨_,rfl⟩
 ·have w1:wr ((s.2.2.length:Int) - 1)=((s.2.2.length - 1:Nat):Int):=by rw [wr_small (by omega) (by omega)];omega
  rw [show ((s.2.2.length:Int)==0)=false by rw [beq_eq_false_iff_ne];omega,cond_false,w1,idx_nat,List.getElem?_eq_getElem (by omega),obind_some]
  exact ⟨_,rfl⟩

theorem lastA_in {s:den tSg} (h:s.2.2.length≤1000) (h0:s.2.2≠[]) (ha:InAS s.2.2): ∃ v,s_LastAS s=some v∧0≤v∧v<8:=by
 have hl:=List.length_pos_iff.2 h0
 unfold s_LastAS
 have w1:wr ((s.2.2.length:Int) - 1)=((s.2.2.length - 1:Nat):Int):=by rw [wr_small (by omega) (by omega)];omega
 rw [show ((s.2.2.length:Int)==0)=false by rw [beq_eq_false_iff_ne];omega,cond_false,w1,idx_nat,List.getElem?_eq_getElem (by omega),obind_some]
 have :=ha _ (List.getElem_mem (show s.2.2.length - 1<s.2.2.length by omega))
 exact ⟨_,rfl,this.1,this.2⟩

theorem firstA_ans {s:den tSg}: ∃ v,s_FirstAS s=some v:=by
 unfold s_FirstAS
 by_cases h0:s.2.2.length=0
 ·rw [show ((s.2.2.length:Int)==0)=true by rw [beq_iff_eq];omega,cond_true]
  exact ⟨_,rfl⟩
 ·rw [show ((s.2.2.length:Int)==0)=false by rw [beq_eq_false_iff_ne];omega,cond_false,show (0:Int)=((0:Nat):Int) from rfl,idx_nat,List.getElem?_eq_getElem (by omega),obind_some]
  exact ⟨_,rfl⟩

theorem pick_ans {code:List Int} (hl:code.length≤1048576) {d:List (den tSg)} (hd:d.length≤200) (h5: ∀ x∈d,x.2.2.length≤5) (ha: ∀ x∈d,x.2.2≠[]∧InAS x.2.2) (k:Int) (hk:0<k∧k≤256) (z:Int) (hz:0≤z∧z<8) {c:List Int} {p h:Int} (hc:Cur code (c,p,h)):
  ∃ v c' p' h',(Option.bind (cond (decide ((d.length:Int)>(0:Int))) (Option.bind (s_l1Once (c,p,h) k) fun y3=>some (!y3.1,y3.2.1,y3.2.2.1,y3.2.2.2)) (some (false,c,p,h))) fun (s4:Bool×List Int×Int×Int)=>cond s4.1 (Option.bind (s_l1Below (s4.2.1,s4.2.2.1,s4.2.2.2) (d.length:Int)) fun y5=>Option.bind (idx d y5.1) fun x6=>Option.bind (s_LastAS (x6.1,x6.2.1,x6.2.2)) fun y7=>some (y7,y5.2.1,y5.2.2.1,y5.2.2.2)) (some (z,s4.2.1,s4.2.2.1,s4.2.2.2)):Option (Int×List Int×Int×Int))=some (v,c',p',h')∧(0≤v∧v<8)∧Cur code (c',p',h'):=by
 by_cases h0:(d.length:Int)>0
 ·obtain ⟨v1,c1,p1,h1,e1,k1⟩:=once_ans hl (n:=k) hk.1 hk.2 hc
  simp only [decide_eq_true h0,cond_true,e1,obind_some]
  cases v1 with
  | true=>exact ⟨z,c1,p1,h1,rfl,hz,k1⟩
  | false=>
   obtain ⟨v2,c2,p2,h2,e2,r2,k2⟩:=below_ans hl (n:=(d.length:Int)) h0 (by omega) k1
   obtain ⟨m2,rfl⟩:=Int.eq_ofNat_of_zero_le r2.1
   have hm:m2<d.length:=by omega
   obtain ⟨v3,e3,r3⟩:=lastA_in (s:=d[m2]) (by have :=h5 d[m2] (List.getElem_mem hm);omega) (ha d[m2] (List.getElem_mem hm)).1 (ha d[m2] (List.getElem_mem hm)).2
   have e3:s_LastAS (d[m2].1,d[m2].2.1,d[m2].2.2)=some v3:=e3
   exact ⟨v3,c2,p2,h2,by simp only [Bool.not_false,cond_true,e2,obind_some,idx_nat,List.getElem?_eq_getElem hm,e3],r3,k2⟩
 ·exact ⟨z,c,p,h,by simp only [decide_eq_false h0,cond_false,obind_some],hz,hc⟩

theorem ends_as {code:List Int} (hl:code.length≤1048576) {n:Nat} (hn:n≤100) {d cc:List (den tSg)} (hk:DbD n d cc) {c:List Int} {p h:Int} (hc:Cur code (c,p,h)): ∃ a b c' p' h',s_l23Ends (c,p,h) (d,cc)=some (a,b,c',p',h')∧((0≤a∧a<8)∧(0≤b∧b<8))∧Cur code (c',p',h'):=by
 have hd:=hk.down
 obtain ⟨v1,c1,p1,h1,e1,r1,k1⟩:=below_ans hl (n:=8) (by decide) (by decide) hc
 obtain ⟨v2,c2,p2,h2,e2,r2,k2⟩:=below_ans hl (n:=8) (by decide) (by decide) k1
 obtain ⟨v3,c3,p3,h3,e3,r3,k3⟩:=pick_ans hl (d:=d) (by omega) hk.hd hk.ha 4 (by decide) v1 r1 k2
 obtain ⟨v4,c4,p4,h4,e4,r4,k4⟩:=pick_ans hl (d:=d) (by omega) hk.hd hk.ha 3 (by decide) v2 r2 k3
 refine ⟨v3,v4,c4,p4,h4,?_,⟨r3,r4⟩,k4⟩
 unfold s_l23Ends
 simp only [e1,e2,obind_some,both_self,dup_self,dup3_self,dup4_self,dup5_self]
 rw [e3,obind_some,e4,obind_some]

theorem ends_ans {code:List Int} (hl:code.length≤1048576) {n:Nat} (hn:n≤100) {d cc:List (den tSg)} (hk:DbD n d cc) {c:List Int} {p h:Int} (hc:Cur code (c,p,h)): ∃ a b c' p' h',s_l23Ends (c,p,h) (d,cc)=some (a,b,c',p',h')∧Cur code (c',p',h'):=by
 obtain ⟨a,b,c',p',h',e,_,k⟩:=ends_as hl hn hk hc
 exact ⟨a,b,c',p',h',e,k⟩


def SegsD (n:Nat) (l:List (den tSg)):Prop:=l.length≤n∧ ∀ x∈l,x.2.2.length≤5

theorem downs_ans {n:Nat} (hn:n≤100) {d cc:List (den tSg)} (hk:DbD n d cc) (r:Int): ∃ l,s_DownSegments (d,cc) r=some l∧SegsD n l:=by
 have hd:=hk.down
 unfold s_DownSegments
 refine loop_up (G:=fun o=> ∃ l,o=some l∧SegsD n l) d.length (fun s:Int×List (den tSg)=>s.1) (fun i s=>SegsD i s.2) (fun l:List (den tSg)=>SegsD n l) ?_ ?_ 0 ((0:Int),[]) (by omega) rfl ⟨by simp,fun x hx=>(List.not_mem_nil hx).elim⟩ (fun l hl=>⟨l,rfl,hl⟩)
 ·rintro i ⟨_,l⟩ hi rfl ⟨g1,g2⟩
  simp only at g1 g2
  right
  have h5:=hk.hd d[i] (List.getElem_mem hi)
  obtain ⟨v,ev⟩:=lastA_ans (s:=d[i]) (by omega)
  have ev:s_LastAS (d[i].1,d[i].2.1,d[i].2.2)=some v:=ev
  have ec:=s_copyG (x:=d[i]) (by omega)
  have ec:s_l9Copy (d[i].1,d[i].2.1,d[i].2.2)=some d[i]:=ec
  simp only [decide_eq_true (show (i:Int)<(d.length:Int) by omega),cond_true,idx_nat,List.getElem?_eq_getElem hi,obind_some,ev,ec,apOk_le (b:=40) (n:=l.length) (m:=1) (by decide) (by omega),wr_succ (show i≤1000000000 by omega)]
  cases v==r with
  | true=>exact ⟨_,rfl,rfl,by simp;omega,fun x hx=>(List.mem_append.1 hx).elim (g2 x) fun hx=>by rw [List.mem_singleton.1 hx];exact h5⟩
  | false=>exact ⟨_,rfl,rfl,by show l.length≤i+1;omega,g2⟩
 ·rintro ⟨_,l⟩ rfl ⟨g1,g2⟩
  exact ⟨l,by simp only [decide_eq_false (Int.lt_irrefl _),cond_false],by simp only at g1;omega,g2⟩

theorem betw_ans {n:Nat} (hn:n≤100) {d cc:List (den tSg)} (hk:DbD n d cc) (a b:Int): ∃ l,s_l16Between (d,cc) a b=some l∧SegsD n l:=by
 have hd:=hk.core
 unfold s_l16Between
 refine loop_up (G:=fun o=> ∃ l,o=some l∧SegsD n l) cc.length (fun s:Int×List (den tSg)=>s.1) (fun i s=>SegsD i s.2) (fun l:List (den tSg)=>SegsD n l) ?_ ?_ 0 ((0:Int),[]) (by omega) rfl ⟨by simp,fun x hx=>(List.not_mem_nil hx).elim⟩ (fun l hl=>⟨l,rfl,hl⟩)
 ·rintro i ⟨_,l⟩ hi rfl ⟨g1,g2⟩
  simp only at g1 g2
  right
  have h5:=hk.hc cc[i] (List.getElem_mem hi)
  obtain ⟨v,ev⟩:=lastA_ans (s:=cc[i]) (by omega)
  have ev:s_LastAS (cc[i].1,cc[i].2.1,cc[i].2.2)=some v:=ev
  obtain ⟨u,eu⟩:=firstA_ans (s:=cc[i])
  have eu:s_FirstAS (cc[i].1,cc[i].2.1,cc[i].2.2)=some u:=eu
  have ec:=s_copyG (x:=cc[i]) (by omega)
  have ec:s_l9Copy (cc[i].1,cc[i].2.1,cc[i].2.2)=some cc[i]:=ec
  simp only [decide_eq_true (show (i:Int)<(cc.length:Int) by omega),cond_true,idx_nat,List.getElem?_eq_getElem hi,obind_some,ev,eu,ec,apOk_le (b:=40) (n:=l.length) (m:=1) (by decide) (by omega),wr_succ (show i≤1000000000 by omega)]
  cases u==a with
  | true=>
   simp only [cond_true,obind_some]
   cases v==b with
   | true=>exact ⟨_,rfl,rfl,by simp;omega,fun x hx=>(List.mem_append.1 hx).elim (g2 x) fun hx=>by rw [List.mem_singleton.1 hx];exact h5⟩
   | false=>exact ⟨_,rfl,rfl,by show l.length≤i+1;omega,g2⟩
  | false=>exact ⟨_,rfl,rfl,by show l.length≤i+1;omega,g2⟩
 ·rintro ⟨_,l⟩ rfl ⟨g1,g2⟩
  exact ⟨l,by simp only [decide_eq_false (Int.lt_irrefl _),cond_false],by simp only at g1;omega,g2⟩

theorem index_ans {s:den tSg} (h:s.2.2.length≤1000) (r:Int): ∃ v,s_l23Index s r=some v∧v<(s.2.2.length:Int):=by
 unfold s_l23Index
 refine loop_up (G:=fun o=> ∃ v,o=some v∧v<(s.2.2.length:Int)) s.2.2.length (fun s:Int=>s) (fun i t=>True) (fun z:Unit⊕Int=> ∀ v,z= .inr v→v<(s.2.2.length:Int)) ?_ ?_ 0 (0:Int) (by omega) rfl trivial ?_
 ·rintro i _ hi rfl _
  simp only [decide_eq_true (show (i:Int)<(s.2.2.length:Int) by omega),cond_true,idx_nat,List.getElem?_eq_getElem hi,obind_some,wr_succ (show i≤1000000000 by omega)]
  cases s.2.2[i].1==r with
  | true=>exact .inl ⟨_,rfl,fun v hv=>by cases hv;omega⟩
  | false=>exact .inr ⟨_,rfl,rfl,trivial⟩
 ·rintro _ rfl _
  exact ⟨.inl (),by simp only [decide_eq_false (Int.lt_irrefl _),cond_false],fun v hv=>by cases hv⟩
 ·rintro z hz
  cases z with
  | inl u=>exact ⟨-1,rfl,by omega⟩
  | inr v=>exact ⟨v,rfl,hz v rfl⟩

theorem part_ans {s:den tSg} (h:s.2.2.length≤5) (k i:Int): ∃ q:den tPp,s_MakePart s k i=some q∧q.2.2.2.length≤5:=by
 unfold s_MakePart
 obtain ⟨b1,eb1⟩:=beta_ans (s:=s) i (by omega)
 obtain ⟨b2,eb2⟩:=beta_ans (s:=s) (s.2.2.length:Int) (by omega)
 have eb1:s_BetaAt (s.1,s.2.1,s.2.2) i=some b1:=eb1
 have eb2:s_BetaAt (s.1,s.2.1,s.2.2) (s.2.2.length:Int)=some b2:=eb2
 simp only [s_in,obind_some,both_self,dup_self,dup3_self,dup4_self,dup5_self,eb1,eb2,s_isRev]
 have w1:wr ((s.2.2.length:Int) - 1)=(s.2.2.length:Int) - 1:=wr_small (by omega) (by omega)
 rw [w1]
 cases c1:inR i 0 ((s.2.2.length:Int) - 1) with
 | false=>exact ⟨(0,0,0,[]),rfl,by simp⟩
 | true=>
  cases inR k 1 4 with
  | false=>exact ⟨(0,0,0,[]),rfl,by simp⟩
  | true=>
   obtain ⟨h0,h1⟩:=inR_iff.1 c1
   obtain ⟨m,rfl⟩:=Int.eq_ofNat_of_zero_le h0
   simp only [Bool.not_true,cond_false,obind_some]
   cases isRev k with
   | false=>
    have e1:slOk (m:Int) (s.2.2.length:Int) (s.2.2.length:Int)=true:=slOk_from (by omega)
    have l1:(cut s.2.2 (m:Int) (s.2.2.length:Int)).length≤5:=by unfold cut;rw [List.length_take,List.length_drop];omega
    rw [e1,apOk_le (b:=40) (by decide) (by simp;omega)]
    exact ⟨_,rfl,by simpa using l1⟩
   | true=>
    refine loop_bind (G:=fun o=> ∃ q:den tPp,o=some q∧q.2.2.2.length≤5) (fun (n:Nat) (t:Int×Int×Int×Int×List (den tHop))=>t.1=(n:Int) - 1∧n+t.2.2.2.2.length≤s.2.2.length) (fun q:den tPp=>q.2.2.2.length≤5) ?_ s.2.2.length ((s.2.2.length:Int) - 1,k,s.1,b2,[]) ⟨rfl,by simp⟩ (fun q hq=>⟨q,rfl,hq⟩)
    rintro n ⟨_,x,y,z,l⟩ ⟨rfl,g⟩
    simp only at g
    by_cases hn:(n:Int) - 1≥(m:Int)
    ·right
     have hn1:(n:Int) - 1=((n - 1:Nat):Int):=by omega
     have hi:n - 1<s.2.2.length:=by omega
     refine ⟨n - 1,(((n - 1:Nat):Int) - 1,x,y,z,l++[s.2.2[n - 1]]),by omega,?_,rfl,by simp;omega⟩
     simp only [decide_eq_true hn,cond_true,apOk_le (b:=40) (n:=l.length) (m:=1) (by decide) (by omega)]
     rw [hn1,idx_nat,List.getElem?_eq_getElem hi,obind_some,wr_small (n:=((n - 1:Nat):Int) - 1) (by omega) (by omega)]
    ·left
     exact ⟨(x,y,z,l),by simp only [decide_eq_false hn,cond_false],by show l.length≤5;omega⟩


def PathD (p:den tPt):Prop:=List.length (α:=den tPp) p≤3∧ ∀ x:den tPp,x∈(show List (den tPp) from p)→x.2.2.2.length≤5

def PathsD (n:Nat) (l:List (den tPt)):Prop:=l.length≤n∧ ∀ p∈l,PathD p

theorem path_nil:PathD []:=⟨by simp,fun x hx=>(List.not_mem_nil hx).elim⟩

theorem PathsD.add {n m:Nat} {a b:List (den tPt)} (ha:PathsD n a) (hb:PathsD m b):PathsD (n+m) (a++b):=⟨by rw [List.length_append];have :=ha.1;have :=hb.1;omega,fun p hp=>(List.mem_append.1 hp).elim (ha.2 p) (hb.2 p)⟩

theorem three_ans {up core down:den tSg} (h1:up.2.2.length≤5) (h2:core.2.2.length≤5) (h3:down.2.2.length≤5) (b:Bool): ∃ p,s_JoinThree up core b down=some p∧PathD p:=by
 obtain ⟨q1,e1,k1⟩:=part_ans h1 1 0
 obtain ⟨q2,e2,k2⟩:=part_ans h2 (cond b 3 2) 0
 obtain ⟨q3,e3,k3⟩:=part_ans h3 4 0
 have e1:s_MakePart (up.1,up.2.1,up.2.2) 1 0=some q1:=e1
 have e2:s_MakePart (core.1,core.2.1,core.2.2) (cond b 3 2) 0=some q2:=e2
 have e3:s_MakePart (down.1,down.2.1,down.2.2) 4 0=some q3:=e3
 have eb:(cond b (some (3:Int)) (some (2:Int)))=some (cond b 3 2):=by cases b<;>rfl
 unfold s_JoinThree
 rw [eb]
 simp only [e1,e2,e3,obind_some]
 rw [show apOk 48 0 1=true from by decide]
 have one: ∀ (l:List (den tPp)) (q:den tPp) (n:Nat),l.length≤n→q.2.2.2.length≤5→(∀ x∈l,x.2.2.2.length≤5)→(l++[q]).length≤n+1∧ ∀ x∈l++[q],x.2.2.2.length≤5:=fun l q n hl hq h=>⟨by simp;omega,fun x hx=>(List.mem_append.1 hx).elim (h x) fun hx=>by rw [List.mem_singleton.1 hx];exact hq⟩
 obtain ⟨l1,f1,g1,g2⟩: ∃ l:List (den tPp),(cond (decide ((up.2.2.length:Int)>(0:Int))) (cond true (some [q1]) none) (some []))=some l∧l.length≤1∧ ∀ x∈l,x.2.2.2.length≤5:=by
  cases decide ((up.2.2.length:Int)>(0:Int))
  ·exact ⟨[],rfl,by simp,fun x hx=>(List.not_mem_nil hx).elim⟩
  ·exact ⟨[q1],rfl,by simp,fun x hx=>by rw [List.mem_singleton.1 hx];exact k1⟩
 rw [f1,obind_some,apOk_le (b:=48) (n:=l1.length) (m:=1) (by decide) (by omega)]
 obtain ⟨l2,f2,g3,g4⟩: ∃ l:List (den tPp),(cond (decide ((core.2.2.length:Int)>(0:Int))) (cond true (some (l1++[q2])) none) (some l1))=some l∧l.length≤2∧ ∀ x∈l,x.2.2.2.length≤5:=by
  cases decide ((core.2.2.length:Int)>(0:Int))
  ·exact ⟨l1,rfl,by omega,g2⟩
  ·exact ⟨l1++[q2],rfl,one l1 q2 1 g1 k2 g2⟩
 rw [f2,obind_some,apOk_le (b:=48) (n:=l2.length) (m:=1) (by decide) (by omega)]
 cases decide ((down.2.2.length:Int)>(0:Int))
 ·exact ⟨l2,rfl,Nat.le_trans g3 (by decide),g4⟩
 ·exact ⟨l2++[q3],rfl,one l2 q3 2 g3 k3 g4⟩

theorem cores_ans {n:Nat} (hn:n≤100) {d cc:List (den tSg)} (hk:DbD n d cc) {up down:den tSg} (h1:up.2.2.length≤5) (h3:down.2.2.length≤5) (a b:Int): ∃ l,s_l23Cores (d,cc) up a b down=some l∧PathsD (2 * n) l:=by
 obtain ⟨y1,e1,f1,g1⟩:=betw_ans hn hk a b
 obtain ⟨y2,e2,f2,g2⟩:=betw_ans hn hk b a
 unfold s_l23Cores
 rw [e1,obind_some]
 refine loop_up (G:=fun o=> ∃ l,o=some l∧PathsD (2 * n) l) y1.length (fun s:Int×List (den tPt)=>s.1) (fun i s=>PathsD i s.2) (fun l:List (den tPt)=>PathsD n l) ?_ ?_ 0 ((0:Int),[]) (by omega) rfl ⟨by simp,fun x hx=>(List.not_mem_nil hx).elim⟩ ?_
 ·rintro i ⟨_,l⟩ hi rfl hp
  simp only at hp
  have hl:=hp.1
  right
  obtain ⟨p,ep,kp⟩:=three_ans h1 (g1 y1[i] (List.getElem_mem hi)) h3 false
  have ep:s_JoinThree (up.1,up.2.1,up.2.2) (y1[i].1,y1[i].2.1,y1[i].2.2) false (down.1,down.2.1,down.2.2)=some p:=ep
  refine ⟨(((i+1:Nat):Int),l++[p]),?_,rfl,hp.add (m:=1) ⟨by simp,fun q hq=>by rw [List.mem_singleton.1 hq];exact kp⟩⟩
  simp only [decide_eq_true (show (i:Int)<(y1.length:Int) by omega),decide_eq_true (show (0:Int)≤(i:Int) by omega),cond_true,Int.toNat_natCast,List.getElem?_eq_getElem hi,obind_some,ep,apOk_le (b:=24) (n:=l.length) (m:=1) (by decide) (by omega),wr_succ (show i≤1000000000 by omega)]
 ·rintro ⟨_,l⟩ rfl hp
  simp only at hp
  exact ⟨l,by simp only [decide_eq_false (Int.lt_irrefl _),cond_false],Nat.le_trans hp.1 f1,hp.2⟩
 rintro l1 hl1
 rw [e2,obind_some]
 refine loop_up (G:=fun o=> ∃ l,o=some l∧PathsD (2 * n) l) y2.length (fun s:Int×List (den tPt)=>s.1) (fun i s=>PathsD (n+i) s.2) (fun l:List (den tPt)=>PathsD (2 * n) l) ?_ ?_ 0 ((0:Int),l1) (by omega) rfl hl1 (fun l hl=>⟨l,rfl,hl⟩)
 ·rintro i ⟨_,l⟩ hi rfl hp
  simp only at hp
  have hl:=hp.1
  right
  obtain ⟨p,ep,kp⟩:=three_ans h1 (g2 y2[i] (List.getElem_mem hi)) h3 true
  have ep:s_JoinThree (up.1,up.2.1,up.2.2) (y2[i].1,y2[i].2.1,y2[i].2.2) true (down.1,down.2.1,down.2.2)=some p:=ep
  refine ⟨(((i+1:Nat):Int),l++[p]),?_,rfl,hp.add (m:=1) ⟨by simp,fun q hq=>by rw [List.mem_singleton.1 hq];exact kp⟩⟩
  simp only [decide_eq_true (show (i:Int)<(y2.length:Int) by omega),decide_eq_true (show (0:Int)≤(i:Int) by omega),cond_true,Int.toNat_natCast,List.getElem?_eq_getElem hi,obind_some,ep,apOk_le (b:=24) (n:=l.length) (m:=1) (by decide) (by omega),wr_succ (show i≤1000000000 by omega)]
 ·rintro ⟨_,l⟩ rfl hp
  simp only at hp
  exact ⟨l,by simp only [decide_eq_false (Int.lt_irrefl _),cond_false],Nat.le_trans hp.1 (by omega),hp.2⟩

theorem wr_pred {n:Nat} (h:n≤1000000000):wr ((n:Int) - 1)=(n:Int) - 1:=wr_small (by omega) (by omega)

theorem meet_ans {up down:den tSg} (h1:up.2.2.length≤5) (h2:down.2.2.length≤5): ∃ p,s_JoinUpDown up down=some p∧PathD p:=by
 obtain ⟨y1,e1,l1⟩:=segA_ans (s:=up) (by omega)
 obtain ⟨y2,e2,l2⟩:=segA_ans (s:=down) (by omega)
 have e1:s_SegmentASes (up.1,up.2.1,up.2.2)=some y1:=e1
 have e2:s_SegmentASes (down.1,down.2.1,down.2.2)=some y2:=e2
 have hm: ∃ p,s_l22Meet up down=some p∧PathD p:=by
  unfold s_l22Meet
  rw [e1,obind_some,e2,obind_some,wr_pred (n:=y1.length) (by omega)]
  refine loop_bind (G:=fun o=> ∃ p,o=some p∧PathD p) (fun (n:Nat) (s:Int)=>s=(n:Int) - 1∧n≤y1.length) (fun z:Unit⊕den tPt=> ∀ p,z= .inr p→PathD p) ?_ y1.length ((y1.length:Int) - 1) ⟨rfl,Nat.le_refl _⟩ ?_
  ·rintro n _ ⟨rfl,hn⟩
   by_cases h0:(n:Int) - 1≥0
   ·simp only [decide_eq_true h0,cond_true]
    have hn1:(n:Int) - 1=((n - 1:Nat):Int):=by omega
    have hi:n - 1<y1.length:=by omega
    rw [wr_pred (n:=y2.length) (by omega)]
    refine loop_bind (G:=fun (o:Option (Int⊕(Unit⊕den tPt)))=>(∃ r:Unit⊕den tPt,o=some (Sum.inr r)∧ ∀ p,r=Sum.inr p→PathD p)∨ ∃ (m:Nat) (s':Int),m<n∧o=some (Sum.inl s')∧s'=(m:Int) - 1∧m≤y1.length) (fun (k:Nat) (s:Int)=>s=(k:Int) - 1∧k≤y2.length) (fun z:Unit⊕(Int⊕(Unit⊕den tPt))=>z= .inl ()∨ ∃ p,z= .inr (.inr (.inr p))∧PathD p) ?_ y2.length ((y2.length:Int) - 1) ⟨rfl,Nat.le_refl _⟩ ?_
    ·rintro k _ ⟨rfl,hk⟩
     by_cases g0:(k:Int) - 1≥0
     ·have hk1:(k:Int) - 1=((k - 1:Nat):Int):=by omega
      have hj:k - 1<y2.length:=by omega
      simp only [hn1,hk1,decide_eq_true (show ((k - 1:Nat):Int)≥0 by omega),decide_eq_true (show (0:Int)≤((n - 1:Nat):Int) by omega),decide_eq_true (show (0:Int)≤((k - 1:Nat):Int) by omega),decide_eq_true (show ((n - 1:Nat):Int)<(y1.length:Int) by omega),decide_eq_true (show ((k - 1:Nat):Int)<(y2.length:Int) by omega),cond_true,Int.toNat_natCast,List.getElem?_eq_getElem hi,List.getElem?_eq_getElem hj,obind_some]
      cases y1[n - 1]==y2[k - 1] with
      | true=>
       obtain ⟨q1,f1,g1⟩:=part_ans h1 1 ((n - 1:Nat):Int)
       obtain ⟨q2,f2,g2⟩:=part_ans h2 4 ((k - 1:Nat):Int)
       have f1:s_MakePart (up.1,up.2.1,up.2.2) 1 ((n - 1:Nat):Int)=some q1:=f1
       have f2:s_MakePart (down.1,down.2.1,down.2.2) 4 ((k - 1:Nat):Int)=some q2:=f2
       exact .inl ⟨.inr (.inr (.inr [q1,q2])),by simp only [cond_true,f1,f2,obind_some],.inr ⟨[q1,q2],rfl,by simp,fun x hx=>by
        have hx:x∈[q1,q2]:=hx
        simp only [List.mem_cons,List.not_mem_nil,or_false] at hx
        rcases hx with rfl | rfl
        ·exact g1
        ·exact g2⟩⟩
      | false=>exact .inr ⟨k - 1,((k - 1:Nat):Int) - 1,by omega,by simp only [cond_false,wr_pred (n:=k - 1) (by omega)],rfl,by omega⟩
     ·exact .inl ⟨.inl (),by simp only [decide_eq_false g0,cond_false],.inl rfl⟩
    ·rintro z (rfl | ⟨p,rfl,hp⟩)
     ·exact .inr ⟨n - 1,((n - 1:Nat):Int) - 1,by omega,by simp only [Sum.elim_inl,hn1,wr_pred (n:=n - 1) (by omega)],rfl,by omega⟩
     ·exact .inl ⟨.inr p,rfl,fun q hq=>by cases hq;exact hp⟩
   ·exact .inl ⟨.inl (),by simp only [decide_eq_false h0,cond_false],fun p hp=>by cases hp⟩
  ·rintro z hz
   cases z with
   | inl u=>exact ⟨[],rfl,path_nil⟩
   | inr p=>exact ⟨p,rfl,hz p rfl⟩
 obtain ⟨p,ep,kp⟩:=hm
 have ep:s_l22Meet (up.1,up.2.1,up.2.2) (down.1,down.2.1,down.2.2)=some p:=ep
 exact ⟨p,by unfold s_JoinUpDown;rw [ep,obind_some],kp⟩

theorem PathsD.one {p:den tPt} (h:PathD p):PathsD 1 [p]:=⟨by simp,fun q hq=>by rw [List.mem_singleton.1 hq];exact h⟩

theorem PathsD.mono {n m:Nat} {l:List (den tPt)} (h:PathsD n l) (hm:n≤m):PathsD m l:=⟨Nat.le_trans h.1 hm,h.2⟩


theorem half_ans {y:List (den tSg)} {n:Nat} (hn:n≤100) (hy:SegsD n y) (kind r:Int) {m:Nat} (hm:m≤10000) {l0:List (den tPt)} (h0:PathsD m l0) {T:Type} {k:List (den tPt)→Option T} {G:Option T→Prop} (hk: ∀ l,PathsD (m+n) l→G (k l)):
  G (Option.bind (loopM (fun (s8:Int×List (den tPt))=>cond (decide (s8.1<(y.length:Int))) (Option.bind (cond (decide ((0:Int)≤s8.1)) (cond (decide (s8.1<(y.length:Int))) (Option.bind y[s8.1.toNat]? fun x9=>Option.bind (s_l23Index (x9.1,x9.2.1,x9.2.2) r) fun y10=>cond (decide (y10≥(0:Int))) (cond (decide ((0:Int)≤s8.1)) (cond (decide (s8.1<(y.length:Int))) (Option.bind y[s8.1.toNat]? fun x11=>Option.bind (s_MakePart (x11.1,x11.2.1,x11.2.2) kind y10) fun y12=>cond (apOk 24 s8.2.length 1) (some (s8.2++[[(y12.1,y12.2.1,y12.2.2.1,y12.2.2.2)]])) none) none) none) (some s8.2)) none) none) fun (s13:List (den tPt))=>some (Sum.inl (wr (s8.1+(1:Int)),s13))) (some (Sum.inr s8.2))) ((0:Int),l0)) k):=by
 obtain ⟨hy1,hy2⟩:=hy
 refine loop_up (G:=G) y.length (fun s:Int×List (den tPt)=>s.1) (fun i s=>PathsD (m+i) s.2) (fun l:List (den tPt)=>PathsD (m+n) l) ?_ ?_ 0 ((0:Int),l0) (by omega) rfl h0 hk
 ·rintro i ⟨_,l⟩ hi rfl hp
  simp only at hp
  have hl:=hp.1
  have h5:=hy2 y[i] (List.getElem_mem hi)
  obtain ⟨v,ev,_⟩:=index_ans (s:=y[i]) (by omega) r
  have ev:s_l23Index (y[i].1,y[i].2.1,y[i].2.2) r=some v:=ev
  obtain ⟨q,eq,kq⟩:=part_ans h5 kind v
  have eq:s_MakePart (y[i].1,y[i].2.1,y[i].2.2) kind v=some q:=eq
  right
  simp only [decide_eq_true (show (i:Int)<(y.length:Int) by omega),decide_eq_true (show (0:Int)≤(i:Int) by omega),cond_true,Int.toNat_natCast,List.getElem?_eq_getElem hi,obind_some,ev,eq,apOk_le (b:=24) (n:=l.length) (m:=1) (by decide) (by omega),wr_succ (show i≤1000000000 by omega)]
  cases decide (v≥0) with
  | true=>exact ⟨_,rfl,rfl,hp.add (PathsD.one (p:=[q]) ⟨by simp,fun x hx=>by
    have hx:x∈[q]:=hx
    rw [List.mem_singleton.1 hx];exact kq⟩)⟩
  | false=>exact ⟨_,rfl,rfl,hp.mono (by omega)⟩
 ·rintro ⟨_,l⟩ rfl hp
  simp only at hp
  exact ⟨l,by simp only [decide_eq_false (Int.lt_irrefl _),cond_false],hp.mono (by omega)⟩

theorem alone_ans {n:Nat} (hn:n≤100) {d cc:List (den tSg)} (hk:DbD n d cc) (a b:Int): ∃ l,s_l23Alone (d,cc) a b=some l∧PathsD (4 * n) l:=by
 obtain ⟨y1,e1,g1⟩:=downs_ans hn hk a
 obtain ⟨y2,e2,g2⟩:=downs_ans hn hk b
 obtain ⟨y3,e3,g3⟩:=cores_ans hn hk (up:=(0,0,[])) (down:=(0,0,[])) (by simp) (by simp) a b
 unfold s_l23Alone
 rw [e1,obind_some]
 refine half_ans hn g1 1 b (m:=0) (by omega) (l0:=[]) ⟨by simp,fun x hx=>(List.not_mem_nil hx).elim⟩ (G:=fun o=> ∃ l,o=some l∧PathsD (4 * n) l) (fun l hl=> ?_)
 rw [e2,obind_some]
 refine half_ans hn g2 4 a (m:=0+n) (by omega) hl (G:=fun o=> ∃ l,o=some l∧PathsD (4 * n) l) (fun l hl=> ?_)
 have h1:=hl.1
 have h2:=g3.1
 rw [e3,obind_some,apOk_le (b:=24) (by decide) (by omega)]
 exact ⟨_,rfl,(hl.add g3).mono (by omega)⟩


theorem comb_ans {as:List (den tAS)} {ls:List (den tLk)} (ht:TopD as ls) {d cc:List (den tSg)} (hk:DbD 13 d cc) (a b:Int): ∃ l,s_CombinePaths (as,ls) (d,cc) a b=some l∧PathsD 10000 l:=by
 have hlen:=ht.len
 unfold s_CombinePaths
 rw [s_asOk (t:=(as,ls)) (show as.length≤_ by omega),s_asOk (t:=(as,ls)) (show as.length≤_ by omega),obind_some,obind_some]
 obtain ⟨b1,e1,k1⟩: ∃ v:Bool,(cond (a==b) (some true) (cond (!(asOk (as,ls) a)) (some true) (some (!(asOk (as,ls) b)))))=some v∧(v=false→asOk (as,ls) a=true∧asOk (as,ls) b=true):=by
  cases a==b
  ·cases asOk (as,ls) a
   ·exact ⟨true,rfl,fun h=>by cases h⟩
   ·cases asOk (as,ls) b
    ·exact ⟨true,rfl,fun h=>by cases h⟩
    ·exact ⟨false,rfl,fun _=>⟨rfl,rfl⟩⟩
  ·exact ⟨true,rfl,fun h=>by cases h⟩
 rw [e1,obind_some]
 cases b1 with
 | true=>exact ⟨[],rfl,by simp,fun x hx=>(List.not_mem_nil hx).elim⟩
 | false=>
  obtain ⟨ka,kb⟩:=k1 rfl
  obtain ⟨xa,_,ia⟩:=as_at ka
  obtain ⟨xb,_,ib⟩:=as_at kb
  have ia:idx as a=some xa:=ia
  have ib:idx as b=some xb:=ib
  obtain ⟨y4,e4,g4⟩:=alone_ans (n:=13) (by decide) hk a b
  obtain ⟨y5,e5,g5,f5⟩:=downs_ans (n:=13) (by decide) hk a
  obtain ⟨y6,e6,g6,f6⟩:=downs_ans (n:=13) (by decide) hk b
  simp only [cond_false,e4,e5,e6,obind_some,both_self,dup_self,dup3_self,dup4_self,dup5_self,ia,ib]
  refine loop_up (G:=fun o=> ∃ l,o=some l∧PathsD 10000 l) y5.length (fun s:Int×List (den tPt)=>s.1) (fun i s=>PathsD (52+13 * i) s.2) (fun l:List (den tPt)=>PathsD 221 l) ?_ ?_ 0 ((0:Int),y4) (by omega) rfl g4 ?_
  ·rintro i ⟨_,l⟩ hi rfl hp
   simp only at hp
   right
   simp only [decide_eq_true (show (i:Int)<(y5.length:Int) by omega),cond_true]
   refine loop_up (G:=fun (o:Option ((Int×List (den tPt))⊕List (den tPt)))=> ∃ s':Int×List (den tPt),o=some (Sum.inl s')∧s'.1=((i+1:Nat):Int)∧PathsD (52+13 * (i+1)) s'.2) y6.length (fun s:Int×List (den tPt)=>s.1) (fun j s=>PathsD (52+13 * i+j) s.2) (fun l:List (den tPt)=>PathsD (52+13 * (i+1)) l) ?_ ?_ 0 ((0:Int),l) (by omega) rfl hp ?_
   ·rintro j ⟨_,l⟩ hj rfl hq
    simp only at hq
    have hl:=hq.1
    obtain ⟨p,ep,kp⟩:=meet_ans (f5 y5[i] (List.getElem_mem hi)) (f6 y6[j] (List.getElem_mem hj))
    have ep:s_JoinUpDown (y5[i].1,y5[i].2.1,y5[i].2.2) (y6[j].1,y6[j].2.1,y6[j].2.2)=some p:=ep
    right
    simp only [decide_eq_true (show (j:Int)<(y6.length:Int) by omega),decide_eq_true (show (0:Int)≤(i:Int) by omega),decide_eq_true (show (0:Int)≤(j:Int) by omega),cond_true,Int.toNat_natCast,List.getElem?_eq_getElem hi,List.getElem?_eq_getElem hj,obind_some,ep,apOk_le (b:=24) (n:=l.length) (m:=1) (by decide) (by omega),wr_succ (show j≤1000000000 by omega)]
    cases decide ((List.length (α:=den tPp) p:Int)>0) with
    | true=>exact ⟨_,rfl,rfl,hq.add (PathsD.one kp)⟩
    | false=>exact ⟨_,rfl,rfl,hq.mono (by omega)⟩
   ·rintro ⟨_,l⟩ rfl hq
    simp only at hq
    exact ⟨l,by simp only [decide_eq_false (Int.lt_irrefl _),cond_false],hq.mono (by omega)⟩
   ·rintro l hl
    exact ⟨_,rfl,wr_succ (by omega),hl⟩
  ·rintro ⟨_,l⟩ rfl hp
   simp only at hp
   exact ⟨l,by simp only [decide_eq_false (Int.lt_irrefl _),cond_false],hp.mono (by omega)⟩
  rintro l39 h39
  refine loop_up (G:=fun o=> ∃ l,o=some l∧PathsD 10000 l) y6.length (fun s:Int×List (den tPt)=>s.1) (fun i s=>PathsD (221+26 * i) s.2) (fun l:List (den tPt)=>PathsD 559 l) ?_ ?_ 0 ((0:Int),l39) (by omega) rfl h39 ?_
  ·rintro i ⟨_,l⟩ hi rfl hp
   simp only at hp
   have hl:=hp.1
   simp only [decide_eq_true (show (i:Int)<(y6.length:Int) by omega),decide_eq_true (show (0:Int)≤(i:Int) by omega),cond_true,Int.toNat_natCast,List.getElem?_eq_getElem hi,obind_some]
   cases xa.2.1 with
   | false=>exact .inl ⟨l,by simp only [cond_false],hp.mono (by omega)⟩
   | true=>
    obtain ⟨v,ev⟩:=firstA_ans (s:=y6[i])
    have ev:s_FirstAS (y6[i].1,y6[i].2.1,y6[i].2.2)=some v:=ev
    obtain ⟨q,eq,kq⟩:=cores_ans (n:=13) (by decide) hk (up:=(0,0,[])) (down:=y6[i]) (by simp) (f6 y6[i] (List.getElem_mem hi)) a v
    have hq:=kq.1
    have eq:s_l23Cores (d,cc) (0,0,[]) a v (y6[i].1,y6[i].2.1,y6[i].2.2)=some q:=eq
    exact .inr ⟨(((i+1:Nat):Int),l++q),by simp only [cond_true,ev,eq,obind_some,apOk_le (b:=24) (n:=l.length) (m:=q.length) (by decide) (by omega),wr_succ (show i≤1000000000 by omega)],rfl,(hp.add kq).mono (by omega)⟩
  ·rintro ⟨_,l⟩ rfl hp
   simp only at hp
   exact ⟨l,by simp only [decide_eq_false (Int.lt_irrefl _),cond_false,obind_some],hp.mono (by omega)⟩
  rintro l54 h54
  refine loop_up (G:=fun o=> ∃ l,o=some l∧PathsD 10000 l) y5.length (fun s:Int×List (den tPt)=>s.1) (fun i s=>PathsD (559+26 * i) s.2) (fun l:List (den tPt)=>PathsD 897 l) ?_ ?_ 0 ((0:Int),l54) (by omega) rfl h54 ?_
  ·rintro i ⟨_,l⟩ hi rfl hp
   simp only at hp
   have hl:=hp.1
   simp only [decide_eq_true (show (i:Int)<(y5.length:Int) by omega),decide_eq_true (show (0:Int)≤(i:Int) by omega),cond_true,Int.toNat_natCast,List.getElem?_eq_getElem hi,obind_some]
   cases xb.2.1 with
   | false=>exact .inl ⟨l,by simp only [cond_false],hp.mono (by omega)⟩
   | true=>
    obtain ⟨v,ev⟩:=firstA_ans (s:=y5[i])
    have ev:s_FirstAS (y5[i].1,y5[i].2.1,y5[i].2.2)=some v:=ev
    obtain ⟨q,eq,kq⟩:=cores_ans (n:=13) (by decide) hk (up:=y5[i]) (down:=(0,0,[])) (f5 y5[i] (List.getElem_mem hi)) (by simp) v b
    have hq:=kq.1
    have eq:s_l23Cores (d,cc) (y5[i].1,y5[i].2.1,y5[i].2.2) v b (0,0,[])=some q:=eq
    exact .inr ⟨(((i+1:Nat):Int),l++q),by simp only [cond_true,ev,eq,obind_some,apOk_le (b:=24) (n:=l.length) (m:=q.length) (by decide) (by omega),wr_succ (show i≤1000000000 by omega)],rfl,(hp.add kq).mono (by omega)⟩
  ·rintro ⟨_,l⟩ rfl hp
   simp only at hp
   exact ⟨l,by simp only [decide_eq_false (Int.lt_irrefl _),cond_false,obind_some],hp.mono (by omega)⟩
  rintro l69 h69
  refine loop_up (G:=fun o=> ∃ l,o=some l∧PathsD 10000 l) y5.length (fun s:Int×List (den tPt)=>s.1) (fun i s=>PathsD (897+338 * i) s.2) (fun l:List (den tPt)=>PathsD 10000 l) ?_ ?_ 0 ((0:Int),l69) (by omega) rfl h69 (fun l hl=>⟨l,rfl,hl⟩)
  ·rintro i ⟨_,l⟩ hi rfl hp
   simp only at hp
   right
   simp only [decide_eq_true (show (i:Int)<(y5.length:Int) by omega),cond_true]
   refine loop_up (G:=fun (o:Option ((Int×List (den tPt))⊕List (den tPt)))=> ∃ s':Int×List (den tPt),o=some (Sum.inl s')∧s'.1=((i+1:Nat):Int)∧PathsD (897+338 * (i+1)) s'.2) y6.length (fun s:Int×List (den tPt)=>s.1) (fun j s=>PathsD (897+338 * i+26 * j) s.2) (fun l:List (den tPt)=>PathsD (897+338 * (i+1)) l) ?_ ?_ 0 ((0:Int),l) (by omega) rfl hp ?_
   ·rintro j ⟨_,l⟩ hj rfl hq
    simp only at hq
    have hl:=hq.1
    obtain ⟨v,ev⟩:=firstA_ans (s:=y5[i])
    have ev:s_FirstAS (y5[i].1,y5[i].2.1,y5[i].2.2)=some v:=ev
    obtain ⟨u,eu⟩:=firstA_ans (s:=y6[j])
    have eu:s_FirstAS (y6[j].1,y6[j].2.1,y6[j].2.2)=some u:=eu
    obtain ⟨q,eq,kq⟩:=cores_ans (n:=13) (by decide) hk (up:=y5[i]) (down:=y6[j]) (f5 y5[i] (List.getElem_mem hi)) (f6 y6[j] (List.getElem_mem hj)) v u
    have hq':=kq.1
    have eq:s_l23Cores (d,cc) (y5[i].1,y5[i].2.1,y5[i].2.2) v u (y6[j].1,y6[j].2.1,y6[j].2.2)=some q:=eq
    exact .inr ⟨(((j+1:Nat):Int),l++q),by simp only [decide_eq_true (show (j:Int)<(y6.length:Int) by omega),decide_eq_true (show (i:Int)<(y5.length:Int) by omega),decide_eq_true (show (0:Int)≤(i:Int) by omega),decide_eq_true (show (0:Int)≤(j:Int) by omega),cond_true,Int.toNat_natCast,List.getElem?_eq_getElem hi,List.getElem?_eq_getElem hj,obind_some,ev,eu,eq,apOk_le (b:=24) (n:=l.length) (m:=q.length) (by decide) (by omega),wr_succ (show j≤1000000000 by omega)],rfl,(hq.add kq).mono (by omega)⟩
   ·rintro ⟨_,l⟩ rfl hq
    simp only at hq
    exact ⟨l,by simp only [decide_eq_false (Int.lt_irrefl _),cond_false],hq.mono (by omega)⟩
   ·rintro l hl
    exact ⟨_,rfl,wr_succ (by omega),hl⟩
  ·rintro ⟨_,l⟩ rfl hp
   simp only at hp
   exact ⟨l,by simp only [decide_eq_false (Int.lt_irrefl _),cond_false],hp.mono (by omega)⟩

theorem tot_each {t:Ty} {B:Nat}: ∀ {l:List (den t)},(∀ x∈l,tot t x≤B)→tot (.sl t) l≤(B+1) * l.length
 | [],_=>by simp [tot]
 | x::l,h=>by
  have ih:=tot_each (l:=l) fun y hy=>h y (List.mem_cons_of_mem _ hy)
  have hx:=h x (by simp)
  rw [tot_cons,List.length_cons,Nat.mul_add,Nat.mul_one]
  omega

theorem part_tot {q:den tPp} (h:q.2.2.2.length≤5):tot tPp q≤5:=by
 show tot ti q.1+(tot ti q.2.1+(tot ti q.2.2.1+tot (.sl tHop) q.2.2.2))≤5
 rw [tot_flatL (t:=tHop) rfl]
 show 0+(0+(0+q.2.2.2.length))≤5
 omega

theorem path_tot {p:den tPt} (h:PathD p):tot tPt p≤18:=by
 have h1:=tot_each (t:=tPp) (B:=5) (l:=p) fun x hx=>part_tot (h.2 x hx)
 have h2:=h.1
 show tot (.sl tPp) p≤18
 have :(5+1) * List.length (α:=den tPp) p≤18:=by omega
 exact Nat.le_trans h1 this

theorem paths_tot {n:Nat} {l:List (den tPt)} (h:PathsD n l):tot (.sl tPt) l≤19 * n:=by
 have h1:=tot_each (t:=tPt) (B:=18) (l:=l) fun x hx=>path_tot (h.2 x hx)
 have h2:=h.1
 have :(18+1) * l.length≤19 * n:=by omega
 exact Nat.le_trans h1 this

theorem verPt_ans {as:List (den tAS)} {ls:List (den tLk)} (ht:TopD as ls) {q:den tPp} (h:q.2.2.2.length≤5): ∃ b,s_VerifyPart (as,ls) q=some b:=by
 have hlen:=ht.len
 unfold s_VerifyPart
 refine loop_up (G:=fun o=> ∃ b,o=some b) q.2.2.2.length (fun s:Int=>s) (fun i t=>True) (fun r:Unit⊕Bool=>True) ?_ ?_ 0 (0:Int) (by omega) rfl trivial ?_
 ·rintro i _ hi rfl _
  obtain ⟨bt,et⟩: ∃ v,s_l21Beta (q.1,q.2.1,q.2.2.1,q.2.2.2) (i:Int)=some v:=by
   unfold s_l21Beta
   have e1:=s_betaA (p:=q) (n:=i) (by omega) (by omega)
   have e2:=s_betaA (p:=q) (n:=i+1) (by omega) (by omega)
   have e1:s_BetaAfter (q.1,q.2.1,q.2.2.1,q.2.2.2) (i:Int)=some _:=e1
   have e2:s_BetaAfter (q.1,q.2.1,q.2.2.1,q.2.2.2) ((i+1:Nat):Int)=some _:=e2
   simp only [s_isRev,obind_some,wr_succ (show i≤1000000000 by omega),e1,e2]
   cases isRev q.1<;>exact ⟨_,rfl⟩
  have ev:=s_verH (t:=(as,ls)) (ts:=q.2.1) (beta:=bt) (h:=q.2.2.2[i]) (show as.length≤68719476736 by omega)
  have ev:s_VerifyHop (as,ls) q.2.1 bt (q.2.2.2[i].1,q.2.2.2[i].2.1,q.2.2.2[i].2.2.1,q.2.2.2[i].2.2.2.1,q.2.2.2[i].2.2.2.2)=some _:=ev
  simp only [decide_eq_true (show (i:Int)<(q.2.2.2.length:Int) by omega),cond_true,idx_nat,List.getElem?_eq_getElem hi,obind_some,et,ev,wr_succ (show i≤1000000000 by omega)]
  cases verH (as,ls) q.2.1 bt q.2.2.2[i] with
  | true=>exact .inr ⟨_,rfl,rfl,trivial⟩
  | false=>exact .inl ⟨_,rfl,trivial⟩
 ·rintro _ rfl _
  exact ⟨.inl (),by simp only [decide_eq_false (Int.lt_irrefl _),cond_false],trivial⟩
 ·rintro r _
  cases r with
  | inl u=>exact ⟨_,rfl⟩
  | inr v=>exact ⟨_,rfl⟩

theorem verP_ans {as:List (den tAS)} {ls:List (den tLk)} (ht:TopD as ls) {p:List (den tPp)} (h:PathD p): ∃ b,s_VerifyPath (as,ls) p=some b:=by
 have h3:=h.1
 unfold s_VerifyPath
 refine loop_up (G:=fun o=> ∃ b,o=some b) p.length (fun s:Int=>s) (fun i t=>True) (fun r:Unit⊕Bool=>True) ?_ ?_ 0 (0:Int) (by omega) rfl trivial ?_
 ·rintro i _ hi rfl _
  obtain ⟨b,eb⟩:=verPt_ans ht (q:=p[i]) (h.2 p[i] (List.getElem_mem hi))
  have eb:s_VerifyPart (as,ls) (p[i].1,p[i].2.1,p[i].2.2.1,p[i].2.2.2)=some b:=eb
  simp only [decide_eq_true (show (i:Int)<(p.length:Int) by omega),cond_true,idx_nat,List.getElem?_eq_getElem hi,obind_some,eb,wr_succ (show i≤1000000000 by omega)]
  cases b with
  | true=>exact .inr ⟨_,rfl,rfl,trivial⟩
  | false=>exact .inl ⟨_,rfl,trivial⟩
 ·rintro _ rfl _
  exact ⟨.inl (),by simp only [decide_eq_false (Int.lt_irrefl _),cond_false],trivial⟩
 ·rintro r _
  cases r with
  | inl u=>exact ⟨_,rfl⟩
  | inr v=>exact ⟨_,rfl⟩

theorem usable_ans {as:List (den tAS)} {ls:List (den tLk)} (ht:TopD as ls) {p:List (den tPp)} (h:PathD p) (now:Int): ∃ b,s_PathUsable (as,ls) p now=some b:=by
 have hlen:=ht.len
 have hlk:=ht.links
 have h3:=h.1
 have e1:=s_simpleP (t:=(as,ls)) (p:=p) (show as.length≤_ by omega) (show ls.length≤_ by omega) (Nat.le_trans (path_tot h) (by decide))
 obtain ⟨b2,e2⟩:=verP_ans ht h
 unfold s_PathUsable
 rw [e1,obind_some,e2,obind_some]
 obtain ⟨b3,e3⟩: ∃ b:Bool,(cond (!(simpleP (as,ls) p)) (some true) (some (!b2)))=some b:=by cases simpleP (as,ls) p<;>exact ⟨_,rfl⟩
 rw [e3,obind_some]
 cases b3 with
 | true=>exact ⟨_,rfl⟩
 | false=>
  refine loop_up (G:=fun o=> ∃ b,o=some b) p.length (fun s:Int=>s) (fun i t=>True) (fun r:Unit⊕Bool=>True) ?_ ?_ 0 (0:Int) (by omega) rfl trivial ?_
  ·rintro i _ hi rfl _
   have hh:=h.2 p[i] (List.getElem_mem hi)
   simp only [decide_eq_true (show (i:Int)<(p.length:Int) by omega),cond_true,idx_nat,List.getElem?_eq_getElem hi,obind_some]
   cases decide (p[i].2.1>now) with
   | true=>exact .inl ⟨_,rfl,trivial⟩
   | false=>
    simp only [cond_false]
    refine loop_up (G:=fun (o:Option (Int⊕(Unit⊕Bool)))=>(∃ r,o=some (Sum.inr r)∧True)∨ ∃ s':Int,o=some (Sum.inl s')∧s'=((i+1:Nat):Int)∧True) p[i].2.2.2.length (fun s:Int=>s) (fun j t=>True) (fun z:Unit⊕(Int⊕(Unit⊕Bool))=>z= .inl ()∨ ∃ b,z= .inr (.inr (.inr b))) ?_ ?_ 0 (0:Int) (by omega) rfl trivial ?_
    ·rintro j _ hj rfl _
     have ehv: ∀ (hp:den tHop) (n:Int),s_HopValidAt hp n=some (decide (n≤hp.2.2.2.1)):=fun _ _=>rfl
     simp only [decide_eq_true (show (j:Int)<(p[i].2.2.2.length:Int) by omega),cond_true,idx_nat,List.getElem?_eq_getElem hj,obind_some,ehv,wr_succ (show j≤1000000000 by omega)]
     cases decide (now≤p[i].2.2.2[j].2.2.2.1) with
     | true=>exact .inr ⟨_,rfl,rfl,trivial⟩
     | false=>exact .inl ⟨_,rfl,.inr ⟨false,rfl⟩⟩
    ·rintro _ rfl _
     exact ⟨.inl (),by simp only [decide_eq_false (Int.lt_irrefl _),cond_false],.inl rfl⟩
    ·rintro z (rfl | ⟨b,rfl⟩)
     ·exact .inr ⟨((i+1:Nat):Int),by simp only [Sum.elim_inl,wr_succ (show i≤1000000000 by omega)],rfl,trivial⟩
     ·exact .inl ⟨.inr b,rfl,trivial⟩
  ·rintro _ rfl _
   exact ⟨.inl (),by simp only [decide_eq_false (Int.lt_irrefl _),cond_false],trivial⟩
  ·rintro r _
   cases r with
   | inl u=>exact ⟨_,rfl⟩
   | inr v=>exact ⟨_,rfl⟩

theorem eqPt_ans {a b:den tPp} (h:a.2.2.2.length≤5): ∃ v,s_EqualParts a b=some v:=by
 obtain ⟨v,e⟩:=sameHs_ans (a:=a.2.2.2) (b:=b.2.2.2) (by omega)
 unfold s_EqualParts
 rw [e,obind_some]
 cases a.1==b.1
 ·exact ⟨_,rfl⟩
 ·cases a.2.1==b.2.1
  ·exact ⟨_,rfl⟩
  ·cases a.2.2.1==b.2.2.1<;>exact ⟨_,rfl⟩

theorem eqP_ans {a b:List (den tPp)} (h:PathD a): ∃ v,s_EqualPaths a b=some v:=by
 have h3:=h.1
 have h3:a.length≤3:=h3
 unfold s_EqualPaths
 by_cases hn:a.length=b.length
 ·rw [hn,bne_self_eq_false,cond_false,← hn]
  refine loop_up (G:=fun o=> ∃ b,o=some b) a.length (fun s:Int=>s) (fun i t=>True) (fun r:Unit⊕Bool=>True) ?_ ?_ 0 (0:Int) (by omega) rfl trivial ?_
  ·rintro i _ hi rfl _
   have h2:i<b.length:=by omega
   obtain ⟨v,e⟩:=eqPt_ans (a:=a[i]) (b:=b[i]) (h.2 a[i] (List.getElem_mem hi))
   have e:s_EqualParts (a[i].1,a[i].2.1,a[i].2.2.1,a[i].2.2.2) (b[i].1,b[i].2.1,b[i].2.2.1,b[i].2.2.2)=some v:=e
   simp only [decide_eq_true (show (i:Int)<(a.length:Int) by omega),cond_true,idx_nat,List.getElem?_eq_getElem hi,List.getElem?_eq_getElem h2,obind_some,e,wr_succ (show i≤1000000000 by omega)]
   cases v with
   | true=>exact .inr ⟨_,rfl,rfl,trivial⟩
   | false=>exact .inl ⟨_,rfl,trivial⟩
  ·rintro _ rfl _
   exact ⟨.inl (),by simp only [decide_eq_false (Int.lt_irrefl _),cond_false],trivial⟩
  ·rintro r _
   cases r with
   | inl u=>exact ⟨_,rfl⟩
   | inr v=>exact ⟨_,rfl⟩
 ·rw [show ((a.length:Int) != (b.length:Int))=true by rw [bne_iff_ne];omega,cond_true]
  exact ⟨_,rfl⟩

theorem hasP_ans {n:Nat} (hn:n≤100000) {l:List (den tPt)} (h:PathsD n l) (p:den tPt): ∃ v,s_HasPath l p=some v:=by
 have h1:=h.1
 unfold s_HasPath
 refine loop_up (G:=fun o=> ∃ b,o=some b) l.length (fun s:Int=>s) (fun i t=>True) (fun r:Unit⊕Bool=>True) ?_ ?_ 0 (0:Int) (by omega) rfl trivial ?_
 ·rintro i _ hi rfl _
  obtain ⟨v,e⟩:=eqP_ans (a:=l[i]) (b:=p) (h.2 l[i] (List.getElem_mem hi))
  simp only [decide_eq_true (show (i:Int)<(l.length:Int) by omega),cond_true,idx_nat,List.getElem?_eq_getElem hi,obind_some,e,wr_succ (show i≤1000000000 by omega)]
  cases v with
  | false=>exact .inr ⟨_,rfl,rfl,trivial⟩
  | true=>exact .inl ⟨_,rfl,trivial⟩
 ·rintro _ rfl _
  exact ⟨.inl (),by simp only [decide_eq_false (Int.lt_irrefl _),cond_false],trivial⟩
 ·rintro r _
  cases r with
  | inl u=>exact ⟨_,rfl⟩
  | inr v=>exact ⟨_,rfl⟩

theorem find_ans {as:List (den tAS)} {ls:List (den tLk)} (ht:TopD as ls) {d cc:List (den tSg)} (hk:DbD 13 d cc) (a b now:Int): ∃ l,s_FindPaths (as,ls) (d,cc) a b now=some l∧PathsD 24 l:=by
 obtain ⟨y,ey,hy⟩:=comb_ans ht hk a b
 have hy1:=hy.1
 unfold s_FindPaths
 rw [ey,obind_some]
 refine loop_up (G:=fun o=> ∃ l,o=some l∧PathsD 24 l) y.length (fun s:Int×List (den tPt)=>s.1) (fun i s=>PathsD 24 s.2) (fun l:List (den tPt)=>PathsD 24 l) ?_ ?_ 0 ((0:Int),[]) (by omega) rfl ⟨by simp,fun x hx=>(List.not_mem_nil hx).elim⟩ (fun l hl=>⟨l,rfl,hl⟩)
 ·rintro i ⟨_,l⟩ hi rfl hp
  simp only at hp
  have hl:=hp.1
  have hyi:=hy.2 y[i] (List.getElem_mem hi)
  simp only [decide_eq_true (show (i:Int)<(y.length:Int) by omega),cond_true,obind_some]
  by_cases hc:(l.length:Int)<24
  ·right
   obtain ⟨b1,f1⟩:=usable_ans ht hyi now
   obtain ⟨b2,f2⟩:=hasP_ans (n:=24) (by decide) hp y[i]
   simp only [decide_eq_true hc,cond_true,decide_eq_true (show (0:Int)≤(i:Int) by omega),decide_eq_true (show (i:Int)<(y.length:Int) by omega),Int.toNat_natCast,List.getElem?_eq_getElem hi,obind_some,f1,f2,apOk_le (b:=24) (n:=l.length) (m:=1) (by decide) (by omega),wr_succ (show i≤1000000000 by omega)]
   cases b1 with
   | false=>exact ⟨_,rfl,rfl,hp⟩
   | true=>
    cases b2 with
    | true=>exact ⟨_,rfl,rfl,hp⟩
    | false=>exact ⟨_,rfl,rfl,by simp;omega,fun q hq=>(List.mem_append.1 hq).elim (hp.2 q) fun hq=>by rw [List.mem_singleton.1 hq];exact hyi⟩
  ·left
   exact ⟨l,by simp only [decide_eq_false hc,cond_false],hp⟩
 ·rintro ⟨_,l⟩ rfl hp
  exact ⟨l,by simp only [decide_eq_false (Int.lt_irrefl _),cond_false,obind_some],hp⟩

theorem bytes_ans {code:List Int} (hl:code.length≤1048576) {n:Nat} (hn:n≤1000) {c:List Int} {p h:Int} (hc:Cur code (c,p,h)): ∃ l c' p' h',s_l1Bytes (c,p,h) (n:Int)=some (l,c',p',h')∧(l.length=n∧ ∀ x∈l,0≤x∧x≤255)∧Cur code (c',p',h'):=by
 unfold s_l1Bytes
 refine loop_up (G:=fun o=> ∃ l c' p' h',o=some (l,c',p',h')∧(l.length=n∧ ∀ x∈l,0≤x∧x≤255)∧Cur code (c',p',h')) n (fun s:Int×List Int×List Int×Int×Int=>s.1) (fun i s=>(s.2.1.length=i∧ ∀ x∈s.2.1,0≤x∧x≤255)∧Cur code s.2.2) (fun r:List Int×List Int×Int×Int=>(r.1.length=n∧ ∀ x∈r.1,0≤x∧x≤255)∧Cur code r.2) ?_ ?_ 0 ((0:Int),[],c,p,h) (by omega) rfl ⟨⟨rfl,fun x hx=>(List.not_mem_nil hx).elim⟩,hc⟩ (fun r hr=>⟨r.1,r.2.1,r.2.2.1,r.2.2.2,rfl,hr.1,hr.2⟩)
 ·rintro i ⟨_,l,c1,p1,h1⟩ hi rfl ⟨⟨g1,g2⟩,k1⟩
  simp only at g1 g2 k1
  obtain ⟨v,c2,p2,h2,e2,r2,k2⟩:=byte_ans hl k1
  obtain ⟨m,rfl⟩:=Int.eq_ofNat_of_zero_le r2.1
  right
  refine ⟨(((i+1:Nat):Int),l++[(m:Int)],c2,p2,h2),?_,rfl,⟨by simp [g1],fun x hx=>(List.mem_append.1 hx).elim (g2 x) fun hx=>by rw [List.mem_singleton.1 hx];omega⟩,k2⟩
  simp only [decide_eq_true (show (i:Int)<(n:Int) by omega),cond_true,e2,obind_some,apOk_le (b:=1) (n:=l.length) (m:=1) (by decide) (by omega),wr_succ (show i≤1000000000 by omega),u8_wrap (n:=m) (by omega)]
 ·rintro ⟨_,l,c1,p1,h1⟩ rfl ⟨g,k1⟩
  exact ⟨(l,c1,p1,h1),by simp only [decide_eq_false (Int.lt_irrefl _),cond_false],g,k1⟩

theorem addV_len1 (l:List (den tRv)) (x:den tRv):(addV l x).length≤l.length+1:=by
 have h:=addV_tot l x
 rw [tot_flatL (t:=tRv) rfl] at h
 exact h


def RvD (l:List (den tRv)):Prop:=l.length≤16∧ ∀ y∈l,validV y=true

theorem rvD_nil:RvD []:=⟨by decide,fun x hx=>(List.not_mem_nil hx).elim⟩

theorem addV_rvD {l:List (den tRv)} {x:den tRv} (h:RvD l):RvD (addV l x):=by
 obtain ⟨h1,h2⟩:=h
 unfold addV
 cases hv:validV x with
 | false=>exact ⟨h1,h2⟩
 | true=>
  simp only [cond_true]
  cases hs:scanI (addAt x l) 0 l with
  | some r=>
   have :=scanI_sum (fun r:List (den tRv)=> @ite Nat (RvD r) (Classical.propDecidable _) 0 1) 0 (g:=addAt x l) (l:=l) (k:=0) (fun j y r' hy hr=>by
    have hp:RvD r':=by
     unfold addAt at hr
     cases c1:y.1==x.1 with
     | false=>rw [c1] at hr;cases hr
     | true=>
      cases c2:y.2.1==x.2.1 with
      | false=>rw [c1,c2] at hr;cases hr
      | true=>
       rw [c1,c2] at hr
       injection hr with hr
       rw [← hr]
       have hy':=h2 y (List.mem_of_getElem? hy)
       refine ⟨by simpa using h1,fun z hz=> ?_⟩
       rcases List.mem_or_eq_of_mem_set hz with hz | rfl
       ·exact h2 z hz
       ·unfold validV at hv hy' ⊢
        simp only [Bool.and_eq_true] at hv hy' ⊢
        refine ⟨hy'.1,hy'.2.1,?_⟩
        split
        ·exact hv.2.2
        ·exact hy'.2.2
    simp only [if_pos hp]
    exact Nat.le_refl _) r hs
   by_cases hp:RvD r
   ·exact hp
   ·simp only [if_neg hp] at this
    omega
  | none=>
   have hx: ∀ y∈l++[x],validV y=true:=fun y hy=>(List.mem_append.1 hy).elim (h2 y) fun hy=>by rw [List.mem_singleton.1 hy];exact hv
   by_cases c:16<l.length+1
   ·simp only [c,if_true]
    exact ⟨by simp;omega,fun y hy=>hx y (List.mem_of_mem_drop hy)⟩
   ·simp only [c,if_false]
    exact ⟨by simp;omega,hx⟩

theorem note_ans {code:List Int} (hl:code.length≤1048576) {c:List Int} {p h:Int} (hc:Cur code (c,p,h)): ∃ a b d c' p' h',s_l31Note (c,p,h)=some (a,b,d,c',p',h')∧Cur code (c',p',h'):=by
 obtain ⟨v1,c1,p1,h1,e1,_,k1⟩:=below_ans hl (n:=6) (by decide) (by decide) hc
 obtain ⟨v2,c2,p2,h2,e2,_,k2⟩:=below_ans hl (n:=4) (by decide) (by decide) k1
 obtain ⟨v3,c3,p3,h3,e3,_,k3⟩:=below_ans hl (n:=30) (by decide) (by decide) k2
 refine ⟨v1,wr (1+v2),wr (40+v3),c3,p3,h3,?_,k3⟩
 unfold s_l31Note
 simp only [e1,e2,e3,obind_some]

def RevP (code:List Int) (o:Option (List (den tRv)×List Int×Int×Int)):Prop:= ∃ l c' p' h',o=some (l,c',p',h')∧(l.length≤30∧RvD l)∧Cur code (c',p',h')

theorem revs_ans {code:List Int} (hl:code.length≤1048576) {c:List Int} {p h:Int} (hc:Cur code (c,p,h)):RevP code (s_l31List (c,p,h)):=by
 obtain ⟨v1,c1,p1,h1,e1,r1,k1⟩:=below_ans hl (n:=6) (by decide) (by decide) hc
 obtain ⟨m1,rfl⟩:=Int.eq_ofNat_of_zero_le r1.1
 unfold s_l31List
 simp only [e1,obind_some]
 refine loop_bind (G:=RevP code) (fun (n:Nat) (s:List (den tRv)×Int×List Int×Int×Int)=>s.2.1=(n:Int)∧n≤5∧(s.1.length+n≤5∧RvD s.1)∧Cur code s.2.2) (fun r:List (den tRv)×List Int×Int×Int=>(r.1.length≤5∧RvD r.1)∧Cur code r.2) ?_ m1 ([],(m1:Int),c1,p1,h1) ⟨rfl,by omega,⟨by simp;omega,rvD_nil⟩,k1⟩ ?_
 ·rintro n ⟨l,_,c2,p2,h2⟩ ⟨rfl,g1,⟨g2,gv⟩,g3⟩
  simp only at g2 g3 gv
  cases n with
  | zero=>exact .inl ⟨(l,c2,p2,h2),rfl,⟨by simpa using g2,gv⟩,g3⟩
  | succ n=>
   obtain ⟨a,b,d,c3,p3,h3,e3,k3⟩:=note_ans hl g3
   have ea:=s_addV (l:=l) (x:=(a,b,d)) (by omega)
   have wn:wr (((n+1:Nat):Int) - 1)=(n:Int):=by rw [wr_small (by omega) (by omega)];omega
   refine .inr ⟨n,(addV l (a,b,d),(n:Int),c3,p3,h3),by omega,?_,rfl,by omega,⟨by have :=addV_len1 l (a,b,d);simp only;omega,addV_rvD gv⟩,k3⟩
   simp only [decide_eq_true (show ((n+1:Nat):Int)>0 by omega),cond_true,e3,ea,obind_some,wn]
 rintro ⟨l,c2,p2,h2⟩ ⟨⟨g2,gv⟩,g3⟩
 simp only at g2 g3 gv
 obtain ⟨v3,c3,p3,h3,e3,k3⟩:=once_ans hl (n:=12) (by decide) (by decide) g3
 simp only [e3,obind_some]
 cases v3 with
 | false=>exact ⟨l,c3,p3,h3,rfl,⟨by omega,gv⟩,k3⟩
 | true=>
  simp only [cond_true]
  refine loop_up (G:=RevP code) 6 (fun s:List (den tRv)×Int=>s.2) (fun i s=>s.1.length≤5+4 * i∧RvD s.1) (fun r:List (den tRv)×List Int×Int×Int=>(r.1.length≤30∧RvD r.1)∧Cur code r.2) ?_ ?_ 0 (l,(0:Int)) (by omega) rfl ⟨g2,gv⟩ (fun r hr=>⟨r.1,r.2.1,r.2.2.1,r.2.2.2,rfl,hr.1,hr.2⟩)
  ·rintro i ⟨l,_⟩ hi rfl ⟨g,gv⟩
   simp only at g gv
   right
   simp only [decide_eq_true (show (i:Int)<6 by omega),cond_true]
   refine loop_up (G:=fun (o:Option ((List (den tRv)×Int)⊕(List (den tRv)×List Int×Int×Int)))=> ∃ s':List (den tRv)×Int,o=some (Sum.inl s')∧s'.2=((i+1:Nat):Int)∧s'.1.length≤5+4 * (i+1)∧RvD s'.1) 4 (fun s:List (den tRv)×Int=>s.2) (fun j s=>s.1.length≤5+4 * i+j∧RvD s.1) (fun r:List (den tRv)=>r.length≤5+4 * (i+1)∧RvD r) ?_ ?_ 1 (l,(1:Int)) (by omega) rfl ⟨by show l.length≤_;omega,gv⟩ ?_
   ·rintro j ⟨l,_⟩ hj rfl ⟨g,gv⟩
    simp only at g gv
    have ea:=s_addV (l:=l) (x:=((i:Int),(j:Int),(50:Int))) (by omega)
    right
    refine ⟨(addV l ((i:Int),(j:Int),(50:Int)),((j+1:Nat):Int)),?_,rfl,by have :=addV_len1 l ((i:Int),(j:Int),(50:Int));simp only;omega,addV_rvD gv⟩
    simp only [decide_eq_true (show (j:Int)<4 by omega),cond_true,ea,obind_some,wr_succ (show j≤1000000000 by omega)]
   ·rintro ⟨l,_⟩ rfl ⟨g,gv⟩
    exact ⟨l,by simp only [show decide (((4:Nat):Int)<(4:Int))=false from rfl,cond_false],by simp only at g;omega,gv⟩
   ·rintro l g
    exact ⟨_,rfl,wr_succ (show i≤1000000000 by omega),g⟩
  ·rintro ⟨l,_⟩ rfl ⟨g,gv⟩
   exact ⟨(l,c3,p3,h3),by simp only [show decide (((6:Nat):Int)<(6:Int))=false from rfl,cond_false],⟨by simp only at g ⊢;omega,gv⟩,k3⟩

theorem flow_tot (a b c d cu wa:Int) (ms:List (den tMs)) (ps:List (den tPt)) (rv:List (den tRv)):tot tFl (a,b,c,d,ms,ps,cu,wa,rv)=tot (.sl tMs) ms+tot (.sl tPt) ps+rv.length:=by
 show tot ti a+(tot ti b+(tot ti c+(tot ti d+(tot (.sl tMs) ms+(tot (.sl tPt) ps+(tot ti cu+(tot ti wa+tot (.sl tRv) rv)))))))=_
 rw [tot_flatL (t:=tRv) rfl]
 show 0+(0+(0+(0+(_+(_+(0+(0+_)))))))=_
 omega

theorem msg_tot (b:List Int):tot (.sl tMs) [b]=1+b.length:=by
 rw [tot_cons]
 show 1+tot (.sl tb) b+tot (.sl tMs) []=_
 rw [tot_flatL (t:=tb) rfl]
 rfl

abbrev FlR:=Int×Int×Int×Int×List (den tPt)×Int×Int×List (den tMs)×List (den tRv)×List Int×Int×Int


def FlowP (code:List Int) (o:Option FlR):Prop:=
 ∃ (a b c d cu wa:Int) (ps:List (den tPt)) (ms:List (den tMs)) (rv:List (den tRv)) (c':List Int) (p' h':Int),o=some (a,b,c,d,ps,cu,wa,ms,rv,c',p',h')∧tot tFl (a,b,c,d,ms,ps,cu,wa,rv)≤3000∧(-1≤d∧d≤1001)∧Cur code (c',p',h')

theorem tickF_ack (f:den tFl):(tickF f).1.2.2.2.1=f.2.2.2.1:=by
 unfold tickF
 split
 ·split
  ·rfl
  ·split<;>rfl
 ·rfl


def FlowV (code:List Int) (o:Option FlR):Prop:=
 ∃ (a b c d cu wa:Int) (ps:List (den tPt)) (ms:List (den tMs)) (rv:List (den tRv)) (c':List Int) (p' h':Int),o=some (a,b,c,d,ps,cu,wa,ms,rv,c',p',h')∧(tot tFl (a,b,c,d,ms,ps,cu,wa,rv)≤3000∧validF (a,b,c,d,ms,ps,cu,wa,rv)=true)∧(-1≤d∧d≤1001)∧Cur code (c',p',h')

theorem validF_iff (f:den tFl):validF f=true↔inR f.1 0 7=true∧inR f.2.1 0 7=true∧f.1≠f.2.1∧inR f.2.2.1 0 100000=true∧f.2.2.2.2.1.length≤20∧inR f.2.2.2.1 0 (f.2.2.2.2.1.length:Int)=true∧f.2.2.2.2.2.1.length≤24∧
  (∀ m∈f.2.2.2.2.1,m.length≤40)∧(∀ x∈f.2.2.2.2.2.2.2.2,validV x=true)∧(f.2.2.2.2.2.2.1=0∨inR f.2.2.2.2.2.2.1 0 ((f.2.2.2.2.2.1.length:Int) - 1)=true)∧inR f.2.2.2.2.2.2.2.1 0 4=true∧f.2.2.2.2.2.2.2.2.length≤16:=by
 unfold validF
 simp only [Bool.and_eq_true,Bool.or_eq_true,Bool.not_eq_true',beq_iff_eq,beq_eq_false_iff_ne,decide_eq_true_eq,List.all_eq_true,ne_eq]

theorem nextP_in {c:Int} {n:Nat} (hn:n≤24) (h:c=0∨inR c 0 ((n:Int) - 1)=true):(if wr (c+1)≥(n:Int) then (0:Int) else wr (c+1))=0∨inR (if wr (c+1)≥(n:Int) then (0:Int) else wr (c+1)) 0 ((n:Int) - 1)=true:=by
 have hc:0≤c∧c≤24:=by
  rcases h with e | e
  ·omega
  ·have :=inR_iff.1 e;omega
 rw [wr_small (by omega) (by omega)]
 split
 ·exact .inl rfl
 ·right
  rw [inR_iff]
  omega

theorem wait_in {w:Int} (h:inR w 0 4=true) (h4: ¬ (w==4)=true):inR (wr (w+1)) 0 4=true:=by
 rw [inR_iff] at h
 rw [beq_iff_eq] at h4
 rw [wr_small (by omega) (by omega),inR_iff]
 omega

theorem tickF_val {f:den tFl} (h:validF f=true):validF (tickF f).1=true:=by
 rw [validF_iff] at h
 obtain ⟨h1,h2,h3,h4,h5,h6,h7,h8,h9,h10,h11,h12⟩:=h
 have key: ∀ c w:Int,(c=0∨inR c 0 ((f.2.2.2.2.2.1.length:Int) - 1)=true)→inR w 0 4=true→validF (setCW f c w)=true:=fun c w hc hw=>by
  rw [validF_iff]
  exact ⟨h1,h2,h3,h4,h5,h6,h7,h8,h9,hc,hw,h12⟩
 unfold tickF
 split
 ·split
  ·exact key _ _ h10 rfl
  ·split
   ·exact key _ _ (nextP_in h7 h10) rfl
   ·next e4=>exact key _ _ h10 (wait_in h11 e4)
 ·exact key _ _ h10 rfl

theorem flow_val {code:List Int} (hl:code.length≤1048576) {c:List Int} {p h:Int} (hc:Cur code (c,p,h)):FlowV code (s_l35Draw (c,p,h)):=by
 obtain ⟨as,ls,d1,cc1,c1,p1,h1,e1,ht,hk,k1⟩:=book_ans hl hc
 obtain ⟨a2,b2,c2,p2,h2,e2,⟨ra2,rb2⟩,k2⟩:=ends_as hl (by decide) hk k1
 unfold s_l35Draw
 simp only [e1,e2,obind_some,both_self,dup_self,dup3_self,dup4_self,dup5_self]
 obtain ⟨b3,e3,rb3,nb3⟩: ∃ v:Int,(cond (a2==b2) (some (Int.tmod (wr (a2+(1:Int))) (8:Int))) (some b2))=some v∧(0≤v∧v≤7)∧a2≠v:=by
  by_cases hab:a2=b2
  ·rw [beq_iff_eq.2 hab,wr_small (by omega) (by omega),Int.tmod_eq_emod_of_nonneg (by omega)]
   exact ⟨_,rfl,by omega,by omega⟩
  ·rw [beq_eq_false_iff_ne.2 hab]
   exact ⟨_,rfl,by omega,hab⟩
 have vf0:validF (a2,b3,0,0,[],[],0,0,[])=true:=by
  rw [validF_iff]
  exact ⟨inR_iff.2 ⟨ra2.1,by have :=ra2.2;omega⟩,inR_iff.2 rb3,nb3,rfl,Nat.zero_le _,rfl,Nat.zero_le _,fun x hx=>(List.not_mem_nil hx).elim,fun x hx=>(List.not_mem_nil hx).elim,.inl rfl,rfl,Nat.zero_le _⟩
 obtain ⟨v4,c4,p4,h4,e4,r4,k4⟩:=below_ans hl (n:=3) (by decide) (by decide) k2
 obtain ⟨v5,c5,p5,h5,e5,r5,k5⟩:=below_ans hl (n:=4) (by decide) (by decide) k4
 obtain ⟨m5,rfl⟩:=Int.eq_ofNat_of_zero_le r5.1
 have enf: ∀ a b c:Int,s_NewFlow a b c=some (a,b,c,0,0,0,[],[],[]):=fun _ _ _=>rfl
 have vf1:validF (a2,b3,v4,0,[],[],0,0,[])=true:=by
  rw [validF_iff] at vf0 ⊢
  exact ⟨vf0.1,vf0.2.1,vf0.2.2.1,inR_iff.2 ⟨r4.1,by have :=r4.2;show v4≤100000;omega⟩,vf0.2.2.2.2⟩
 rw [e3,obind_some]
 simp only [e4,enf,e5,obind_some]
 refine loop_bind (G:=FlowV code) (fun (n:Nat) (s:Int×Int×Int×Int×Int×Int×Int×List (den tMs)×List (den tPt)×List (den tRv)×List Int×Int×Int)=>s.1=(n:Int)∧n≤3∧tot (.sl tMs) s.2.2.2.2.2.2.2.1+4 * n≤12∧s.2.2.2.2.2.2.2.2.1=[]∧s.2.2.2.2.2.2.2.2.2.1=[]∧(s.2.2.2.2.1=0∧validF (s.2.1,s.2.2.1,s.2.2.2.1,s.2.2.2.2.1,s.2.2.2.2.2.2.2.1,[],s.2.2.2.2.2.1,s.2.2.2.2.2.2.1,[])=true)∧Cur code s.2.2.2.2.2.2.2.2.2.2) (fun s:Int×Int×Int×Int×Int×Int×List (den tMs)×List (den tPt)×List (den tRv)×List Int×Int×Int=>tot (.sl tMs) s.2.2.2.2.2.2.1≤12∧s.2.2.2.2.2.2.2.1=[]∧s.2.2.2.2.2.2.2.2.1=[]∧(s.2.2.2.1=0∧validF (s.1,s.2.1,s.2.2.1,s.2.2.2.1,s.2.2.2.2.2.2.1,[],s.2.2.2.2.1,s.2.2.2.2.2.1,[])=true)∧Cur code s.2.2.2.2.2.2.2.2.2) ?_ m5 ((m5:Int),a2,b3,v4,(0:Int),(0:Int),(0:Int),[],[],[],c5,p5,h5) ⟨rfl,by omega,by show 0+4 * m5≤12;omega,rfl,rfl,⟨rfl,vf1⟩,k5⟩ ?_
 ·rintro n ⟨_,a,b,cc,d,cu,wa,ms,ps,rv,c6,p6,h6⟩ ⟨rfl,g1,g2,g3,g4,⟨gz,gv⟩,g5⟩
  simp only at g2 g3 g4 gz gv g5
  subst g3
  subst g4
  cases n with
  | zero=>exact .inl ⟨(a,b,cc,d,cu,wa,ms,[],[],c6,p6,h6),rfl,by simp only;omega,rfl,rfl,⟨gz,gv⟩,g5⟩
  | succ n=>
   right
   obtain ⟨v7,c7,p7,h7,e7,r7,k7⟩:=below_ans hl (n:=4) (by decide) (by decide) g5
   obtain ⟨m7,rfl⟩:=Int.eq_ofNat_of_zero_le r7.1
   obtain ⟨l8,c8,p8,h8,e8,⟨r8,b8⟩,k8⟩:=bytes_ans hl (n:=m7) (by omega) k7
   have hf:tot tFl (a,b,cc,d,ms,[],cu,wa,[])≤1000:=by rw [flow_tot];show _+0+0≤_;omega
   have en:=s_enq (f:=(a,b,cc,d,ms,[],cu,wa,[])) (b:=l8) ((sm_of_tot (B:=1000) hf).mono (by decide)) ⟨by omega,fun e he=>trivial⟩
   have wn:wr (((n+1:Nat):Int) - 1)=(n:Int):=by rw [wr_small (by omega) (by omega)];omega
   simp only [decide_eq_true (show ((n+1:Nat):Int)>0 by omega),cond_true,e7,e8,en,obind_some,wn]
   unfold enqR
   split
   ·next hev=>
    refine ⟨n,_,by omega,rfl,rfl,by omega,?_,rfl,rfl,⟨gz,hev⟩,k8⟩
    show tot (.sl tMs) (ms++[l8])+4 * n≤12
    rw [tot_app,msg_tot];omega
   ·refine ⟨n,_,by omega,rfl,rfl,by omega,?_,rfl,rfl,⟨gz,gv⟩,k8⟩
    show tot (.sl tMs) ms+4 * n≤12
    omega
 rintro ⟨a,b,cc,d,cu,wa,ms,ps,rv,c6,p6,h6⟩ ⟨g2,g3,g4,⟨gz,gv⟩,g5⟩
 simp only at g2 g3 g4 gz gv g5
 subst g3
 subst g4
 obtain ⟨l7,c7,p7,h7,e7,⟨r7,rv7⟩,k7⟩:=revs_ans hl g5
 obtain ⟨y,ey,hy⟩:=find_ans ht hk a2 b3 50
 have hy1:=hy.1
 simp only [e7,ey,obind_some,s_min]
 obtain ⟨m9,e9,r9⟩: ∃ m:Nat,(if (5:Int)<(y.length:Int) then (5:Int) else (y.length:Int))=(m:Int)∧m≤y.length:=by
  by_cases h5:(5:Int)<(y.length:Int)
  ·exact ⟨5,by rw [if_pos h5];rfl,by omega⟩
  ·exact ⟨y.length,by rw [if_neg h5],Nat.le_refl _⟩
 rw [e9,slOk_to r9,cond_true,cut_take]
 have hpt:tot (.sl tPt) (y.take m9)≤456:=Nat.le_trans (tot_take _ _) (paths_tot hy)
 have hf:tot tFl (a,b,cc,d,ms,[],cu,wa,l7)≤1073741824:=by rw [flow_tot];show _+0+_≤_;omega
 have es:=s_setP (f:=(a,b,cc,d,ms,[],cu,wa,l7)) (p:=y.take m9) (now:=50) hf (Nat.le_trans hpt (by decide))
 have hnp:=newPs_tot (a,b,cc,d,ms,[],cu,wa,l7) (y.take m9) 50
 simp only [es,obind_some]
 have vf2:validF (a,b,cc,d,ms,newPs (a,b,cc,d,ms,[],cu,wa,l7) (y.take m9) 50,0,0,l7)=true:=by
  rw [validF_iff] at gv ⊢
  obtain ⟨q1,q2,q3,q4,q5,q6,q7,q8,q9,q10,q11,q12⟩:=gv
  exact ⟨q1,q2,q3,q4,q5,q6,by unfold newPs;simp only [List.length_take];omega,q8,rv7.2,.inl rfl,rfl,rv7.1⟩
 generalize newPs (a,b,cc,d,ms,[],cu,wa,l7) (y.take m9) 50=ps at hnp vf2
 obtain ⟨v8,c8,p8,h8,e8,r8,k8⟩:=below_ans hl (n:=8) (by decide) (by decide) k7
 obtain ⟨m8,rfl⟩:=Int.eq_ofNat_of_zero_le r8.1
 simp only [e8,obind_some]
 refine loop_bind (G:=FlowV code) (fun (n:Nat) (s:Int×Int×Int×Int×Int×List (den tPt)×Int×Int×List (den tMs)×List (den tRv))=>s.1=(n:Int)∧n≤8∧tot tFl (s.2.1,s.2.2.1,s.2.2.2.1,s.2.2.2.2.1,s.2.2.2.2.2.2.2.2.1,s.2.2.2.2.2.1,s.2.2.2.2.2.2.1,s.2.2.2.2.2.2.2.1,s.2.2.2.2.2.2.2.2.2)≤1000∧s.2.2.2.2.1=0∧validF (s.2.1,s.2.2.1,s.2.2.2.1,s.2.2.2.2.1,s.2.2.2.2.2.2.2.2.1,s.2.2.2.2.2.1,s.2.2.2.2.2.2.1,s.2.2.2.2.2.2.2.1,s.2.2.2.2.2.2.2.2.2)=true) (fun s:FlR=>tot tFl (s.1,s.2.1,s.2.2.1,s.2.2.2.1,s.2.2.2.2.2.2.2.1,s.2.2.2.2.1,s.2.2.2.2.2.1,s.2.2.2.2.2.2.1,s.2.2.2.2.2.2.2.2.1)≤1000∧(s.2.2.2.1=0∧validF (s.1,s.2.1,s.2.2.1,s.2.2.2.1,s.2.2.2.2.2.2.2.1,s.2.2.2.2.1,s.2.2.2.2.2.1,s.2.2.2.2.2.2.1,s.2.2.2.2.2.2.2.2.1)=true)∧Cur code s.2.2.2.2.2.2.2.2.2) ?_ m8 ((m8:Int),a,b,cc,d,ps,(0:Int),(0:Int),ms,l7) ⟨rfl,by omega,by simp only;rw [flow_tot];omega,gz,vf2⟩ ?_
 ·rintro n ⟨_,a,b,cc,d,ps,cu,wa,ms,rv⟩ ⟨rfl,g1,g2,gz,gv⟩
  simp only at g2 gz gv
  cases n with
  | zero=>exact .inl ⟨(a,b,cc,d,ps,cu,wa,ms,rv,c8,p8,h8),rfl,g2,⟨gz,gv⟩,k8⟩
  | succ n=>
   right
   have et:=s_tickF (f:=(a,b,cc,d,ms,ps,cu,wa,rv)) (Nat.le_trans g2 (by decide))
   have htt:=(tickF_tot (a,b,cc,d,ms,ps,cu,wa,rv)).1
   have wn:wr (((n+1:Nat):Int) - 1)=(n:Int):=by rw [wr_small (by omega) (by omega)];omega
   simp only [decide_eq_true (show ((n+1:Nat):Int)>0 by omega),cond_true,et,obind_some,wn]
   refine ⟨n,_,by omega,rfl,rfl,by omega,?_,(tickF_ack (a,b,cc,d,ms,ps,cu,wa,rv)).trans gz,tickF_val gv⟩
   show tot tFl (tickF (a,b,cc,d,ms,ps,cu,wa,rv)).1≤1000
   rw [htt];exact g2
 rintro ⟨a,b,cc,d,ps,cu,wa,ms,rv,c9,p9,h9⟩ ⟨g2,⟨gz,gv⟩,g3⟩
 simp only at g2 gz gv g3
 have gz': -1≤d∧d≤1001:=by omega
 have hml:ms.length≤1000:=by
  rw [flow_tot] at g2
  have :=tot_len (t:=tMs) ms
  omega
 simp only
 by_cases hm:(ms.length:Int)>0
 ·obtain ⟨v10,c10,p10,h10,e10,k10⟩:=once_ans hl (n:=2) (by decide) (by decide) g3
  simp only [decide_eq_true hm,cond_true,e10,obind_some]
  cases v10 with
  | false=>exact ⟨a,b,cc,d,cu,wa,ps,ms,rv,c10,p10,h10,rfl,⟨Nat.le_trans g2 (by decide),gv⟩,gz',k10⟩
  | true=>
   have wl:wr ((ms.length:Int)+1)=((ms.length+1:Nat):Int):=wr_succ (by omega)
   have hv:=(validF_iff _).1 gv
   have hv5:ms.length≤20:=hv.2.2.2.2.1
   obtain ⟨v11,c11,p11,h11,e11,r11,k11⟩:=below_ans hl (n:=((ms.length+1:Nat):Int)) (by omega) (by omega) k10
   refine ⟨a,b,cc,v11,cu,wa,ps,ms,rv,c11,p11,h11,by simp only [cond_true,wl,e11,obind_some],⟨?_,?_⟩,by omega,k11⟩
   ·rw [flow_tot] at g2 ⊢
    omega
   ·rw [validF_iff]
    exact ⟨hv.1,hv.2.1,hv.2.2.1,hv.2.2.2.1,hv5,inR_iff.2 ⟨r11.1,by have :=r11.2;show v11≤(ms.length:Int);omega⟩,hv.2.2.2.2.2.2⟩
 ·simp only [decide_eq_false hm,cond_false,obind_some]
  exact ⟨a,b,cc,d,cu,wa,ps,ms,rv,c9,p9,h9,rfl,⟨Nat.le_trans g2 (by decide),gv⟩,gz',g3⟩

theorem flow_ans {code:List Int} (hl:code.length≤1048576) {c:List Int} {p h:Int} (hc:Cur code (c,p,h)):FlowP code (s_l35Draw (c,p,h)):=by
 obtain ⟨a,b,cc,d,cu,wa,ps,ms,rv,c1,p1,h1,e,⟨t,_⟩,gz,k⟩:=flow_val hl hc
 exact ⟨a,b,cc,d,cu,wa,ps,ms,rv,c1,p1,h1,e,t,gz,k⟩

theorem anyF_ans {code:List Int} (hl:code.length≤1048576) {c:List Int} {p h:Int} (hc:Cur code (c,p,h)):FlowP code (s_l35Any (c,p,h)):=by
 obtain ⟨a,b,cc,d,cu,wa,ps,ms,rv,c1,p1,h1,e1,g1,gz,k1⟩:=flow_ans hl hc
 obtain ⟨v2,c2,p2,h2,e2,r2,k2⟩:=below_ans hl (n:=12) (by decide) (by decide) k1
 have ft: ∀ a b cc d cu wa:Int,tot tFl (a,b,cc,d,ms,ps,cu,wa,rv)≤3000:=fun _ _ _ _ _ _=>by rw [flow_tot] at g1 ⊢;exact g1
 unfold s_l35Any
 simp only [e1,e2,obind_some]
 cases v2==(0:Int) with
 | true=>
  obtain ⟨v3,c3,p3,h3,e3,r3,k3⟩:=below_ans hl (n:=9) (by decide) (by decide) k2
  exact ⟨a,b,cc,d,wr (v3 - 1),wa,ps,ms,rv,c3,p3,h3,by simp only [cond_true,e3,obind_some],ft ..,gz,k3⟩
 | false=>
  cases v2==(1:Int) with
  | true=>
   obtain ⟨v3,c3,p3,h3,e3,r3,k3⟩:=int_ans hl (l:=[(-1:Int),(4:Int),(5:Int)]) (by decide) (by decide) k2
   exact ⟨a,b,cc,d,cu,v3,ps,ms,rv,c3,p3,h3,by simp only [cond_true,cond_false,e3,obind_some],ft ..,gz,k3⟩
  | false=>
   cases v2==(2:Int) with
   | true=>
    obtain ⟨v3,c3,p3,h3,e3,r3,k3⟩:=int_ans hl (l:=[(-1:Int),(3:Int),(21:Int)]) (by decide) (by decide) k2
    exact ⟨a,b,cc,v3,cu,wa,ps,ms,rv,c3,p3,h3,by simp only [cond_true,cond_false,e3,obind_some],ft ..,(by simp only [List.mem_cons,List.not_mem_nil,or_false] at r3;rcases r3 with rfl | rfl | rfl<;>decide),k3⟩
   | false=>
    cases v2==(3:Int) with
    | true=>
     obtain ⟨v3,c3,p3,h3,e3,r3,k3⟩:=int_ans hl (l:=[a,(8:Int)]) (by simp) (by simp) k2
     exact ⟨a,v3,cc,d,cu,wa,ps,ms,rv,c3,p3,h3,by simp only [cond_true,cond_false,e3,obind_some],ft ..,gz,k3⟩
    | false=>exact ⟨a,b,cc,d,cu,wa,ps,ms,rv,c2,p2,h2,by simp only [cond_false,obind_some],ft ..,gz,k2⟩

theorem oneF_ans {code:List Int} (hl:code.length≤1048576): ∃ (a b cc d cu wa:Int) (ps:List (den tPt)) (ms:List (den tMs)) (rv:List (den tRv)) (c':List Int) (p' h':Int),s_l35One code=some (a,b,cc,d,ps,cu,wa,c',p',h',ms,rv)∧tot tFl (a,b,cc,d,ms,ps,cu,wa,rv)≤3000∧(-1≤d∧d≤1001)∧Cur code (c',p',h'):=by
 obtain ⟨c,p,h,e,k⟩:=new_ans hl
 obtain ⟨a,b,cc,d,cu,wa,ps,ms,rv,c1,p1,h1,e1,g1,gz,k1⟩:=anyF_ans hl k
 refine ⟨a,b,cc,d,cu,wa,ps,ms,rv,c1,p1,h1,?_,g1,gz,k1⟩
 unfold s_l35One
 simp only [e,e1,obind_some]


def Cmp {α:Type} (a b:α) (o:Option Bool):Prop:= ∃ v,o=some v∧(a=b→v=true)


theorem cmp_list {α:Type} (a b:List α) (st:Int→Option (Int⊕(Unit⊕Bool))) (h:a.length≤1073741824)
  (hs: ∀ (i:Nat) (hi:i<a.length) (hj:i<b.length),∃ v:Bool,st (i:Int)=some (cond (!v) (.inr (.inr false)) (.inl ((i+1:Nat):Int)))∧(a[i]=b[i]→v=true)) (he:st (a.length:Int)=some (.inr (.inl ()))):
  Cmp a b (cond ((a.length:Int) != (b.length:Int)) (some false) (Option.bind (loopM st (0:Int)) fun z=>Sum.elim (fun _=>some true) some z)):=by
 by_cases hn:a.length=b.length
 ·rw [hn,bne_self_eq_false,cond_false]
  refine loop_up (G:=Cmp a b) a.length (fun s:Int=>s) (fun i t=>True) (fun r:Unit⊕Bool=>a=b→r= .inl ()) ?_ ?_ 0 (0:Int) (by omega) rfl trivial ?_
  ·rintro i _ hi rfl _
   obtain ⟨v,e,k⟩:=hs i hi (by omega)
   rw [e]
   cases v with
   | true=>exact .inr ⟨_,rfl,rfl,trivial⟩
   | false=>exact .inl ⟨.inr false,rfl,fun e=>by subst e;cases k rfl⟩
  ·rintro _ rfl _
   exact ⟨.inl (),he,fun _=>rfl⟩
  ·rintro r hr
   cases r with
   | inl u=>exact ⟨true,rfl,fun _=>rfl⟩
   | inr v=>exact ⟨v,rfl,fun e=>by cases hr e⟩
 ·rw [show ((a.length:Int) != (b.length:Int))=true by rw [bne_iff_ne];omega,cond_true]
  exact ⟨false,rfl,fun e=>absurd (congrArg List.length e) hn⟩

theorem same_cmp {a b:List Int} (h:a.length≤1000000):Cmp a b (l_same a b):=by
 unfold l_same
 refine cmp_list a b _ (by omega) (fun i hi hj=>⟨a[i]==b[i],?_,fun e=>by simpa using e⟩) ?_
 ·simp only [decide_eq_true (show (i:Int)<(a.length:Int) by omega),cond_true,idx_nat,List.getElem?_eq_getElem hi,List.getElem?_eq_getElem hj,obind_some,wr_succ (show i≤1000000000 by omega),bne]
  cases a[i]==b[i]<;>rfl
 ·simp only [decide_eq_false (Int.lt_irrefl _),cond_false]

theorem bodies_cmp {a b:List (List Int)} (h:a.length≤1000000) (hm: ∀ m∈a,m.length≤1000000):Cmp a b (l_sameBodies a b):=by
 unfold l_sameBodies
 refine cmp_list a b _ (by omega) (fun i hi hj=> ?_) ?_
 ·obtain ⟨v,e,k⟩:=same_cmp (a:=a[i]) (b:=b[i]) (hm _ (List.getElem_mem hi))
  refine ⟨v,?_,k⟩
  simp only [decide_eq_true (show (i:Int)<(a.length:Int) by omega),cond_true,idx_nat,List.getElem?_eq_getElem hi,List.getElem?_eq_getElem hj,obind_some,wr_succ (show i≤1000000000 by omega),e]
  cases v<;>rfl
 ·simp only [decide_eq_false (Int.lt_irrefl _),cond_false]

theorem notes_cmp {a b:List (den tRv)} (h:a.length≤1000000):Cmp a b (l_sameNotes a b):=by
 unfold l_sameNotes
 refine cmp_list a b _ (by omega) (fun i hi hj=>⟨((a[i].1==b[i].1)&&((a[i].2.1==b[i].2.1)&&((a[i].2.2==b[i].2.2)&&true))),?_,fun e=>by rw [e];simp⟩) ?_
 ·simp only [decide_eq_true (show (i:Int)<(a.length:Int) by omega),cond_true,idx_nat,List.getElem?_eq_getElem hi,List.getElem?_eq_getElem hj,obind_some,wr_succ (show i≤1000000000 by omega)]
  cases ((a[i].1==b[i].1)&&((a[i].2.1==b[i].2.1)&&((a[i].2.2==b[i].2.2)&&true)))<;>rfl
 ·simp only [decide_eq_false (Int.lt_irrefl _),cond_false]

theorem hops_cmp {a b:List (den tHop)} (h:a.length≤1000000):Cmp a b (l_sameHops a b):=by
 unfold l_sameHops
 refine cmp_list a b _ (by omega) (fun i hi hj=>⟨((a[i].1==b[i].1)&&((a[i].2.1==b[i].2.1)&&((a[i].2.2.1==b[i].2.2.1)&&((a[i].2.2.2.1==b[i].2.2.2.1)&&((a[i].2.2.2.2==b[i].2.2.2.2)&&true))))),?_,fun e=>by rw [e];simp⟩) ?_
 ·simp only [decide_eq_true (show (i:Int)<(a.length:Int) by omega),cond_true,idx_nat,List.getElem?_eq_getElem hi,List.getElem?_eq_getElem hj,obind_some,wr_succ (show i≤1000000000 by omega)]
  cases ((a[i].1==b[i].1)&&((a[i].2.1==b[i].2.1)&&((a[i].2.2.1==b[i].2.2.1)&&((a[i].2.2.2.1==b[i].2.2.2.1)&&((a[i].2.2.2.2==b[i].2.2.2.2)&&true)))))<;>rfl
 ·simp only [decide_eq_false (Int.lt_irrefl _),cond_false]

theorem part_cmp {a b:den tPp} (h:a.2.2.2.length≤1000000):Cmp a b (l_samePart a b):=by
 obtain ⟨v,e,k⟩:=hops_cmp (a:=a.2.2.2) (b:=b.2.2.2) h
 unfold l_samePart
 rw [e,obind_some]
 cases c1:a.1==b.1
 ·exact ⟨false,rfl,fun e=>by subst e;simp at c1⟩
 ·cases c2:a.2.1==b.2.1
  ·exact ⟨false,rfl,fun e=>by subst e;simp at c2⟩
  ·cases c3:a.2.2.1==b.2.2.1
   ·exact ⟨false,rfl,fun e=>by subst e;simp at c3⟩
   ·exact ⟨v,rfl,fun e=>by subst e;exact k rfl⟩

theorem path_cmp {a b:List (den tPp)} (h:a.length≤1000000) (hp: ∀ x∈a,x.2.2.2.length≤1000000):Cmp a b (l_samePath a b):=by
 unfold l_samePath
 refine cmp_list a b _ (by omega) (fun i hi hj=> ?_) ?_
 ·obtain ⟨v,e,k⟩:=part_cmp (a:=a[i]) (b:=b[i]) (hp _ (List.getElem_mem hi))
  have e:l_samePart (a[i].1,a[i].2.1,a[i].2.2.1,a[i].2.2.2) (b[i].1,b[i].2.1,b[i].2.2.1,b[i].2.2.2)=some v:=e
  refine ⟨v,?_,k⟩
  simp only [decide_eq_true (show (i:Int)<(a.length:Int) by omega),cond_true,idx_nat,List.getElem?_eq_getElem hi,List.getElem?_eq_getElem hj,obind_some,wr_succ (show i≤1000000000 by omega),e]
  cases v<;>rfl
 ·simp only [decide_eq_false (Int.lt_irrefl _),cond_false]

theorem paths_cmp {a b:List (den tPt)} (h:a.length≤1000000) (hp: ∀ p:List (den tPp),p∈(show List (List (den tPp)) from a)→p.length≤1000000∧ ∀ x∈p,x.2.2.2.length≤1000000):Cmp a b (l_samePaths a b):=by
 unfold l_samePaths
 refine cmp_list a b _ (by omega) (fun i hi hj=> ?_) ?_
 ·obtain ⟨h1,h2⟩:=hp a[i] (List.getElem_mem hi)
  obtain ⟨v,e,k⟩:=path_cmp (a:=a[i]) (b:=b[i]) h1 h2
  refine ⟨v,?_,k⟩
  simp only [decide_eq_true (show (i:Int)<(a.length:Int) by omega),cond_true,idx_nat,List.getElem?_eq_getElem hi,List.getElem?_eq_getElem hj,obind_some,wr_succ (show i≤1000000000 by omega),e]
  cases v<;>rfl
 ·simp only [decide_eq_false (Int.lt_irrefl _),cond_false]

theorem smB_path {p:List (den tPp)} (h:SmB 1000000 tPt p):p.length≤1000000∧ ∀ x∈p,x.2.2.2.length≤1000000:=⟨h.1,fun x hx=>(h.2 x hx).2.2.2.1⟩

theorem flow_cmp {a b:den tFl} (h:SmB 1000000 tFl a):Cmp a b (l_sameFlow a b):=by
 obtain ⟨v1,e1,k1⟩:=bodies_cmp (a:=a.2.2.2.2.1) (b:=b.2.2.2.2.1) h.2.2.2.2.1.1 (fun m hm=>(h.2.2.2.2.1.2 m hm).1)
 obtain ⟨v2,e2,k2⟩:=paths_cmp (a:=a.2.2.2.2.2.1) (b:=b.2.2.2.2.2.1) h.2.2.2.2.2.1.1 (fun p hp=>smB_path (h.2.2.2.2.2.1.2 p hp))
 obtain ⟨v3,e3,k3⟩:=notes_cmp (a:=a.2.2.2.2.2.2.2.2) (b:=b.2.2.2.2.2.2.2.2) h.2.2.2.2.2.2.2.2.1
 unfold l_sameFlow
 rw [e1,obind_some,e2,obind_some,e3,obind_some]
 cases c0:a.1==b.1
 ·exact ⟨false,rfl,fun e=>by subst e;simp at c0⟩
 ·cases c1:a.2.1==b.2.1
  ·exact ⟨false,rfl,fun e=>by subst e;simp at c1⟩
  ·cases c2:a.2.2.1==b.2.2.1
   ·exact ⟨false,rfl,fun e=>by subst e;simp at c2⟩
   ·cases c3:a.2.2.2.1==b.2.2.2.1
    ·exact ⟨false,rfl,fun e=>by subst e;simp at c3⟩
    ·cases v1
     ·exact ⟨false,rfl,fun e=>by subst e;cases k1 rfl⟩
     ·cases v2
      ·exact ⟨false,rfl,fun e=>by subst e;cases k2 rfl⟩
      ·cases c6:a.2.2.2.2.2.2.1==b.2.2.2.2.2.2.1
       ·exact ⟨false,rfl,fun e=>by subst e;simp at c6⟩
       ·cases c7:a.2.2.2.2.2.2.2.1==b.2.2.2.2.2.2.2.1
        ·exact ⟨false,rfl,fun e=>by subst e;simp at c7⟩
        ·exact ⟨v3,rfl,fun e=>by subst e;exact k3 rfl⟩

theorem pkt_cmp {a b:den tPk} (h:SmB 1000000 tPk a):Cmp a b (l_samePacket a b):=by
 obtain ⟨h1,h2⟩:=smB_path h.2.2.2.1
 obtain ⟨v1,e1,k1⟩:=path_cmp (a:=a.2.2.2.1) (b:=b.2.2.2.1) h1 h2
 obtain ⟨v2,e2,k2⟩:=same_cmp (a:=a.2.2.2.2.2.2.2.2.2) (b:=b.2.2.2.2.2.2.2.2.2) h.2.2.2.2.2.2.2.2.2.1
 unfold l_samePacket
 rw [e1,obind_some,e2,obind_some]
 cases c0:a.1==b.1
 ·exact ⟨false,rfl,fun e=>by subst e;simp at c0⟩
 ·cases c1:a.2.1==b.2.1
  ·exact ⟨false,rfl,fun e=>by subst e;simp at c1⟩
  ·cases c2:a.2.2.1==b.2.2.1
   ·exact ⟨false,rfl,fun e=>by subst e;simp at c2⟩
   ·cases v1
    ·exact ⟨false,rfl,fun e=>by subst e;cases k1 rfl⟩
    ·cases c4:a.2.2.2.2.1==b.2.2.2.2.1
     ·exact ⟨false,rfl,fun e=>by subst e;simp at c4⟩
     ·cases c5:a.2.2.2.2.2.1==b.2.2.2.2.2.1
      ·exact ⟨false,rfl,fun e=>by subst e;simp at c5⟩
      ·cases c6:a.2.2.2.2.2.2.1==b.2.2.2.2.2.2.1
       ·exact ⟨false,rfl,fun e=>by subst e;simp at c6⟩
       ·cases c7:a.2.2.2.2.2.2.2.1==b.2.2.2.2.2.2.2.1
        ·exact ⟨false,rfl,fun e=>by subst e;simp at c7⟩
        ·cases c8:a.2.2.2.2.2.2.2.2.1==b.2.2.2.2.2.2.2.2.1
         ·exact ⟨false,rfl,fun e=>by subst e;simp at c8⟩
         ·exact ⟨v2,rfl,fun e=>by subst e;exact k2 rfl⟩


def zst (f:den tFl) (i:Nat):den tFl:=setCW f (((i - 1) / 4:Nat):Int) (if i=0 then 0 else (((i - 1) % 4+1:Nat):Int))

theorem sends_set {f:den tFl} (hs:sends f=true) {k:Nat} (w:Int) (hk:k<f.2.2.2.2.2.1.length):sends (setCW f (k:Int) w)=true:=by
 unfold sends at hs ⊢
 rw [Bool.and_eq_true] at hs ⊢
 exact ⟨inR_iff.2 (show (0:Int)≤(k:Int)∧(k:Int)≤(f.2.2.2.2.2.1.length:Int) - 1 by omega),hs.2⟩

theorem tick_z {f:den tFl} (hs:sends f=true) (hp:f.2.2.2.2.2.1.length≤24) {i:Nat} (hi:i<4 * f.2.2.2.2.2.1.length):
  tickF (zst f i)=(zst f (i+1),if i % 4=0 then nextT (setCW f ((i / 4:Nat):Int) 1) else pk0,decide (i % 4=0)):=by
 have hk:(i - 1) / 4<f.2.2.2.2.2.1.length:=by omega
 have hz:sends (zst f i)=true:=sends_set hs _ hk
 unfold tickF
 rw [if_pos hz]
 have wz:(zst f i).2.2.2.2.2.2.2.1=(if i=0 then 0 else (((i - 1) % 4+1:Nat):Int)):=rfl
 rw [wz]
 by_cases h0:i=0
 ·subst h0
  rfl
 ·rw [if_neg h0]
  rw [if_neg (show ¬ ((((i - 1) % 4+1:Nat):Int)==0)=true by rw [beq_iff_eq];omega)]
  by_cases h4:i % 4=0
  ·have e1:(i - 1) % 4+1=4:=by omega
   have e2:i / 4=(i - 1) / 4+1:=by omega
   have e3:i / 4<f.2.2.2.2.2.1.length:=by omega
   have en:nextP (zst f i)=((i / 4:Nat):Int):=by
    unfold nextP
    have c1:(zst f i).2.2.2.2.2.2.1=(((i - 1) / 4:Nat):Int):=rfl
    have c2:(zst f i).2.2.2.2.2.1=f.2.2.2.2.2.1:=rfl
    rw [c1,c2,wr_succ (by omega),← e2]
    rw [if_neg (by omega)]
   rw [e1,if_pos (by rfl),if_pos h4,decide_eq_true h4,en]
   have st:setCW (zst f i) ((i / 4:Nat):Int) 1=setCW f ((i / 4:Nat):Int) 1:=rfl
   have z1:zst f (i+1)=setCW f ((i / 4:Nat):Int) 1:=by
    unfold zst
    rw [show (i+1 - 1) / 4=i / 4 by rw [Nat.add_sub_cancel],if_neg (by omega),show (i+1 - 1) % 4+1=1 by omega]
    rfl
   rw [st,z1,sends_set hs 1 e3]
  ·rw [if_neg (show ¬ ((((i - 1) % 4+1:Nat):Int)==4)=true by rw [beq_iff_eq];omega),if_neg h4,decide_eq_false h4]
   have z1:zst f (i+1)=setCW (zst f i) (zst f i).2.2.2.2.2.2.1 (wr ((((i - 1) % 4+1:Nat):Int)+1)):=by
    unfold zst
    rw [wr_succ (by omega),show (i+1 - 1) / 4=(i - 1) / 4 by omega,if_neg (by omega),show (i+1 - 1) % 4+1=(i - 1) % 4+1+1 by omega]
    rfl
   rw [z1]

theorem nextT_at {f:den tFl} (hs:sends f=true) {k:Nat} (hk:k<f.2.2.2.2.2.1.length):(nextT (setCW f (k:Int) 1)).2.2.2.1=f.2.2.2.2.2.1[k]∧(nextT (setCW f (k:Int) 1)).2.2.2.2.2.2.2.2.1=f.2.2.2.1:=by
 unfold nextT
 rw [if_pos (sends_set hs 1 hk)]
 have e:(setCW f (k:Int) 1).2.2.2.2.2.1[(setCW f (k:Int) 1).2.2.2.2.2.2.1.toNat]? =some f.2.2.2.2.2.1[k]:=by
  show f.2.2.2.2.2.1[((k:Int)).toNat]? =_
  rw [Int.toNat_natCast,List.getElem?_eq_getElem hk]
 rw [e]
 exact ⟨rfl,rfl⟩


def flowD (f:den tFl):Int×Int×Int×Int×List (den tPt)×Int×Int×List (den tMs)×List (den tRv):=(f.1,f.2.1,f.2.2.1,f.2.2.2.1,f.2.2.2.2.2.1,f.2.2.2.2.2.2.1,f.2.2.2.2.2.2.2.1,f.2.2.2.2.1,f.2.2.2.2.2.2.2.2)

theorem flowF_ans {code:List Int} (hl:code.length≤1048576): ∃ f:den tFl,s_DrawFlow code=some (flowD f)∧tot tFl f≤3000∧validF f=true:=by
 obtain ⟨c,p,h,e,k0⟩:=new_ans hl
 obtain ⟨a,b,cc,d,cu,wa,ps,ms,rv,c1,p1,h1,e1,⟨g1,gv⟩,gz,k1⟩:=flow_val hl k0
 refine ⟨(a,b,cc,d,ms,ps,cu,wa,rv),?_,g1,gv⟩
 unfold s_DrawFlow
 simp only [e,e1,obind_some]
 rfl

theorem tickF_ans {code:List Int} (hl:code.length≤1048576): ∃ f:den tFl,s_DrawTickFlow code=some (flowD f)∧tot tFl f≤3000:=by
 obtain ⟨a,b,cc,d,cu,wa,ps,ms,rv,c1,p1,h1,e1,g1,gz,k1⟩:=oneF_ans hl
 refine ⟨(a,b,cc,d,ms,ps,cu,wa,rv),?_,g1⟩
 unfold s_DrawTickFlow
 simp only [e1,obind_some]
 rfl

theorem nextF_ans {code:List Int} (hl:code.length≤1048576): ∃ f:den tFl,s_DrawNextTransmission code=some (flowD f)∧tot tFl f≤3000:=by
 obtain ⟨a,b,cc,d,cu,wa,ps,ms,rv,c1,p1,h1,e1,g1,gz,k1⟩:=oneF_ans hl
 refine ⟨(a,b,cc,d,ms,ps,cu,wa,rv),?_,g1⟩
 unfold s_DrawNextTransmission
 simp only [e1,obind_some]
 rfl

theorem enqF_ans {code:List Int} (hl:code.length≤1048576): ∃ (f:den tFl) (l:List Int),s_DrawEnqueue code=some (f.1,f.2.1,f.2.2.1,f.2.2.2.1,f.2.2.2.2.2.1,f.2.2.2.2.2.2.1,f.2.2.2.2.2.2.2.1,f.2.2.2.2.1,f.2.2.2.2.2.2.2.2,l)∧tot tFl f≤3000∧l.length≤1000:=by
 obtain ⟨a,b,cc,d,cu,wa,ps,ms,rv,c1,p1,h1,e1,g1,gz,k1⟩:=oneF_ans hl
 obtain ⟨v,c2,p2,h2,e2,r2,k2⟩:=int_ans hl (l:=[(0:Int),(1:Int),(3:Int),(40:Int),(41:Int)]) (by decide) (by decide) k1
 obtain ⟨n,rfl,hn⟩: ∃ n:Nat,v=(n:Int)∧n≤1000:=by
  simp only [List.mem_cons,List.not_mem_nil,or_false] at r2
  rcases r2 with rfl | rfl | rfl | rfl | rfl
  ·exact ⟨0,rfl,by decide⟩
  ·exact ⟨1,rfl,by decide⟩
  ·exact ⟨3,rfl,by decide⟩
  ·exact ⟨40,rfl,by decide⟩
  ·exact ⟨41,rfl,by decide⟩
 obtain ⟨l,c3,p3,h3,e3,⟨r3,b3⟩,k3⟩:=bytes_ans hl hn k2
 refine ⟨(a,b,cc,d,ms,ps,cu,wa,rv),l,?_,g1,by omega⟩
 unfold s_DrawEnqueue
 simp only [e1,e2,e3,obind_some,both_self,dup_self,dup3_self,dup4_self,dup5_self]

theorem setF_ans {code:List Int} (hl:code.length≤1048576): ∃ (f:den tFl) (l:List (den tPt)),s_DrawSetPaths code=some (f.1,f.2.1,f.2.2.1,f.2.2.2.1,f.2.2.2.2.2.1,f.2.2.2.2.2.2.1,f.2.2.2.2.2.2.2.1,l,50,f.2.2.2.2.1,f.2.2.2.2.2.2.2.2)∧tot tFl f≤3000∧tot (.sl tPt) l≤190000:=by
 obtain ⟨a,b,cc,d,cu,wa,ps,ms,rv,c1,p1,h1,e1,g1,gz,k1⟩:=oneF_ans hl
 obtain ⟨as,ls,d2,cc2,c2,p2,h2,e2,ht,hk,k2⟩:=book_ans hl k1
 obtain ⟨a3,b3,c3,p3,h3,e3,k3⟩:=ends_ans hl (by decide) hk k2
 obtain ⟨y,e4,hy⟩:=comb_ans ht hk a3 b3
 have hy1:=hy.1
 obtain ⟨m9,e9,r9⟩: ∃ m:Nat,(if (6:Int)<(y.length:Int) then (6:Int) else (y.length:Int))=(m:Int)∧m≤y.length:=by
  by_cases h5:(6:Int)<(y.length:Int)
  ·exact ⟨6,by rw [if_pos h5];rfl,by omega⟩
  ·exact ⟨y.length,by rw [if_neg h5],Nat.le_refl _⟩
 refine ⟨(a,b,cc,d,ms,ps,cu,wa,rv),y.take m9,?_,g1,Nat.le_trans (tot_take _ _) (paths_tot hy)⟩
 unfold s_DrawSetPaths s_l23Paths
 simp only [e1,e2,e3,e4,obind_some,s_min]
 rw [e9,slOk_to r9,cond_true,cut_take]

theorem newF_ans {code:List Int} (hl:code.length≤1048576): ∃ a b d:Int,s_DrawNewFlow code=some (a,b,d):=by
 obtain ⟨c,p,h,e,k0⟩:=new_ans hl
 obtain ⟨v1,c1,p1,h1,e1,_,k1⟩:=below_ans hl (n:=8) (by decide) (by decide) k0
 obtain ⟨v2,c2,p2,h2,e2,_,k2⟩:=below_ans hl (n:=8) (by decide) (by decide) k1
 obtain ⟨v3,c3,p3,h3,e3,_,k3⟩:=below_ans hl (n:=3) (by decide) (by decide) k2
 refine ⟨v1,v2,v3,?_⟩
 unfold s_DrawNewFlow
 simp only [e,e1,e2,e3,obind_some]

end Go.Proofs.YtkdbhilbpbppiaaGreat
