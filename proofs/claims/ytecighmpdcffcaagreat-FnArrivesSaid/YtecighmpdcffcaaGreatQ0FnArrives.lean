/-
  Facts and plain laws: what the functions compute, in plain words. Conditions: as each says.
-/
import Derived.Test.YtecighmpdcffcaaGreatT0FnArrives
open List renaming length→bUk,mem_of_getElem?→bUi,nil_append→bUz,all_cons→bV8,length_append→bU0,length_singleton→bVo,mem_append→bUe,mem_singleton→bUd,getElem?_eq_some_iff→bUg,map_cons→bUs,sum_cons→bVl,getLast?_concat→bWp,dropLast_concat→bXd,length_nil→bWe,getElem?_cons_zero→bXe,length_take→bVk,getElem?_eq_getElem→bT6,length_cons→bU7,append_assoc→bU5,singleton_append→bXb,append_nil→bVg,all_eq_true→bUx,mem_zipIdx_iff_getElem?→bXf,length_filter_le→bWv,getElem?_drop→bVw,length_drop→bV6,getElem?_map→bWm,length_set→bVu
open Nat renaming le_trans→bT7,le_refl→bUo,zero_le→bUt,mul_le_mul_right→bVm
open Bool renaming eq_false_or_eq_true→bW0,true_and→bU2,eq_iff_iff→bU1,not_true→bUc,not_false→bUn,false_and→bVb,and_eq_true→bT8,false_eq_true→bUh,or_self→bV0,not_eq_true'→bVf,and_false→bV1,true_or→bWf,or_true→bWg,and_self→bWh
open Int renaming toNat_natCast→bUf,tmod→bUy,toNat_of_nonneg→bV7,eq_ofNat_of_zero_le→bUu
open Option renaming getD_some→bU3
open Sum renaming inl→bT5,inr→bT4,elim_inl→bVe
set_option linter.unusedVariables false
set_option linter.unusedSimpArgs false
set_option maxRecDepth 100000
namespace Go.Proofs.YtecighmpdcffcaaGreat
open Go.Ab Go.V
def inR (n a b:Int):Bool:=decide (a<=n)&&decide (n<=b)

theorem tY (n a b:Int):cW n a b=some (inR n a b):=by
 unfold cW inR
 by_cases h:a<=n<;>simp [h]

theorem gQ (n a b:Int):aL n a b=some (inR n a b):=by
 unfold aL inR
 by_cases h:a<=n<;>simp [h]

theorem bS {n a b:Int}:inR n a b=true↔a<=n∧n<=b:=by simp [inR]

theorem aYn {n a b:Int}:inR n a b=false↔ ¬ (a<=n∧n<=b):=by rw [← bS];simp

theorem bL8 (a b:Int):aDc a b=some (if b>a then b else a):=rfl

theorem bB0 (a b:Int):yY a b=some (if b>a then b else a):=by
 unfold yY
 by_cases h:b>a<;>simp [h]

theorem bSr (a b:Int):aHm a b=some (if b<a then b else a):=rfl

theorem aS7 (a b:Int):wR a b=some (if b<a then b else a):=by
 unfold wR
 by_cases h:b<a<;>simp [h]

theorem aGe {b:List Int} (h:b.length<=68719476736):eW b=some b:=by
 unfold eW
 rw [aE (by decide) (by simpa using h)];simp

theorem aWz {l:dA} (h:l.length<=68719476736):oT l=some l:=by
 unfold oT
 rw [aE (by decide) (by simpa using h)];simp

theorem aOu {l:lRv} (h:l.length<=68719476736):dZ l=some l:=by
 unfold dZ
 rw [aE (by decide) (by simpa using h)];simp

theorem aLp {p:den tPp} (h:SmB 68719476736 tPp p):nO p=some p:=by
 unfold nO
 rw [aE (by decide) (by simpa using h.2.2.2.1)];simp

theorem aKv {p:den tPt} (h:SmB 68719476736 tPt p):iZ p=some p:=by
 unfold iZ
 rw [(sK (fun k (a:lPp)=>((k:Int),a)) ((0:Int),[]) [] p (fun _ x a=>a++[x]) bUk (fun _=>1) 68719476736 id rfl (bT7 h.1 (by decide)) (by rw [eS];simpa using h.1) (fun k x a hi hx hd hw hk hb=>by
  have e:=h.2 x (bUi hx)
  simp only [hd,hi,hw,zZ,aA,aWz e.2.2.2.1,aO,aE (b:=48) (by decide) hb]
  simp) (fun a=>by simp)).1,iS (fun x=>x)]
 simp

theorem aDu {p:den tPt} (h:SmB 68719476736 tPt p):gX p=some p:=by
 unfold gX pj4
 rw [(sK (fun k (a:lPp)=>((k:Int),a)) ((0:Int),[]) [] p (fun _ x a=>a++[x]) bUk (fun _=>1) 68719476736 id rfl (bT7 h.1 (by decide)) (by rw [eS];simpa using h.1) (fun k x a hi hx hd hw hk hb=>by
  have e:=h.2 x (bUi hx)
  simp only [hd,hi,hw,zZ,aA,aO,aLp e,aE (b:=48) (by decide) hb]
  simp) (fun a=>by simp)).1,iS (fun x=>x)]
 simp

theorem bKc {l:lPt} (h:SmB 68719476736 (.sl tPt) l):qZ l=some l:=by
 unfold qZ
 rw [(sK (fun k (a:lPt)=>((k:Int),a)) ((0:Int),[]) [] l (fun _ x a=>a++[x]) bUk (fun _=>1) 68719476736 id rfl (bT7 h.1 (by decide)) (by rw [eS];simpa using h.1) (fun k x a hi hx hd hw hk hb=>by
  have e:=h.2 x (bUi hx)
  simp only [hd,hi,hw,zZ,aA,aKv e,aE (b:=24) (by decide) hb]
  simp) (fun a=>by simp)).1,iS (fun x=>x)]
 simp

theorem bKa {l:lPt} (h:SmB 68719476736 (.sl tPt) l):vH l=some l:=by
 unfold vH
 rw [(sK (fun k (a:lPt)=>((k:Int),a)) ((0:Int),[]) [] l (fun _ x a=>a++[x]) bUk (fun _=>1) 68719476736 id rfl (bT7 h.1 (by decide)) (by rw [eS];simpa using h.1) (fun k x a hi hx hd hw hk hb=>by
  have e:=h.2 x (bUi hx)
  simp only [hd,hi,hw,zZ,aA,aDu e,aE (b:=24) (by decide) hb]
  simp) (fun a=>by simp)).1,iS (fun x=>x)]
 simp

theorem aXe {l:lMs} (h:SmB 68719476736 (.sl tMs) l):iK l=some l:=by
 unfold iK
 rw [(sK (fun k (a:lMs)=>((k:Int),a)) ((0:Int),[]) [] l (fun _ x a=>a++[x]) bUk (fun _=>1) 68719476736 id rfl (bT7 h.1 (by decide)) (by rw [eS];simpa using h.1) (fun k x a hi hx hd hw hk hb=>by
  have e:=h.2 x (bUi hx)
  simp only [hd,hi,hw,zZ,aA,aGe e.1,aE (b:=24) (by decide) hb]
  simp) (fun a=>by simp)).1,iS (fun x=>x)]
 simp

theorem aYi {l:lMs} (h:SmB 68719476736 (.sl tMs) l):oM l=some l:=by
 unfold oM
 rw [(sK (fun k (a:lMs)=>((k:Int),a)) ((0:Int),[]) [] l (fun _ x a=>a++[x]) bUk (fun _=>1) 68719476736 id rfl (bT7 h.1 (by decide)) (by rw [eS];simpa using h.1) (fun k x a hi hx hd hw hk hb=>by
  have e:=h.2 x (bUi hx)
  simp only [hd,hi,hw,zZ,aA,aE (b:=1) (n:=([]:List Int).length) (by decide) (by simpa using e.1),aE (b:=24) (by decide) hb]
  simp) (fun a=>by simp)).1,iS (fun x=>x)]
 simp


def oU (f:den tFl):q7:=(f.1,f.2.1,f.2.2.1,f.2.2.2.1,f.2.2.2.2.2.2.1,f.2.2.2.2.2.2.2.1,f.2.2.2.2.1,f.2.2.2.2.2.1,f.2.2.2.2.2.2.2.2)

theorem aPw {f:den tFl} (h:SmB 68719476736 tFl f):lG f=some (oU f):=by
 unfold lG oU zz4 zz5 zz6 zz7 zz8
 simp only [aXe h.2.2.2.2.1,bKc h.2.2.2.2.2.1,aOu h.2.2.2.2.2.2.2.2.1,aA]

theorem aBz {f:den tFl} (h:SmB 68719476736 tFl f):eJ f=some (oU f):=by
 unfold eJ oU zz4 zz5 zz6 zz7 zz8
 simp only [aYi h.2.2.2.2.1,bKa h.2.2.2.2.2.1,aA,aE (b:=24) (n:=([]:lRv).length) (by decide) (by simpa using h.2.2.2.2.2.2.2.2.1),zZ,bUz]

theorem aYb {x:den tIb} (h:SmB 68719476736 tIb x):mD x=some x:=by
 unfold mD
 simp only [aXe h.2.2.2,aA,aO]

theorem aYd {x:den tIb} (h:SmB 68719476736 tIb x):rI x=some x:=by
 unfold rI
 simp only [aYi h.2.2.2,aA,aO]

def fH (x:den tRv):Bool:=inR x.1 0 7&&(inR x.2.1 1 6&&inR x.2.2 0 1000000)

theorem aHk (x:den tRv):cR x=some (fH x):=by
 unfold cR fH
 simp only [tY,aA]
 cases inR x.1 0 7<;>cases inR x.2.1 1 6<;>cases inR x.2.2 0 1000000<;>rfl

theorem aB2 (x:den tRv):bR x=some (fH x):=by
 unfold bR fH
 simp only [gQ,aA]
 cases inR x.1 0 7<;>cases inR x.2.1 1 6<;>cases inR x.2.2 0 1000000<;>rfl


theorem aJ9 {α S:Type} (p:Nat→α→Bool): ∀ (l:List α) (k:Nat) (ρ:S),eC (fun k x=>if p k x then none else some ρ) k l=if (l.zipIdx k).all (fun x=>p x.2 x.1) then none else some ρ
 | [],_,_=>rfl
 | x::xs,k,ρ=>by
  simp only [eC,List.zipIdx_cons,bV8]
  rcases bW0 (p k x) with h | h
  ·simp only [h,zV,bU2];exact aJ9 p xs (k+1) ρ
  ·simp [h]

theorem aYp {α:Type} (p:α→Bool): ∀ (l:List α) (k:Nat),(l.zipIdx k).all (fun x=>p x.1)=l.all p
 | [],_=>rfl
 | x::xs,k=>by simp [List.zipIdx_cons,aYp p xs]

theorem uO {α S:Type} (p:α→Bool) (l:List α) (ρ:S):eC (fun _ x=>if p x then none else some ρ) 0 l=if l.all p then none else some ρ:=by
 rw [aJ9 (fun _ x=>p x),aYp p]

def nV (f:den tFl):Bool:=
 inR f.1 0 7&&(inR f.2.1 0 7&&(!(f.1==f.2.1)&&(inR f.2.2.1 0 100000&&(decide (f.2.2.2.2.1.length<=20)&&(inR f.2.2.2.1 0 (f.2.2.2.2.1.length:Int)&&(decide (f.2.2.2.2.2.1.length<=24)&&
  (f.2.2.2.2.1.all (fun m=>decide (m.length<=40))&&(f.2.2.2.2.2.2.2.2.all fH&&((f.2.2.2.2.2.2.1==0||inR f.2.2.2.2.2.2.1 0 ((f.2.2.2.2.2.1.length:Int) - 1))&&(inR f.2.2.2.2.2.2.2.1 0 4&&decide (f.2.2.2.2.2.2.2.2.length<=16)))))))))))

theorem aUu {f:den tFl} (h:SmB 68719476736 tFl f):lD f=some (nV f):=by
 have h1:=h.2.2.2.2.1.1
 have h2:=h.2.2.2.2.2.1.1
 have h3:=h.2.2.2.2.2.2.2.2.1
 unfold lD nV pj3 zz4 zz5 zz6 zz7 zz8
 rw [cA (l:=f.2.2.2.2.1) (fun _ m=>if decide (m.length<=40) then none else some false) (by omega) (fun k m hi hd hw hx hk=>by
  simp only [hd,hi,hw,zZ,aA]
  by_cases hm:m.length<=40
  ·simp [hm,show ¬ ((m.length:Int)>40) by omega]
  ·simp [hm,show (m.length:Int)>40 by omega]) (by simp)]
 rw [cA (l:=f.2.2.2.2.2.2.2.2) (fun _ x=>if fH x then none else some false) (by omega) (fun k x hi hd hw hx hk=>by
  simp only [hd,hi,hw,zZ,aA,aO,aB2]
  cases fH x<;>rfl) (by simp)]
 rw [uO (fun m:List Int=>decide (m.length<=40)),uO fH]
 have e1:decide ((f.2.2.2.2.1.length:Int)>20)= !decide (f.2.2.2.2.1.length<=20):=by rw [bU1];simp;omega
 have e2:decide ((f.2.2.2.2.2.1.length:Int)>24)= !decide (f.2.2.2.2.2.1.length<=24):=by rw [bU1];simp;omega
 have e3:decide ((f.2.2.2.2.2.2.2.2.length:Int)>16)= !decide (f.2.2.2.2.2.2.2.2.length<=16):=by rw [bU1];simp;omega
 have e4:inR f.2.2.2.2.2.2.1 0 (if ((f.2.2.2.2.2.1.length:Int) - 1)>0 then ((f.2.2.2.2.2.1.length:Int) - 1) else 0)=(f.2.2.2.2.2.2.1==0||inR f.2.2.2.2.2.2.1 0 ((f.2.2.2.2.2.1.length:Int) - 1)):=by
  have key: ∀ (c n:Int),0<=n→inR c 0 (if n - 1>0 then n - 1 else 0)=(c==0||inR c 0 (n - 1)):=fun c n hn=>by
   unfold inR
   by_cases h1:n - 1>0
   ·rw [zT h1]
    by_cases h2:c=0
    ·subst h2;simp;omega
    ·simp [h2]
   ·rw [zS h1]
    by_cases h2:c=0
    ·subst h2;simp
    ·rw [bU1];simp [h2];omega
  exact key _ _ (by omega)
 have e5:wr ((f.2.2.2.2.2.1.length:Int) - 1)=(f.2.2.2.2.2.1.length:Int) - 1:=wri (by omega) (by omega)
 rw [e5]
 simp only [gQ,bB0,aA,e1,e2,e3,e4]
 cases inR f.1 0 7<;>simp only [bUc,bUn,zZ,zY,aA,bVb,bU2]
 cases inR f.2.1 0 7<;>simp only [bUc,bUn,zZ,zY,aA,bVb,bU2]
 cases f.1==f.2.1<;>simp only [bUc,bUn,zZ,zY,aA,bVb,bU2]
 cases inR f.2.2.1 0 100000<;>simp only [bUc,bUn,zZ,zY,aA,bVb,bU2]
 cases decide (f.2.2.2.2.1.length<=20)<;>simp only [bUc,bUn,zZ,zY,aA,bVb,bU2]
 cases inR f.2.2.2.1 0 (f.2.2.2.2.1.length:Int)<;>simp only [bUc,bUn,zZ,zY,aA,bVb,bU2]
 cases decide (f.2.2.2.2.2.1.length<=24)<;>simp only [bUc,bUn,zZ,zY,aA,bVb,bU2]
 cases f.2.2.2.2.2.2.1==0||inR f.2.2.2.2.2.2.1 0 ((f.2.2.2.2.2.1.length:Int) - 1)<;>cases inR f.2.2.2.2.2.2.2.1 0 4<;>cases decide (f.2.2.2.2.2.2.2.2.length<=16)<;>cases f.2.2.2.2.1.all (fun m=>decide (m.length<=40))<;>cases f.2.2.2.2.2.2.2.2.all fH<;>rfl

def xX (x:den tIb) (p:den tPk):Bool:=p.1==1&&(p.2.1==x.2.1&&p.2.2.1==x.1)

theorem aX1 (x:den tIb) (p:den tPk):rB x p=some (xX x p):=by
 unfold rB xX
 cases p.1==1<;>cases p.2.1==x.2.1<;>rfl

theorem aW3 (x:den tIb) (p:den tPk):uD x p=some (xX x p):=by
 unfold uD xX
 cases p.1==1<;>cases p.2.1==x.2.1<;>rfl

def aR8 (x:den tIb) (p:den tPk):Bool:=xX x p&&(p.2.2.2.2.2.2.2.2.1==x.2.2.1&&decide (x.2.2.1<20))

def eA (x:den tIb) (p:den tPk):den tIb:=if aR8 x p then (x.1,x.2.1,wr (x.2.2.1+1),x.2.2.2++[p.2.2.2.2.2.2.2.2.2]) else x

theorem bMo {x:den tIb} {p:den tPk} (hx:SmB 4294967296 tIb x) (hp:SmB 4294967296 tPk p):mF x p=some (eA x p):=by
 have hx':SmB 68719476736 tIb x:=hx.mono (by decide)
 have hp':=(hp.mono (C:=68719476736) (by decide)).2.2.2.2.2.2.2.2.2.1
 unfold mF eA aR8 aI pj4 zz8 zz9
 have ha:=hx.2.2.2.1
 simp only [aO,aYb hx',aX1,aGe hp',aA,aE (b:=24) (n:=x.2.2.2.length) (m:=1) (by decide) (by omega),zZ]
 cases xX x p<;>cases p.2.2.2.2.2.2.2.2.1==x.2.2.1<;>cases decide (x.2.2.1<20)<;>rfl

theorem bOd {x:den tIb} {p:den tPk} (hx:SmB 4294967296 tIb x) (hp:SmB 4294967296 tPk p):mT x p=some (eA x p):=by
 have hx':SmB 68719476736 tIb x:=hx.mono (by decide)
 have hp':=(hp.mono (C:=68719476736) (by decide)).2.2.2.2.2.2.2.2.2.1
 unfold mT eA aR8 aI pj4 zz8 zz9
 have ha:=hx.2.2.2.1
 simp only [aO,aYd hx',aW3,aA,aE (b:=1) (n:=([]:List Int).length) (by decide) (by simpa using hp'),aE (b:=24) (n:=x.2.2.2.length) (m:=1) (by decide) (by omega),zZ,bUz]
 cases xX x p<;>cases p.2.2.2.2.2.2.2.2.1==x.2.2.1<;>cases decide (x.2.2.1<20)<;>rfl

theorem bF5 (x:den tIb) (p:den tPk):tot (.sl tMs) (eA x p).2.2.2<=tot (.sl tMs) x.2.2.2+1+tot (.sl tb) p.2.2.2.2.2.2.2.2.2:=by
 unfold eA
 split
 ·rw [pU,aBq]
  show _+(1+tot (.sl tb) _)<=_
  omega
 ·omega

def aO3 (f:den tFl) (p:den tPk):Bool:=p.1==2&&(p.2.1==f.2.1&&(p.2.2.1==f.1&&(p.2.2.2.2.2.2.2.2.1==f.2.2.2.1&&inR f.2.2.2.1 0 ((f.2.2.2.2.1.length:Int) - 1))))

def tO (f:den tFl) (p:den tPk):den tFl:=if aO3 f p then (f.1,f.2.1,f.2.2.1,wr (f.2.2.2.1+1),f.2.2.2.2.1,f.2.2.2.2.2.1,f.2.2.2.2.2.2.1,0,f.2.2.2.2.2.2.2.2) else f

theorem bNa {f:den tFl} {p:den tPk} (hf:SmB 68719476736 tFl f):rV f p=some (oU (tO f p)):=by
 unfold rV tO aO3 pj3 pj9 zz4 zz5 zz6 zz8
 have e5:wr ((f.2.2.2.2.1.length:Int) - 1)=(f.2.2.2.2.1.length:Int) - 1:=wri (by have :=hf.2.2.2.2.1.1;omega) (by have :=hf.2.2.2.2.1.1;omega)
 simp only [aO,aPw hf,aA,tY,e5]
 cases p.1==2<;>cases p.2.1==f.2.1<;>cases p.2.2.1==f.1<;>cases p.2.2.2.2.2.2.2.2.1==f.2.2.2.1<;>cases inR f.2.2.2.1 0 ((f.2.2.2.2.1.length:Int) - 1)<;>rfl

theorem aYa {f:den tFl} {p:den tPk} (hf:SmB 68719476736 tFl f):oS f p=some (oU (tO f p)):=by
 unfold oS tO aO3 pj3 pj9 zz4 zz5 zz6 zz8
 have e5:wr ((f.2.2.2.2.1.length:Int) - 1)=(f.2.2.2.2.1.length:Int) - 1:=wri (by have :=hf.2.2.2.2.1.1;omega) (by have :=hf.2.2.2.2.1.1;omega)
 simp only [aO,aBz hf,aA,gQ,e5]
 cases p.1==2<;>cases p.2.1==f.2.1<;>cases p.2.2.1==f.1<;>cases p.2.2.2.2.2.2.2.2.1==f.2.2.2.1<;>cases inR f.2.2.2.1 0 ((f.2.2.2.2.1.length:Int) - 1)<;>rfl

theorem aV6 (f:den tFl) (p:den tPk):(tO f p).2.2.2.2.1=f.2.2.2.2.1∧(tO f p).2.2.2.2.2.1=f.2.2.2.2.2.1∧(tO f p).2.2.2.2.2.2.2.2=f.2.2.2.2.2.2.2.2:=by
 unfold tO
 split<;>exact ⟨rfl,rfl,rfl⟩

def enq (f:den tFl) (b:List Int):den tFl:=(f.1,f.2.1,f.2.2.1,f.2.2.2.1,f.2.2.2.2.1++[b],f.2.2.2.2.2.1,f.2.2.2.2.2.2.1,f.2.2.2.2.2.2.2.1,f.2.2.2.2.2.2.2.2)

def aZb (f:den tFl) (b:List Int):Int×Int×Int×Int×Int×Int×Bool×lMs×lPt×lRv:=
 if nV (enq f b) then (f.1,f.2.1,f.2.2.1,f.2.2.2.1,f.2.2.2.2.2.2.1,f.2.2.2.2.2.2.2.1,true,f.2.2.2.2.1++[b],f.2.2.2.2.2.1,f.2.2.2.2.2.2.2.2)
 else (f.1,f.2.1,f.2.2.1,f.2.2.2.1,f.2.2.2.2.2.2.1,f.2.2.2.2.2.2.2.1,false,f.2.2.2.2.1,f.2.2.2.2.2.1,f.2.2.2.2.2.2.2.2)

theorem bPl {f:den tFl} {b:List Int} (hf:SmB 4294967296 tFl f) (hb:SmB 4294967296 (.sl tb) b):SmB 68719476736 tFl (enq f b):=by
 have hf':=hf.mono (C:=68719476736) (by decide)
 refine ⟨hf'.1,hf'.2.1,hf'.2.2.1,hf'.2.2.2.1,⟨?_,fun e he=> ?_⟩,hf'.2.2.2.2.2.1,hf'.2.2.2.2.2.2.1,hf'.2.2.2.2.2.2.2.1,hf'.2.2.2.2.2.2.2.2⟩
 ·show (f.2.2.2.2.1++[b]).length<=_
  have :=hf.2.2.2.2.1.1
  rw [bU0,bVo];omega
 ·rcases bUe.1 he with he | he
  ·exact hf'.2.2.2.2.1.2 e he
  ·rw [bUd.1 he];exact hb.mono (by decide)

theorem bKq {f:den tFl} {b:List Int} (hf:SmB 4294967296 tFl f) (hb:SmB 4294967296 (.sl tb) b):pL f b=some (aZb f b):=by
 unfold pL aZb pj2 pj3 pj9 zz4 zz5 zz6 zz7 zz8
 have hf':=hf.mono (C:=68719476736) (by decide)
 have h1:=hf.2.2.2.2.1.1
 have h2:lD (f.1,f.2.1,f.2.2.1,f.2.2.2.1,f.2.2.2.2.1++[b],f.2.2.2.2.2.1,f.2.2.2.2.2.2.1,f.2.2.2.2.2.2.2.1,f.2.2.2.2.2.2.2.2)=some (nV (enq f b)):=aUu (f:=enq f b) (bPl hf hb)
 simp only [aO,aBz hf',aA,oU,aE (b:=1) (n:=([]:List Int).length) (m:=b.length) (by decide) (by have :=hb.1;simp;omega),aE (b:=24) (n:=f.2.2.2.2.1.length) (m:=1) (by decide) (by omega),zZ,bUz,h2]
 cases nV (enq f b)<;>rfl

def jC (k:Int):Bool:=k==1||k==3

theorem aKq (k:Int):fJ k=some (jC k):=by
 unfold fJ jC
 cases k==1<;>rfl

theorem aBk (k:Int):dI k=some (jC k):=by
 unfold dI jC
 cases k==1<;>rfl

def pIn (p:den tPp) (h:den bZ):Int:=if jC p.1 then h.2.2.1 else h.2.1

def pEg (p:den tPp) (h:den bZ):Int:=if jC p.1 then h.2.1 else h.2.2.1

theorem mK {n:Nat} (h:n<=68719476736):wr ((n:Int) - 1)=(n:Int) - 1:=wri (by omega) (by omega)

theorem aKz {k n:Nat} (h:k<n):inR (k:Int) 0 ((n:Int) - 1)=true:=by rw [bS];omega

theorem bCk {p:den tPp} {k:Nat} {h:den bZ} (hk:p.2.2.2[k]? =some h) (hl:p.2.2.2.length<=68719476736):fA p (k:Int)=some (pIn p h):=by
 have hlt:k<p.2.2.2.length:=(bUg.1 hk).1
 unfold fA pIn
 simp only [tY,mK hl,aKz hlt,aA,bUc,zY,aKq,aF,hk]
 cases jC p.1<;>rfl

theorem bCq {p:den tPp} {k:Nat} {h:den bZ} (hk:p.2.2.2[k]? =some h) (hl:p.2.2.2.length<=68719476736):eO p (k:Int)=some (pIn p h):=by
 have hlt:k<p.2.2.2.length:=(bUg.1 hk).1
 unfold eO pIn
 simp only [gQ,mK hl,aKz hlt,aA,bUc,zY,aBk,aF,hk]
 cases jC p.1<;>rfl

theorem bA1 {p:den tPp} {k:Nat} {h:den bZ} (hk:p.2.2.2[k]? =some h) (hl:p.2.2.2.length<=68719476736):fG p (k:Int)=some (pEg p h):=by
 have hlt:k<p.2.2.2.length:=(bUg.1 hk).1
 unfold fG pEg
 simp only [tY,mK hl,aKz hlt,aA,bUc,zY,aKq,aF,hk]
 cases jC p.1<;>rfl

theorem aSn {p:den tPp} {k:Nat} {h:den bZ} (hk:p.2.2.2[k]? =some h) (hl:p.2.2.2.length<=68719476736):dH p (k:Int)=some (pEg p h):=by
 have hlt:k<p.2.2.2.length:=(bUg.1 hk).1
 unfold dH pEg
 simp only [gQ,mK hl,aKz hlt,aA,bUc,zY,aBk,aF,hk]
 cases jC p.1<;>rfl

def wK (nf:Bool) (p:den tPp) (i:Nat) (h:den bZ) (out:dM):dM:=
 match out.getLast? with
 | some z=>if nf&&(decide (i=0)&&z.1==h.1) then out.dropLast++[(h.1,z.2.1,pEg p h)] else out++[(h.1,pIn p h,pEg p h)]
 | none=>out++[(h.1,pIn p h,pEg p h)]

theorem aL9 (nf:Bool) (p:den tPp) (i:Nat) (h:den bZ) (out:dM):(wK nf p i h out).length<=out.length+1:=by
 unfold wK
 split
 ·split
  ·simp only [bU0,List.length_dropLast,bVo];omega
  ·simp
 ·simp

def pY (nf:Bool) (p:den tPp) (a:dM):dM:=cM (fun i h b=>wK nf p i h b) 0 p.2.2.2 a

def yW (p:den tPt):dM:=cM (fun k x a=>pY (decide (0<k)) x a) 0 p []

def aFo (l:dM):dM:=
 match l with
 | []=>[]
 | x::xs=>let m:=(x.1,0,x.2.2)::xs
  match m.getLast? with
  | some y=>m.dropLast++[(y.1,y.2.1,0)]
  | none=>[]

def gO (p:den tPt):dM:=aFo (yW p)

theorem bHx (l:dM):(aFo l).length=l.length:=by
 unfold aFo
 split
 ·rfl
 ·rename_i x xs
  simp only
  rw [List.getLast?_eq_some_getLast (by simp)]
  simp

theorem aGo (p:den tPt):(p.map fun x=>x.2.2.2.length).sum<=tot tPt p:=by
 show _<=tot (.sl tPp) p
 rw [← aPo]
 induction p with
 | nil=>exact bUo _
 | cons x p ih=>
  simp only [bUs,bVl]
  have h1:x.2.2.2.length<=tot tPp x:=by
   show _<=tot ti x.1+(tot ti x.2.1+(tot ti x.2.2.1+tot (.sl bZ) x.2.2.2))
   rw [dD rfl];omega
  omega

theorem bFf {n:Nat} (h:n<=68719476736) (h0:0<n):wr ((n:Int) - 1)=((n - 1:Nat):Int):=by
 rw [mK h];omega

theorem aDw {α:Type} {m:List α} {z:α} (h:(m++[z]).length<=68719476736):wr (((m++[z]).length:Int) - 1)=(m.length:Int):=by
 rw [bFf h (by simp)];simp

theorem aJx (nf:Bool) (p:den tPp) (a:dM):(pY nf p a).length<=a.length+p.2.2.2.length:=by
 have :=aAc (m:=bUk) (cost:=fun _=>1) (fun i h b=>aL9 nf p i h b) p.2.2.2 0 a
 rw [eS] at this
 exact this

theorem aHu (p:den tPt):(yW p).length<=tot tPt p:=by
 have :=aAc (m:=bUk) (cost:=fun x:den tPp=>x.2.2.2.length) (fun k x a=>aJx (decide (0<k)) x a) p 0 []
 have h2:=aGo p
 have h3:(yW p).length<=0+(p.map fun x=>x.2.2.2.length).sum:=this
 omega

theorem aAg (p:den tPt):(gO p).length<=tot tPt p:=by
 unfold gO;rw [bHx];exact aHu p

theorem aYg (k:Nat):decide ((k:Int)>0)=decide (0<k):=by rw [bU1];simp

theorem aVb (i:Nat):((i:Int)==0)=decide (i=0):=by rw [bU1];simp

theorem aVa (nf:Bool) (p:den tPp) (i:Nat) (h:den bZ):wK nf p i h []=[(h.1,pIn p h,pEg p h)]:=rfl

theorem aQz (nf:Bool) (p:den tPp) (i:Nat) (h:den bZ) (m:dM) (z:den wS):wK nf p i h (m++[z])=if nf&&(decide (i=0)&&z.1==h.1) then m++[(h.1,z.2.1,pEg p h)] else (m++[z])++[(h.1,pIn p h,pEg p h)]:=by
 unfold wK
 rw [bWp,bXd]

theorem aRu {m:dM} {x z:den wS} {xs:dM} (h:(x.1,(0:Int),x.2.2)::xs=m++[z]):aFo (x::xs)=m++[(z.1,z.2.1,0)]:=by
 unfold aFo
 simp only
 rw [h,bWp,bXd]

theorem aPy {p:den tPt} (h:tot tPt p<=34359738368):jV p=some (gO p):=by
 have hs:=aGo p
 have sm:SmB 34359738368 tPt p:=bF h
 have hl:=aHu p
 unfold jV ixb pj4
 rw [mM (fun k (a:dM)=>((k:Int),a)) ((0:Int),[]) [] p (fun k x a=>pY (decide (0<k)) x a) bUk (fun x=>x.2.2.2.length) 34359738368 id rfl (bT7 sm.1 (by decide)) (by simp only [bWe];omega) (fun k x a=>aJx _ x a) (fun k x a hi hx hd hw hk hb=>by
  have hxl:x.2.2.2.length<=34359738368:=(sm.2 x (bUi hx)).2.2.2.1
  simp only [hd,hi,hw,zZ,aA]
  rw [mM (fun i (b:dM)=>((i:Int),b)) ((0:Int),a) a x.2.2.2 (fun i h b=>wK (decide (0<k)) x i h b) bUk (fun _=>1) 34359738368 id rfl (bT7 hxl (by decide)) (by rw [eS];exact hb) (fun i h b=>aL9 _ x i h b) (fun i g b hi2 hg hd2 hw2 hk2 hb2=>by
   have hl2:x.2.2.2.length<=68719476736:=by omega
   simp only [hd2,hi2,hw2,zZ,aA,aO,bCk hg hl2,bA1 hg hl2,aYg,aVb,aE (b:=24) (n:=b.length) (m:=1) (by decide) (by omega)]
   rcases lN b with rfl | ⟨m,z,rfl⟩
   ·rw [aVa]
    cases decide (0<k)<;>cases decide (i=0)<;>rfl
   ·rw [aQz,aDw (by omega)]
    simp only [fS,bG8,aDs,aIc,zZ,bUf,aA,aMc]
    cases decide (0<k)<;>cases decide (i=0)<;>cases hz:z.1==g.1<;>simp [hz]
    simpa using hz) (fun b=>by simp)]
  rfl) (fun a=>by simp)]
 simp only [aA,id]
 rw [show cM (fun k x a=>pY (decide (0<k)) x a) 0 p []=yW p from rfl]
 show _=some (aFo (yW p))
 generalize yW p=l at hl
 cases l with
 | nil=>rfl
 | cons x xs=>
  have e1:decide ((((x::xs).length:Nat):Int)>0)=true:=by simp
  have e2:decide ((0:Int)<(((x::xs).length:Nat):Int))=true:=by simp
  have e3:(0:Int).toNat=0:=rfl
  have e4:decide ((0:Int)<=0)=true:=rfl
  simp only [e1,e2,e3,e4,zZ,bXe,aA,List.set_cons_zero]
  rcases lN ((x.1,(0:Int),x.2.2)::xs) with h0 | ⟨m,z,hm⟩
  ·cases h0
  ·have hlen:((x.1,(0:Int),x.2.2)::xs).length=(x::xs).length:=rfl
   rw [aRu hm]
   rw [hm] at hlen ⊢
   rw [aDw (by omega)]
   simp only [fS,aDs,aIc,zZ,bUf,aA,aMc]

theorem aDn {p:den tPt} (h:tot tPt p<=34359738368):eL p=some (gO p):=by
 have hs:=aGo p
 have sm:SmB 34359738368 tPt p:=bF h
 have hl:=aHu p
 unfold eL ixb pj4
 rw [mM (fun k (a:dM)=>((k:Int),a)) ((0:Int),[]) [] p (fun k x a=>pY (decide (0<k)) x a) bUk (fun x=>x.2.2.2.length) 34359738368 id rfl (bT7 sm.1 (by decide)) (by simp only [bWe];omega) (fun k x a=>aJx _ x a) (fun k x a hi hx hd hw hk hb=>by
  have hxl:x.2.2.2.length<=34359738368:=(sm.2 x (bUi hx)).2.2.2.1
  simp only [hd,hi,hw,zZ,aA]
  rw [mM (fun i (b:dM)=>((i:Int),b)) ((0:Int),a) a x.2.2.2 (fun i h b=>wK (decide (0<k)) x i h b) bUk (fun _=>1) 34359738368 id rfl (bT7 hxl (by decide)) (by rw [eS];exact hb) (fun i h b=>aL9 _ x i h b) (fun i g b hi2 hg hd2 hw2 hk2 hb2=>by
   have hl2:x.2.2.2.length<=68719476736:=by omega
   simp only [hd2,hi2,hw2,zZ,aA,aO,bCq hg hl2,aSn hg hl2,aP,bD,aW,aV,aX,aYg,aVb]
   rcases lN b with rfl | ⟨m,z,rfl⟩
   ·rw [aVa]
    cases decide (0<k)<;>cases decide (i=0)<;>rfl
   ·rw [aQz,aDw (by omega)]
    have e1:decide (((m++[z]).length:Int)>0)=true:=by simp
    have e2:cZ (0:Int) (m.length:Int) ((m++[z]).length:Int)=true:=by simp [cZ];omega
    have e3:(m++[z]).take m.length=m:=by simp
    have e4:=aE (b:=24) (n:=m.length) (m:=1) (by decide) (by simp at hb2;omega)
    have e5:=aE (b:=24) (n:=m.length+1) (m:=1) (by decide) (by simp at hb2;omega)
    simp only [fS,e1,e2,e3,aDs,aIc,zZ,bUf,aA]
    cases decide (0<k)<;>cases decide (i=0)<;>cases hz:z.1==g.1<;>simp [hz,e4,e5]) (fun b=>by simp [hi])]
  rfl) (fun a=>by simp)]
 simp only [aA,id]
 rw [show cM (fun k x a=>pY (decide (0<k)) x a) 0 p []=yW p from rfl]
 show _=some (aFo (yW p))
 generalize yW p=l at hl
 cases l with
 | nil=>rfl
 | cons x xs=>
  have e1:decide ((((x::xs).length:Nat):Int)>0)=true:=by simp
  have e2:decide ((0:Int)<(((x::xs).length:Nat):Int))=true:=by simp
  have e3:(0:Int).toNat=0:=rfl
  have e4:decide ((0:Int)<=0)=true:=rfl
  have e5:decide (0<(x::xs).length)=true:=by simp
  simp only [e1,e2,e3,e4,e5,zZ,bXe,aA,List.set_cons_zero]
  rcases lN ((x.1,(0:Int),x.2.2)::xs) with h0 | ⟨m,z,hm⟩
  ·cases h0
  ·have hlen:((x.1,(0:Int),x.2.2)::xs).length=(x::xs).length:=rfl
   rw [aRu hm]
   rw [hm] at hlen ⊢
   rw [aDw (by omega)]
   have e6:decide (m.length<(m++[z]).length)=true:=by simp
   simp only [fS,aDs,aIc,e6,zZ,bUf,aA,aMc]

def ends (p:den tPt):q28:=
 match (gO p).head?,(gO p).getLast? with
 | some x,some y=>(x.1,y.1)
 | _,_=>(-1,-1)

theorem bPg {p:den tPt} (h:tot tPt p<=34359738368):rU p=some (ends p):=by
 unfold rU ends ixb
 have hl:=aAg p
 rw [aPy h,aA]
 generalize gO p=l at hl
 rcases lN l with rfl | ⟨m,z,rfl⟩
 ·rfl
 ·rw [aDw (by omega)]
  have e1:(((m++[z]).length:Int)==0)=false:=by simp<;>omega
  have e2:decide ((0:Int)<((m++[z]).length:Int))=true:=by simp<;>omega
  have e3:decide ((0:Int)<=0)=true:=rfl
  rw [e1,e2,e3,fS,aDs,bWp]
  cases m with
  | nil=>rfl
  | cons x m=>simp

theorem bRg {p:den tPt} (h:tot tPt p<=34359738368):qX p=some (ends p):=by
 unfold qX ends ixb
 have hl:=aAg p
 rw [aDn h,aA]
 generalize gO p=l at hl
 rcases lN l with rfl | ⟨m,z,rfl⟩
 ·rfl
 ·rw [aDw (by omega)]
  have e1:(((m++[z]).length:Int)==0)=false:=by simp<;>omega
  have e2:decide ((0:Int)<((m++[z]).length:Int))=true:=by simp<;>omega
  have e3:decide ((0:Int)<=0)=true:=rfl
  rw [e1,e2,e3,fS,aDs,bWp]
  cases m with
  | nil=>rfl
  | cons x m=>simp


def pkR (p:den tPk):q3:=(p.1,p.2.1,p.2.2.1,p.2.2.2.2.1,p.2.2.2.2.2.1,p.2.2.2.2.2.2.1,p.2.2.2.2.2.2.2.1,p.2.2.2.2.2.2.2.2.1,p.2.2.2.1,p.2.2.2.2.2.2.2.2.2)

def bSq (p:den tPt):Int:=match p with
 | []=>0
 | x::_=>x.2.2.1

def aC6 (kind:Int) (p:den tPt) (res seq:Int) (pay:List Int):den tPk:=(kind,(ends p).1,(ends p).2,p,0,0,bSq p,res,seq,pay)

theorem aXl {kind res seq:Int} {p:den tPt} {pay:List Int} (h:tot tPt p<=34359738368) (hp:pay.length<=68719476736):mC kind p res seq pay=some (pkR (aC6 kind p res seq pay)):=by
 unfold mC zz4 zz5 zz6 zz7
 rw [aKv ((bF h).mono (by decide)),aGe hp,bPg h]
 simp only [aA]
 cases p with
 | nil=>rfl
 | cons x p=>
  have e1:decide (((x::p).length:Int)>0)=true:=by simp
  rw [e1];rfl

theorem aKa {kind res seq:Int} {p:den tPt} {pay:List Int} (h:tot tPt p<=34359738368) (hp:pay.length<=68719476736):cH kind p res seq pay=some (pkR (aC6 kind p res seq pay)):=by
 unfold cH zz4 zz5 zz6 zz7
 rw [aDu ((bF h).mono (by decide)),bRg h,aE (b:=1) (n:=([]:List Int).length) (by decide) (by simpa using hp)]
 simp only [aA,zZ,bUz]
 cases p with
 | nil=>rfl
 | cons x p=>
  have e1:decide (((x::p).length:Int)>0)=true:=by simp
  rw [e1];rfl

def aJc (k:Int):Int:=if k=1 then 4 else if k=4 then 1 else if k=2 then 3 else if k=3 then 2 else k

theorem bPo (k:Int):nF k=some (aJc k):=by
 unfold nF aJc
 by_cases h1:k=1
 ·subst h1;rfl
 by_cases h2:k=4
 ·subst h2;rfl
 by_cases h3:k=2
 ·subst h3;rfl
 by_cases h4:k=3
 ·subst h4;rfl
 have b1:(k==1)=false:=by simpa using h1
 have b2:(k==4)=false:=by simpa using h2
 have b3:(k==2)=false:=by simpa using h3
 have b4:(k==3)=false:=by simpa using h4
 rw [b1,b2,b3,b4,zS h1,zS h2,zS h3,zS h4];rfl

theorem bPx (k:Int):lJ k=some (aJc k):=by
 unfold lJ aJc
 by_cases h1:k=1
 ·subst h1;rfl
 by_cases h2:k=4
 ·subst h2;rfl
 by_cases h3:k=2
 ·subst h3;rfl
 by_cases h4:k=3
 ·subst h4;rfl
 have b1:(k==1)=false:=by simpa using h1
 have b2:(k==4)=false:=by simpa using h2
 have b3:(k==2)=false:=by simpa using h3
 have b4:(k==3)=false:=by simpa using h4
 rw [b1,b2,b3,b4,zS h1,zS h2,zS h3,zS h4];rfl

def jD (n:Int):Bool:=inR n 0 2147483646

theorem aDj (n:Int):dG n=some (jD n):=by unfold dG jD;rw [tY];rfl

theorem aB0 (n:Int):kG n=some (jD n):=by unfold kG jD;rw [gQ];rfl

def aLt (b s:Int):Int:=if jD b&&jD s then bUy (wr (b+s)) 2147483647 else 0

def aGs (b s:Int):Int:=if jD b&&jD s then bUy (wr ((wr (b - s))+2147483647)) 2147483647 else 0

theorem bE4 (b s:Int):uC b s=some (aLt b s):=by
 unfold uC aLt
 simp only [aDj,aA]
 cases jD b<;>cases jD s<;>rfl

theorem aV4 (b s:Int):qK b s=some (aLt b s):=by
 unfold qK aLt
 simp only [aB0,aA]
 cases jD b<;>cases jD s<;>rfl

theorem bEg (b s:Int):uH b s=some (aGs b s):=by
 unfold uH aGs
 simp only [aDj,aA]
 cases jD b<;>cases jD s<;>rfl

theorem bFb (b s:Int):tZ b s=some (aGs b s):=by
 unfold tZ aGs
 simp only [aB0,aA]
 cases jD b<;>cases jD s<;>rfl

def zQ (k:Int) (b:Int) (h:den bZ):Int:=if jC k then aGs b h.2.2.2.2 else aLt b h.2.2.2.2

def aE5 (p:den tPp) (n:Nat):Int:=(p.2.2.2.take n).foldl (zQ p.1) p.2.2.1

theorem bOh {p:den tPp} {n:Nat} (hn:n<=p.2.2.2.length) (hl:p.2.2.2.length<=68719476736):rA p (n:Int)=some (aE5 p n):=by
 unfold rA aE5 zz4
 have e1:inR (n:Int) 0 (p.2.2.2.length:Int)=true:=by rw [bS];omega
 have e2:cZ (0:Int) (n:Int) (p.2.2.2.length:Int)=true:=by simp [cZ];omega
 rw [tY,e1,aA,e2,mL]
 have hlen:(p.2.2.2.take n).length<=4611686018427387904:=by rw [bVk];omega
 rw [mM (fun k (b:Int)=>(b,(k:Int))) (p.2.2.1,(0:Int)) p.2.2.1 (p.2.2.2.take n) (fun _ h b=>zQ p.1 b h) (fun _=>0) (fun _=>0) 0 id rfl hlen (by rw [sum_nil];exact bUo _) (fun _ _ _=>bUo _) (fun k x b hi hx hd hw hk hb=>by
  simp only [hd,hi,hw,zZ,aA,aKq,bEg,bE4,zQ]
  cases jC p.1<;>rfl) (fun b=>by simp),uI (fun b h=>zQ p.1 b h)]
 rfl

theorem aP8 {p:den tPp} {n:Nat} (hn:n<=p.2.2.2.length) (hl:p.2.2.2.length<=68719476736):gN p (n:Int)=some (aE5 p n):=by
 unfold gN aE5 zz4
 have e1:inR (n:Int) 0 (p.2.2.2.length:Int)=true:=by rw [bS];omega
 have e3:(p.2.2.2.take n).length=n:=by rw [bVk];omega
 rw [gQ,e1,aA]
 rw [mM (fun k (b:Int)=>(b,(k:Int))) (p.2.2.1,(0:Int)) p.2.2.1 (p.2.2.2.take n) (fun _ h b=>zQ p.1 b h) (fun _=>0) (fun _=>0) 0 id rfl (by rw [e3];omega) (by rw [sum_nil];exact bUo _) (fun _ _ _=>bUo _) (fun k x b hi hx hd hw hk hb=>by
  have hx':p.2.2.2[k]? =some x:=by rw [List.getElem?_take] at hx;split at hx;exact hx;cases hx
  rw [e3] at hd
  simp only [hd,hw,zZ,aA,aF,hx',aBk,bFb,aV4,zQ]
  cases jC p.1<;>rfl) (fun b=>by rw [e3];simp),uI (fun b h=>zQ p.1 b h)]
 rfl

def vQ (p:den tPp):den tPp:=(aJc p.1,p.2.1,aE5 p p.2.2.2.length,p.2.2.2.reverse)

theorem bPt {l:dA} (hl:l.length<=68719476736):lU l=some l.reverse:=by
 unfold lU pj5
 have e:wr ((l.length:Int) - 1)=(l.length:Int) - 1:=mK hl
 rw [e,aSm (fun k (a:dA)=>(k,a)) ((l.length:Int) - 1,[]) [] l (fun x a=>a++[x]) bUk (fun _=>1) 68719476736 id rfl (by omega) (by rw [eS];simpa using hl) (fun x a=>by simp) (fun k x a hi hx hd hw hk hb=>by
  simp only [hd,hi,hw,zZ,aA,aO,aE (b:=40) (n:=a.length) (m:=1) (by decide) hb]) (fun a=>by simp),aCr (fun x=>x)]
 simp

theorem bMu {p:den tPp} (hl:p.2.2.2.length<=68719476736):nM p=some (vQ p):=by
 unfold nM vQ pj4
 simp only [bPo,aO,bOh (bUo _) hl,bPt hl,aA]

theorem bN1 {p:den tPp} (hl:p.2.2.2.length<=68719476736):nL p=some (vQ p):=by
 unfold nL vQ pj4 pj5 zz4
 simp only [bPx,aO,aP8 (bUo _) hl,aP,bD,aW,aV,aX,aA]
 have e:wr ((p.2.2.2.length:Int) - 1)=(p.2.2.2.length:Int) - 1:=mK hl
 rw [e,aSm (fun k (a:dA)=>(k,aJc p.1,p.2.1,aE5 p p.2.2.2.length,a)) ((p.2.2.2.length:Int) - 1,aJc p.1,p.2.1,aE5 p p.2.2.2.length,[]) [] p.2.2.2 (fun x a=>a++[x]) bUk (fun _=>1) 68719476736 (fun a=>(aJc p.1,p.2.1,aE5 p p.2.2.2.length,a)) rfl (by omega) (by rw [eS];simpa using hl) (fun x a=>by simp) (fun k x a hi hx hd hw hk hb=>by
  simp only [hd,hi,hw,zZ,aA,aO,aE (b:=40) (n:=a.length) (m:=1) (by decide) hb]) (fun a=>by simp),aCr (fun x=>x)]
 simp

def aA9 (p:den tPt):den tPt:=p.reverse.map vQ

theorem bF0 {p:den tPt} (h:SmB 68719476736 tPt p):jS p=some (aA9 p):=by
 unfold jS aA9 pj4
 have e:wr ((p.length:Int) - 1)=(p.length:Int) - 1:=mK h.1
 rw [e,aSm (fun k (a:lPp)=>(k,a)) ((p.length:Int) - 1,[]) [] p (fun x a=>a++[vQ x]) bUk (fun _=>1) 68719476736 id rfl (by have :=h.1;omega) (by rw [eS];simpa using h.1) (fun x a=>by simp) (fun k x a hi hx hd hw hk hb=>by
  have hxl:=(h.2 x (bUi hx)).2.2.2.1
  simp only [hd,hi,hw,zZ,aA,aO,bMu hxl,aE (b:=48) (n:=a.length) (m:=1) (by decide) hb]) (fun a=>by simp),aCr vQ]
 simp

theorem bGo {p:den tPt} (h:SmB 68719476736 tPt p):jT p=some (aA9 p):=by
 unfold jT aA9 pj4
 have e:wr ((p.length:Int) - 1)=(p.length:Int) - 1:=mK h.1
 rw [e,aSm (fun k (a:lPp)=>(k,a)) ((p.length:Int) - 1,[]) [] p (fun x a=>a++[vQ x]) bUk (fun _=>1) 68719476736 id rfl (by have :=h.1;omega) (by rw [eS];simpa using h.1) (fun x a=>by simp) (fun k x a hi hx hd hw hk hb=>by
  have hxl:=(h.2 x (bUi hx)).2.2.2.1
  simp only [hd,hi,hw,zZ,aA,aO,bN1 hxl,aE (b:=48) (n:=a.length) (m:=1) (by decide) hb]) (fun a=>by simp),aCr vQ]
 simp

theorem bDx (p:den tPp):tot tPp (vQ p)=tot tPp p:=by
 show tot ti _+(tot ti _+(tot ti _+tot (.sl bZ) p.2.2.2.reverse))=tot ti _+(tot ti _+(tot ti _+tot (.sl bZ) p.2.2.2))
 rw [aQd];rfl

theorem aNe {t:Ty} (g:den t→den t) (hg: ∀ x,tot t (g x)=tot t x): ∀ l:List (den t),tot (.sl t) (l.map g)=tot (.sl t) l
 | []=>rfl
 | x::l=>by rw [bUs,kH,kH,hg,aNe g hg l]

theorem aBo (p:den tPt):tot tPt (aA9 p)=tot tPt p:=by
 show tot (.sl tPp) (p.reverse.map vQ)=tot (.sl tPp) p
 rw [aNe vQ bDx,aQd]

def aKe (pk:den tPk) (kind seq:Int) (pay:List Int):den tPk:=aC6 kind (aA9 pk.2.2.2.1) pk.2.2.2.2.2.2.2.1 seq pay

theorem bNe {pk:den tPk} {kind seq:Int} {pay:List Int} (h:tot tPt pk.2.2.2.1<=34359738368) (hp:pay.length<=68719476736):aAf pk kind seq pay=some (pkR (aKe pk kind seq pay)):=by
 unfold aAf aKe aI zz7
 rw [bF0 ((bF h).mono (by decide)),aA,aXl (by rw [aBo];exact h) hp]
 rfl

theorem bNu {pk:den tPk} {kind seq:Int} {pay:List Int} (h:tot tPt pk.2.2.2.1<=34359738368) (hp:pay.length<=68719476736):aAm pk kind seq pay=some (pkR (aKe pk kind seq pay)):=by
 unfold aAm aKe aI zz7
 rw [bGo ((bF h).mono (by decide)),aA,aKa (by rw [aBo];exact h) hp]
 rfl

def pk0:den tPk:=(0,0,0,[],0,0,0,0,0,[])


def pkB (p:den tPk) (b:Bool):q11:=(p.1,p.2.1,p.2.2.1,p.2.2.2.2.1,p.2.2.2.2.2.1,p.2.2.2.2.2.2.1,p.2.2.2.2.2.2.2.1,p.2.2.2.2.2.2.2.2.1,b,p.2.2.2.1,p.2.2.2.2.2.2.2.2.2)

def aA6 (x:den tIb) (p:den tPk):Bool:=xX x p&& !decide (p.2.2.2.2.2.2.2.2.1>=x.2.2.1)

def mZ (x:den tIb) (p:den tPk):den tPk:=if aA6 x p then aKe p 2 p.2.2.2.2.2.2.2.2.1 [] else pk0

theorem bMk {x:den tIb} {p:den tPk} (h:tot tPt p.2.2.2.1<=34359738368):sV x p=some (pkB (mZ x p) (aA6 x p)):=by
 unfold sV mZ aA6 aI pj2 pj4 zz4 zz5 zz6 zz7 zz8
 simp only [aO,aX1,aA,bNe (pay:=[]) h (by simp)]
 cases xX x p<;>cases decide (p.2.2.2.2.2.2.2.2.1>=x.2.2.1)<;>rfl

theorem bM4 {x:den tIb} {p:den tPk} (h:tot tPt p.2.2.2.1<=34359738368):sR x p=some (pkB (mZ x p) (aA6 x p)):=by
 unfold sR mZ aA6 aI pj2 pj4 zz4 zz5 zz6 zz7 zz8
 simp only [aO,aW3,aA,bNu (pay:=[]) h (by simp)]
 cases xX x p<;>cases decide (p.2.2.2.2.2.2.2.2.1>=x.2.2.1)<;>rfl

def aA0 (f:den tFl):Bool:=inR f.2.2.2.2.2.2.1 0 ((f.2.2.2.2.2.1.length:Int) - 1)&&inR f.2.2.2.1 0 ((f.2.2.2.2.1.length:Int) - 1)

def yK (f:den tFl):den tPk:=
 if aA0 f then aC6 1 ((f.2.2.2.2.2.1[f.2.2.2.2.2.2.1.toNat]?).getD []) f.2.2.1 f.2.2.2.1 ((f.2.2.2.2.1[f.2.2.2.1.toNat]?).getD []) else pk0

theorem aVh {t:Ty} {l:List (den t)} {d:den t} {i:Nat} (hd:tot t d=0):tot t ((l[i]?).getD d)<=tot (.sl t) l:=by
 cases h:l[i]? with
 | none=>simp [hd]
 | some x=>have :=yB h;simp;omega

theorem aXs {f:den tFl} (h:tot tFl f<=34359738368):eH f=some (pkB (yK f) (aA0 f)):=by
 have h0:=bJ (bJ (bJ (bJ h)))
 have hm:=aKh h0
 have hp:=aKh (bJ h0)
 have l1:=eU f.2.2.2.2.1
 have l2:=eU f.2.2.2.2.2.1
 unfold eH yK aA0 pj2 zz4 zz5 zz6 zz7 zz8
 simp only [gQ,mK (n:=f.2.2.2.2.2.1.length) (by omega),mK (n:=f.2.2.2.2.1.length) (by omega),aA]
 cases c1:inR f.2.2.2.2.2.2.1 0 ((f.2.2.2.2.2.1.length:Int) - 1) with
 | false=>cases inR f.2.2.2.1 0 ((f.2.2.2.2.1.length:Int) - 1)<;>rfl
 | true=>
  cases c2:inR f.2.2.2.1 0 ((f.2.2.2.2.1.length:Int) - 1) with
  | false=>rfl
  | true=>
   rw [bS] at c1 c2
   rw [bC6 c1.1 (by omega),bC6 c2.1 (by omega)]
   have e1:f.2.2.2.2.2.1[f.2.2.2.2.2.2.1.toNat]? =some (f.2.2.2.2.2.1[f.2.2.2.2.2.2.1.toNat]'(by omega)):=bT6 (by omega)
   have e2:f.2.2.2.2.1[f.2.2.2.1.toNat]? =some (f.2.2.2.2.1[f.2.2.2.1.toNat]'(by omega)):=bT6 (by omega)
   have t1:=yB e1
   have t2:=yB e2
   have t3:=eU (t:=tb) (f.2.2.2.2.1[f.2.2.2.1.toNat]'(by omega))
   simp only [aA,bUc,zY]
   rw [aKa (by omega) (by have t2:1+tot (.sl tb) _<=_:=t2;omega),e1,e2]
   rfl

def xW (f:den tFl):Int:=if wr (f.2.2.2.2.2.2.1+1)>=(f.2.2.2.2.2.1.length:Int) then 0 else wr (f.2.2.2.2.2.2.1+1)

def pV (f:den tFl) (c w:Int):den tFl:=(f.1,f.2.1,f.2.2.1,f.2.2.2.1,f.2.2.2.2.1,f.2.2.2.2.2.1,c,w,f.2.2.2.2.2.2.2.2)

theorem aFf (f:den tFl) (c w:Int):tot tFl (pV f c w)=tot tFl f:=rfl


def aT (f:den tFl):den tFl×den tPk×Bool:=
 if aA0 f then
  if f.2.2.2.2.2.2.2.1==0 then (pV f f.2.2.2.2.2.2.1 1,yK f,true)
  else if f.2.2.2.2.2.2.2.1==4 then (pV f (xW f) 1,yK (pV f (xW f) 1),aA0 (pV f (xW f) 1))
  else (pV f f.2.2.2.2.2.2.1 (wr (f.2.2.2.2.2.2.2.1+1)),pk0,false)
 else (pV f f.2.2.2.2.2.2.1 0,pk0,false)


def oO (f:den tFl) (p:den tPk) (b:Bool):q23:=
 (f.1,f.2.1,f.2.2.1,f.2.2.2.1,f.2.2.2.2.2.2.1,f.2.2.2.2.2.2.2.1,p.1,p.2.1,p.2.2.1,p.2.2.2.2.1,p.2.2.2.2.2.1,p.2.2.2.2.2.2.1,p.2.2.2.2.2.2.2.1,p.2.2.2.2.2.2.2.2.1,b,f.2.2.2.2.1,f.2.2.2.2.2.1,f.2.2.2.2.2.2.2.2,p.2.2.2.1,p.2.2.2.2.2.2.2.2.2)

theorem bMt (f:den tFl):tH f=some (xW f):=by
 unfold tH xW zz5 zz6
 by_cases h:wr (f.2.2.2.2.2.2.1+1)>=(f.2.2.2.2.2.1.length:Int)
 ·rw [zX h,zT h];rfl
 ·rw [zW h,zS h];rfl

theorem bH5 {c:Int} {n:Nat} (h0:0<=c) (h1:c<=(n:Int) - 1) (hn:n<=68719476736):inR c 0 (wr ((n:Int) - 2))= !decide (wr (c+1)>=(n:Int)):=by
 have e1:wr ((n:Int) - 2)=(n:Int) - 2:=wri (by omega) (by omega)
 have e2:wr (c+1)=c+1:=wri (by omega) (by omega)
 rw [e1,e2,bU1,bS]
 simp
 omega

theorem bDr {f:den tFl} (h:SmB 68719476736 tFl f) (hs:inR f.2.2.2.2.2.2.1 0 ((f.2.2.2.2.2.1.length:Int) - 1)=true):rG f=some (oU (pV f (xW f) f.2.2.2.2.2.2.2.1)):=by
 unfold rG xW pj3 pj9 zz4 zz5 zz6
 have hl:=h.2.2.2.2.2.1.1
 rw [bS] at hs
 simp only [aO,aBz h,gQ,bH5 hs.1 hs.2 hl,aA,oU]
 by_cases hc:wr (f.2.2.2.2.2.2.1+1)>=(f.2.2.2.2.2.1.length:Int)
 ·rw [zX hc,zT hc];rfl
 ·rw [zW hc,zS hc];rfl

theorem bNg {f:den tFl} (h:tot tFl f<=34359738368):tI f=some (oO (aT f).1 (aT f).2.1 (aT f).2.2):=by
 unfold tI aT pj2 pj9 aG aU bC cU iE zz4 zz5 zz6 zz7 zz8 zz9
 have sm:SmB 68719476736 tFl f:=(bF h).mono (by decide)
 have e:eH (f.1,f.2.1,f.2.2.1,f.2.2.2.1,f.2.2.2.2.1,f.2.2.2.2.2.1,xW f,1,f.2.2.2.2.2.2.2.2)=some (pkB (yK (pV f (xW f) 1)) (aA0 (pV f (xW f) 1))):=aXs (f:=pV f (xW f) 1) h
 simp only [aO,aBz sm,aXs h,aA,aP,bD,aW,aV,aX]
 cases c1:aA0 f with
 | false=>simp only [pkB,oU,bUn,zZ];rfl
 | true=>
  have hs:inR f.2.2.2.2.2.2.1 0 ((f.2.2.2.2.2.1.length:Int) - 1)=true:=by
   unfold aA0 at c1;simp only [bT8] at c1;exact c1.1
  rw [bDr sm hs]
  simp only [pkB,oU,pV,aA,bUc,zY,zV,e]
  cases c2:f.2.2.2.2.2.2.2.1==0 with
  | true=>rfl
  | false=>
   cases c3:f.2.2.2.2.2.2.2.1==4 with
   | true=>rfl
   | false=>rfl

def cB (p:den tPk):Bool:=inR p.2.2.2.2.1 0 ((p.2.2.2.1.length:Int) - 1)&&inR p.2.2.2.2.2.1 0 (((((p.2.2.2.1[p.2.2.2.2.1.toNat]?).getD (0,0,0,[])).2.2.2.length:Nat):Int) - 1)

def cK (p:den tPk):Int:=if cB p then ((((p.2.2.2.1[p.2.2.2.2.1.toNat]?).getD (0,0,0,[])).2.2.2[p.2.2.2.2.2.1.toNat]?).getD (0,0,0,0,0)).1 else -1

theorem aAr {p:den tPk} (h:cB p=true): ∃ (i j:Nat) (x:den tPp) (y:den bZ),p.2.2.2.2.1=(i:Int)∧p.2.2.2.2.2.1=(j:Int)∧p.2.2.2.1[i]? =some x∧x.2.2.2[j]? =some y∧cK p=y.1:=by
 have h':=h
 unfold cB at h'
 simp only [bT8,bS] at h'
 obtain ⟨⟨h1,h2⟩,h3,h4⟩:=h'
 obtain ⟨x,hx⟩:=xM h1 h2
 rw [hx,bU3] at h4
 obtain ⟨y,hy⟩:=xM h3 h4
 refine ⟨p.2.2.2.2.1.toNat,p.2.2.2.2.2.1.toNat,x,y,(bV7 h1).symm,(bV7 h3).symm,hx,hy,?_⟩
 unfold cK
 rw [h,zT rfl,hx,bU3,hy,bU3]

theorem xI {p:den tPk} (c:cB p=false):cK p= -1:=by unfold cK;rw [c];rfl

theorem bK5 {p:den tPk} (h:SmB 68719476736 tPk p):uG p=some (cB p):=by
 unfold uG cB zz4 zz5
 have l1:=h.2.2.2.1.1
 rw [tY,mK l1,aA]
 cases c1:inR p.2.2.2.2.1 0 ((p.2.2.2.1.length:Int) - 1) with
 | false=>rfl
 | true=>
  rw [bS] at c1
  obtain ⟨x,hx⟩:=xM c1.1 c1.2
  rw [aF8 c1.1 hx,hx]
  have l2:=(h.2.2.2.1.2 _ (bUi hx)).2.2.2.1
  simp only [zZ,aA,tY,mK l2,bU3,bU2]

theorem aDr {p:den tPk} (h:SmB 68719476736 tPk p):dX p=some (cK p):=by
 unfold dX aI zz4 zz5
 simp only [aO,bK5 h,aA]
 cases c:cB p with
 | false=>rw [xI c];rfl
 | true=>
  obtain ⟨i,j,x,y,h1,h2,h3,h4,h5⟩:=aAr c
  rw [h1,h2,h5]
  simp only [bUc,zY,aF,h3,h4,aA]

theorem aAq {p:den tPk} (h:SmB 68719476736 tPk p):cF p=some (cK p):=by
 unfold cF zz4 zz5
 have l1:=h.2.2.2.1.1
 rw [gQ,mK l1,aA]
 cases c1:inR p.2.2.2.2.1 0 ((p.2.2.2.1.length:Int) - 1) with
 | false=>rw [xI (by unfold cB;rw [c1];rfl)];rfl
 | true=>
  have c1':=c1
  rw [bS] at c1'
  obtain ⟨x,hx⟩:=xM c1'.1 c1'.2
  rw [aF8 c1'.1 hx]
  have l2:=(h.2.2.2.1.2 _ (bUi hx)).2.2.2.1
  simp only [bUc,zY,aA,gQ,mK l2]
  cases c2:inR p.2.2.2.2.2.1 0 ((x.2.2.2.length:Int) - 1) with
  | false=>rw [xI (by unfold cB;rw [c1,hx,bU3,c2];rfl)];rfl
  | true=>
   have c:cB p=true:=by unfold cB;rw [c1,hx,bU3,c2];rfl
   rw [bS] at c2
   obtain ⟨y,hy⟩:=xM c2.1 c2.2
   rw [aF8 c2.1 hy]
   unfold cK
   rw [c,zT rfl,hx,bU3,hy,bU3]
   rfl

def aF9 (p:den tPt) (i j:Nat):den tPt:=
 match p[i]? with
 | some x=>p.take i++[(x.1,x.2.1,x.2.2.1,x.2.2.2.take (j+1))]
 | none=>[]

def kT (p:den tPk):den tPt:=if cK p<0 then [] else aF9 p.2.2.2.1 p.2.2.2.2.1.toNat p.2.2.2.2.2.1.toNat

theorem aL6 {p:den tPk} (h:SmB 68719476736 tPk p):eN p=some (kT p):=by
 unfold eN kT aI zz4 zz5
 simp only [aO,aDr h,aA]
 by_cases hc:cK p<0
 ·rw [zX hc,zZ,zT hc]
 ·rw [zW hc,zY,zS hc]
  cases c:cB p with
  | false=>rw [xI c] at hc;exact absurd (by decide) hc
  | true=>
   obtain ⟨i,j,x,y,h1,h2,h3,h4,h5⟩:=aAr c
   have l1:=h.2.2.2.1.1
   have l2:=(h.2.2.2.1.2 _ (bUi h3)).2.2.2.1
   have hi:=(bUg.1 h3).1
   have hj:=(bUg.1 h4).1
   have e1:wr ((i:Int)+1)=((i+1:Nat):Int):=by have :wr ((i:Int)+1)=(i:Int)+1:=wri (by omega) (by omega);rw [this];rfl
   have e2:wr ((j:Int)+1)=((j+1:Nat):Int):=by have :wr ((j:Int)+1)=(j:Int)+1:=wri (by omega) (by omega);rw [this];rfl
   have e3:cZ (0:Int) ((i+1:Nat):Int) (p.2.2.2.1.length:Int)=true:=by simp [cZ];omega
   have e4:cZ (0:Int) ((j+1:Nat):Int) (x.2.2.2.length:Int)=true:=by simp [cZ];omega
   have e5:p.2.2.2.1.take (i+1)=p.2.2.2.1.take i++[x]:=aIv h3
   have e6:(p.2.2.2.1.take i).length=i:=by rw [bVk];omega
   rw [h1,h2,e1,e2,aKv h.2.2.2.1,aA,e3,zZ]
   simp only [bUf,e5]
   have e7:decide ((i:Int)<((p.2.2.2.1.take i++[x]).length:Int))=true:=by simp;omega
   have e8:(p.2.2.2.1.take i++[x])[i]? =some x:=by rw [List.getElem?_append_right (by omega),e6];simp
   have e9: ∀ z,(p.2.2.2.1.take i++[x]).set i z=p.2.2.2.1.take i++[z]:=fun z=>by rw [List.set_append_right _ _ (by omega),e6];simp
   simp only [fS,e7,e8,e4,e9,zZ,aA,mL]
   unfold aF9
   rw [h3]

theorem aLn {p:den tPk} (h:SmB 68719476736 tPk p):eM p=some (kT p):=by
 unfold eM kT aI pj4 zz4 zz5
 simp only [aO,aAq h,aA]
 by_cases hc:cK p<0
 ·rw [zX hc,zZ,zT hc]
 ·rw [zW hc,zY,zS hc]
  cases c:cB p with
  | false=>rw [xI c] at hc;exact absurd (by decide) hc
  | true=>
   obtain ⟨i,j,x,y,h1,h2,h3,h4,h5⟩:=aAr c
   have l1:=h.2.2.2.1.1
   have hi:=(bUg.1 h3).1
   have hj:=(bUg.1 h4).1
   have l2:=(h.2.2.2.1.2 _ (bUi h3)).2.2.2.1
   have e2:wr ((j:Int)+1)=((j+1:Nat):Int):=by have :wr ((j:Int)+1)=(j:Int)+1:=wri (by omega) (by omega);rw [this];rfl
   have e4:cZ (0:Int) ((j+1:Nat):Int) (x.2.2.2.length:Int)=true:=by simp [cZ];omega
   have e5:p.2.2.2.1.take (i+1)=p.2.2.2.1.take i++[x]:=aIv h3
   have e6:(p.2.2.2.1.take (i+1)).length=i+1:=by rw [bVk];omega
   rw [h1,h2,e2]
   let cutX:Nat→den tPp→den tPp:=fun k z=>if k=i then (z.1,z.2.1,z.2.2.1,z.2.2.2.take (j+1)) else z
   rw [mM (fun k (a:lPp)=>((k:Int),a)) ((0:Int),[]) [] (p.2.2.2.1.take (i+1)) (fun k z a=>a++[cutX k z]) bUk (fun _=>1) 68719476736 id rfl (by omega) (by rw [eS];simp;omega) (fun k z a=>by simp) (fun k z a hz hx hd hw hk hb=>by
    rw [e6] at hd hk
    have hz':=(aVt hx).1
    have hd':decide ((k:Int)<=(i:Int))=true:=by simp;omega
    have sz:=h.2.2.2.1.2 _ (bUi hz')
    simp only [hd',hw,zZ,aA,aF,hz',aO,aLp sz]
    by_cases hki:k=i
    ·subst hki
     rw [h3] at hz'
     injection hz' with hz'
     subst hz'
     have e7:((k:Int)==(k:Int))=true:=by simp
     simp only [e7,zZ,e4,aA,mL,aE (b:=48) (n:=a.length) (m:=1) (by decide) hb,cutX,zV]
    ·have e7:((k:Int)==(i:Int))=false:=by simp;omega
     simp only [e7,zY,aA,aE (b:=48) (n:=a.length) (m:=1) (by decide) hb,zZ,cutX,zS hki]) (fun a=>by
    have e10:decide (((i+1:Nat):Int)<=(i:Int))=false:=by simp<;>omega
    rw [e6];simp only [e10,zY];rfl)]
   have key: ∀ (l:lPp) (k:Nat) (a:lPp),k+l.length<=i→cM (fun k z a=>a++[cutX k z]) k l a=a++l:=by
    intro l
    induction l with
    | nil=>intro k a _;simp [cM]
    | cons z l ih=>
     intro k a hk
     simp only [bU7] at hk
     simp only [cM]
     rw [ih (k+1) _ (by omega)]
     have :cutX k z=z:=zS (by omega)
     rw [this];simp
   have fa: ∀ (l:lPp) (z:den tPp) (k:Nat) (a:lPp),cM (fun k z a=>a++[cutX k z]) k (l++[z]) a=cM (fun k z a=>a++[cutX k z]) k l a++[cutX (k+l.length) z]:=by
    intro l
    induction l with
    | nil=>intro z k a;rfl
    | cons y l ih=>
     intro z k a
     simp only [List.cons_append,cM,bU7]
     rw [ih]
     congr 3
     omega
   have e8:(p.2.2.2.1.take i).length=i:=by rw [bVk];omega
   rw [e5,fa,key _ 0 [] (by omega),e8]
   have :cutX (0+i) x=(x.1,x.2.1,x.2.2.1,x.2.2.2.take (j+1)):=zT (by omega)
   rw [this]
   unfold aF9
   rw [bUf,bUf,h3]
   rfl

theorem aWm (p:den tPt) (i j:Nat):tot tPt (aF9 p i j)<=tot tPt p:=by
 unfold aF9
 cases h:p[i]? with
 | none=>exact bUt _
 | some x=>
  have h1:tot tPt (p.take (i+1))<=tot tPt p:=aUd (t:=tPp) p (i+1)
  rw [aIv h] at h1
  have h2:tot (.sl tPp) (p.take i++[x])<=tot (.sl tPp) p:=h1
  show tot (.sl tPp) (p.take i++[(x.1,x.2.1,x.2.2.1,x.2.2.2.take (j+1))])<=tot (.sl tPp) p
  rw [pU,aBq] at h2 ⊢
  have h3:tot tPp (x.1,x.2.1,x.2.2.1,x.2.2.2.take (j+1))<=tot tPp x:=by
   have :=aUd (t:=bZ) x.2.2.2 (j+1)
   show 0+(0+(0+tot (.sl bZ) (x.2.2.2.take (j+1))))<=0+(0+(0+tot (.sl bZ) x.2.2.2))
   omega
  omega

theorem xU (p:den tPk):tot tPt (kT p)<=tot tPt p.2.2.2.1:=by
 unfold kT
 split
 ·exact bUt _
 ·exact aWm _ _ _

def vi:Nat→Nat→List Int
 | 0,n=>[(n:Int)]
 | k+1,n=>if n<128 then [(n:Int)] else (((n % 128+128:Nat):Int))::vi k (n / 128)

theorem bFu: ∀ (k n:Nat),(vi k n).length<=k+1
 | 0,n=>by simp [vi]
 | k+1,n=>by
  unfold vi
  split
  ·simp
  ·have :=bFu k (n / 128);simp only [bU7];omega

theorem aBr {n:Nat} (h:n<256):IntKind.wrap .u8 (n:Int)=(n:Int):=by
 simp only [IntKind.wrap,IntKind.signed,IntKind.bits]
 simp
 omega

theorem bPq: ∀ (k n:Nat) (out:List Int),n<128 ^ (k+1)→out.length+k+1<=68719476736→n<9223372036854775808→(@Option.bind q37 (lI) (@aC q37 q37 (fun (s4:Int×lI)=>cond (decide (s4.1>=(128:Int))) (cond (aK 1 s4.2.length 1) (some (bT5 (wr (Int.tdiv s4.1 (128:Int)),s4.2++[IntKind.wrap .u8 (wr ((bUy s4.1 (128:Int))+(128:Int)))]))) none) (some (bT4 (s4.1,s4.2)))) ((n:Int),out)) fun (s5:Int×lI)=>cond (aK 1 s5.2.length 1) (some (s5.2++[IntKind.wrap .u8 s5.1])) none)=some (out++vi k n)
 | 0,n,out,hn,ho,hb=>by
  have hn:n<128:=by simpa using hn
  have e1:decide ((n:Int)>=128)=false:=by simp;omega
  rw [bU (r:=((n:Int),out)) (by simp only [e1,zY]),aA]
  simp only [aE (b:=1) (n:=out.length) (m:=1) (by decide) (by omega),zZ,aBr (n:=n) (by omega),vi]
 | k+1,n,out,hn,ho,hb=>by
  by_cases h:n<128
  ·have e1:decide ((n:Int)>=128)=false:=by simp;omega
   rw [bU (r:=((n:Int),out)) (by simp only [e1,zY]),aA]
   simp only [aE (b:=1) (n:=out.length) (m:=1) (by decide) (by omega),zZ,aBr (n:=n) (by omega),vi,zT h]
  ·have e1:decide ((n:Int)>=128)=true:=by simp;omega
   have hd:n / 128<128 ^ (k+1):=by rw [Nat.div_lt_iff_lt_mul (by decide)];rw [Nat.pow_succ] at hn;exact hn
   have e2:Int.tdiv (n:Int) 128=((n / 128:Nat):Int):=rfl
   have e3:bUy (n:Int) 128=((n % 128:Nat):Int):=rfl
   have e4:wr (((n % 128:Nat):Int)+128)=((n % 128+128:Nat):Int):=by
    have :wr (((n % 128:Nat):Int)+128)=((n % 128:Nat):Int)+128:=wri (by omega) (by omega)
    rw [this];rfl
   have e5:wr ((n / 128:Nat):Int)=((n / 128:Nat):Int):=wri (by omega) (by omega)
   rw [eE (s':=(((n / 128:Nat):Int),out++[((n % 128+128:Nat):Int)])) (by
    simp only [e1,zZ,aE (b:=1) (n:=out.length) (m:=1) (by decide) (by omega),e2,e3,e4,e5,aBr (n:=n % 128+128) (by omega)])]
   rw [bPq k (n / 128) _ hd (by simp;omega) (by omega)]
   simp only [vi,zS h,bU5,bXb]

theorem aU9 {n:Nat} (h:n<9223372036854775808):vN .i64 (n:Int) 127=((n % 128:Nat):Int):=by
 have e:(BitVec.ofInt 64 (n:Int) &&& BitVec.ofInt 64 127).toNat=n % 128:=by
  rw [BitVec.toNat_and]
  have e1:(BitVec.ofInt 64 (n:Int)).toNat=n:=by simp;omega
  have e2:(BitVec.ofInt 64 127).toNat=2 ^ 7 - 1:=by decide
  rw [e1,e2,Nat.and_two_pow_sub_one_eq_mod]
 unfold vN
 show IntKind.i64.wrap (((BitVec.ofInt 64 (n:Int) &&& BitVec.ofInt 64 127).toNat:Nat):Int)=_
 rw [e]
 exact wri (by omega) (by omega)

theorem bNp {n:Nat} (h:n<128):bOr .i64 (n:Int) 128=((n+128:Nat):Int):=by
 have e:(BitVec.ofInt 64 (n:Int) ||| BitVec.ofInt 64 128).toNat=n+128:=by
  rw [BitVec.toNat_or]
  have e1:(BitVec.ofInt 64 (n:Int)).toNat=n:=by simp;omega
  have e2:(BitVec.ofInt 64 128).toNat=128:=by decide
  rw [e1,e2,Nat.or_comm]
  have :=Nat.two_pow_add_eq_or_of_lt (i:=7) (b:=n) h 1
  simp only [Nat.mul_one] at this
  rw [← this];omega
 unfold bOr
 show IntKind.i64.wrap (((BitVec.ofInt 64 (n:Int) ||| BitVec.ofInt 64 128).toNat:Nat):Int)=_
 rw [e]
 exact wri (by omega) (by omega)

theorem bS5 (n:Nat):shr .i64 (n:Int) 7=((n / 128:Nat):Int):=by
 unfold shr
 show Int.fdiv (n:Int) (2 ^ 7)=_
 rw [Int.fdiv_eq_ediv_of_nonneg _ (by decide)]
 rfl

theorem bO9: ∀ (k n:Nat) (out:List Int),n<128 ^ (k+1)→out.length+k+1<=68719476736→n<9223372036854775808→(@Option.bind q37 (lI) (@aC q37 q37 (fun (s3:Int×lI)=>cond (decide (s3.1>(127:Int))) (cond (aK 1 s3.2.length 1) (some (bT5 (shr .i64 s3.1 (7:Int),s3.2++[IntKind.wrap .u8 (bOr .i64 (vN .i64 s3.1 (127:Int)) (128:Int))]))) none) (some (bT4 (s3.1,s3.2)))) ((n:Int),out)) fun (s4:Int×lI)=>cond (aK 1 s4.2.length 1) (some (s4.2++[IntKind.wrap .u8 s4.1])) none)=some (out++vi k n)
 | 0,n,out,hn,ho,hb=>by
  have hn:n<128:=by simpa using hn
  have e1:decide ((n:Int)>127)=false:=by simp;omega
  rw [bU (r:=((n:Int),out)) (by simp only [e1,zY]),aA]
  simp only [aE (b:=1) (n:=out.length) (m:=1) (by decide) (by omega),zZ,aBr (n:=n) (by omega),vi]
 | k+1,n,out,hn,ho,hb=>by
  by_cases h:n<128
  ·have e1:decide ((n:Int)>127)=false:=by simp;omega
   rw [bU (r:=((n:Int),out)) (by simp only [e1,zY]),aA]
   simp only [aE (b:=1) (n:=out.length) (m:=1) (by decide) (by omega),zZ,aBr (n:=n) (by omega),vi,zT h]
  ·have e1:decide ((n:Int)>127)=true:=by simp;omega
   have hd:n / 128<128 ^ (k+1):=by rw [Nat.div_lt_iff_lt_mul (by decide)];rw [Nat.pow_succ] at hn;exact hn
   rw [eE (s':=(((n / 128:Nat):Int),out++[((n % 128+128:Nat):Int)])) (by
    simp only [e1,zZ,aE (b:=1) (n:=out.length) (m:=1) (by decide) (by omega),bS5,aU9 hb,bNp (n:=n % 128) (by omega),aBr (n:=n % 128+128) (by omega)])]
   rw [bO9 k (n / 128) _ hd (by simp;omega) (by omega)]
   simp only [vi,zS h,bU5,bXb]

def zM (b:List Int) (n:Int):List Int:=if inR n 0 1000000000000 then b++vi 5 n.toNat else b

theorem aLk (b:List Int) (n:Int):(zM b n).length<=b.length+6:=by
 unfold zM
 split
 ·have :=bFu 5 n.toNat;rw [bU0];omega
 ·omega

theorem bPb {b:List Int} {n:Int} (h:b.length+6<=68719476736):lQ b n=some (zM b n):=by
 unfold lQ zM pj2
 rw [aGe (by omega),tY]
 cases c:inR n 0 1000000000000 with
 | false=>rfl
 | true=>
  rw [bS] at c
  obtain ⟨m,rfl⟩:=bUu c.1
  have :=bPq 5 m b (by simp only [show (128:Nat) ^ (5+1)=4398046511104 from by decide];omega) (by omega) (by omega)
  exact this

theorem bP9 {b:List Int} {n:Int} (h:b.length+6<=68719476736):lT b n=some (zM b n):=by
 unfold lT zM pj2
 rw [aE (b:=1) (n:=([]:List Int).length) (by decide) (by simp;omega),gQ]
 cases c:inR n 0 1000000000000 with
 | false=>rfl
 | true=>
  rw [bS] at c
  obtain ⟨m,rfl⟩:=bUu c.1
  have :=bO9 5 m b (by simp only [show (128:Nat) ^ (5+1)=4398046511104 from by decide];omega) (by omega) (by omega)
  exact this

def aH7 (b l:List Int):List Int:=l.foldl zM b

theorem bJr (b l:List Int):(aH7 b l).length<=b.length+6 * l.length:=by
 unfold aH7
 induction l generalizing b with
 | nil=>simp
 | cons x l ih=>
  have h1:=ih (zM b x)
  have h2:=aLk b x
  simp only [List.foldl_cons,bU7]
  omega

theorem aXv {α:Type} (l:List α):(l.map fun _=>6).sum=6 * l.length:=by
 induction l with
 | nil=>rfl
 | cons x l ih=>rw [bUs,bVl,ih,bU7];omega

theorem bOv {b l:List Int} (h:b.length+6 * l.length<=68719476736):pM b l=some (aH7 b l):=by
 unfold pM aH7
 rw [mM (fun k (a:List Int)=>(a,(k:Int))) (b,(0:Int)) b l (fun _ x a=>zM a x) bUk (fun _=>6) 68719476736 id rfl (by omega) (by rw [aXv];exact h) (fun _ x a=>aLk a x) (fun k x a hi hx hd hw hk hb=>by
  simp only [hd,hi,hw,zZ,aA,bPb (b:=a) (n:=x) hb]) (fun a=>by simp),uI zM]
 rfl

theorem bEc {l:List Int} (h:6 * l.length<=68719476736):oZ l=some (aH7 [] l):=by
 unfold oZ
 rw [bOv (by simpa using h)];rfl

theorem bFt {l:List Int} (h:6 * l.length<=68719476736):pD l=some (aH7 [] l):=by
 unfold pD aH7
 rw [mM (fun k (a:List Int)=>((k:Int),a)) ((0:Int),[]) [] l (fun _ x a=>zM a x) bUk (fun _=>6) 68719476736 id rfl (by omega) (by rw [aXv];simpa using h) (fun _ x a=>aLk a x) (fun k x a hi hx hd hw hk hb=>by
  simp only [hd,hi,hw,zZ,aA,bP9 (b:=a) (n:=x) hb]) (fun a=>by simp),uI zM]
 rfl

def aD2 (x:den tRv):List Int:=if fH x then aH7 [] [x.1,x.2.1,x.2.2] else []

theorem aMk (x:den tRv):(aD2 x).length<=18:=by
 unfold aD2
 split
 ·exact bJr [] [x.1,x.2.1,x.2.2]
 ·simp

theorem bR1 (x:den tRv):gT x=some (aD2 x):=by
 unfold gT aD2 pj3
 rw [bEc (l:=[x.1,x.2.1,x.2.2]) (by simp)]
 simp only [aO,aHk,aA]
 cases fH x<;>rfl

theorem bRx (x:den tRv):gU x=some (aD2 x):=by
 unfold gU aD2 pj3
 rw [bFt (l:=[x.1,x.2.1,x.2.2]) (by simp)]
 simp only [aO,aB2,aA]
 cases fH x<;>rfl


def bQ (r now d:Int) (p:den tPk):den tPk:=aC6 3 (aA9 (kT p)) p.2.2.2.2.2.2.2.1 p.2.2.2.2.2.2.2.2.1 (aD2 (r,d,if 1000000<wr (now+10) then 1000000 else wr (now+10)))

theorem aYs {t:den tTo} {r now d:Int} {p:den tPk} (h:tot tPk p<=34359738368):eR t r now d p=some (pkR (bQ r now d p)):=by
 have h1:tot tPt p.2.2.2.1<=34359738368:=aKh (bJ (bJ (bJ h)))
 have h2:=xU p
 have sm:SmB 68719476736 tPk p:=(bF h).mono (by decide)
 have h3:=aMk (r,d,if 1000000<wr (now+10) then 1000000 else wr (now+10))
 unfold eR bQ aI zz7 zz8
 simp only [aO,bSr,aA,aL6 sm]
 rw [bF0 ((bF (bT7 h2 h1)).mono (by decide)),aA,bR1,aA,aXl (by rw [aBo];omega) (by omega)]
 rfl

theorem aXm {t:den tTo} {r now d:Int} {p:den tPk} (h:tot tPk p<=34359738368):dY t r now d p=some (pkR (bQ r now d p)):=by
 have h1:tot tPt p.2.2.2.1<=34359738368:=aKh (bJ (bJ (bJ h)))
 have h2:=xU p
 have sm:SmB 68719476736 tPk p:=(bF h).mono (by decide)
 have h3:=aMk (r,d,if 1000000<wr (now+10) then 1000000 else wr (now+10))
 unfold dY bQ aI zz7 zz8
 simp only [aO,aS7,aA,aLn sm]
 rw [bGo ((bF (bT7 h2 h1)).mono (by decide)),aA,bRx,aA,aKa (by rw [aBo];omega) (by omega)]
 rfl

theorem aIl {kind res seq:Int} {p:den tPt} {pay:List Int}:tot tPk (aC6 kind p res seq pay)=tot tPt p+tot (.sl tb) pay:=by
 show 0+(0+(0+(tot tPt p+(0+(0+(0+(0+(0+tot (.sl tb) pay))))))))=_
 omega

theorem aQl (f:den tFl):tot tPk (yK f)<=tot tFl f:=by
 unfold yK
 split
 ·rw [aIl]
  have h1:=aVh (t:=tPt) (l:=f.2.2.2.2.2.1) (d:=[]) (i:=f.2.2.2.2.2.2.1.toNat) rfl
  have h2:=aVh (t:= .sl tb) (l:=f.2.2.2.2.1) (d:=[]) (i:=f.2.2.2.1.toNat) rfl
  show _<=0+(0+(0+(0+(tot (.sl (.sl tb)) f.2.2.2.2.1+(tot (.sl tPt) f.2.2.2.2.2.1+(0+(0+tot (.sl tRv) f.2.2.2.2.2.2.2.2)))))))
  omega
 ·exact bUt _

theorem aKl {p:den tPk} {N:Nat} (h:tot tPk p<=N):tot (.sl tPp) p.2.2.2.1<=N∧tot (.sl tb) p.2.2.2.2.2.2.2.2.2<=N:=
 ⟨aKh (bJ (bJ (bJ h))),bJ (bJ (bJ (bJ (bJ (bJ (bJ (bJ (bJ h))))))))⟩

theorem aQw (x:den tIb) (p:den tPk):tot tPk (mZ x p)<=tot tPk p:=by
 unfold mZ
 split
 ·unfold aKe
  rw [aIl,aBo]
  have h:=(aKl (bUo (tot tPk p))).1
  show tot (.sl tPp) p.2.2.2.1+0<=_
  omega
 ·exact bUt _

theorem aR0 (f:den tFl):tot tFl (aT f).1=tot tFl f∧tot tPk (aT f).2.1<=tot tFl f:=by
 unfold aT
 split
 ·split
  ·exact ⟨aFf f _ _,aQl f⟩
  ·split
   ·exact ⟨aFf f _ _,aQl (pV f (xW f) 1)⟩
   ·exact ⟨aFf f _ _,bUt _⟩
 ·exact ⟨aFf f _ _,bUt _⟩

theorem aJm (r now d:Int) (p:den tPk):tot tPk (bQ r now d p)<=tot tPk p+18:=by
 unfold bQ
 rw [aIl,aBo]
 have h1:=xU p
 have h2:=(aKl (bUo (tot tPk p))).1
 have h2:tot tPt p.2.2.2.1<=tot tPk p:=h2
 have h3:=aMk (r,d,if 1000000<wr (now+10) then 1000000 else wr (now+10))
 have e:tot (.sl tb) (aD2 (r,d,if 1000000<wr (now+10) then 1000000 else wr (now+10)))=(aD2 (r,d,if 1000000<wr (now+10) then 1000000 else wr (now+10))).length:=dD rfl
 rw [e]
 omega

def aFm {α β:Type} (p:α→β→Bool):List α→List β→Bool
 | x::xs,y::ys=>p x y&&aFm p xs ys
 | _,_=>true

theorem aVy {α β R:Type} {a:List α} {b:List β} (p:α→β→Bool) {step:Int→Option (Int⊕(Unit⊕R))} (ρ:R) (hlen:a.length=b.length) (hl:a.length<=4611686018427387904)
  (h: ∀ (k:Nat) (x:α) (y:β),x∈a→y∈b→idx a (k:Int)=some x→idx b (k:Int)=some y→decide ((k:Int)<(a.length:Int))=true→IntKind.i64.wrap ((k:Int)+1)=((k+1:Nat):Int)→step (k:Int)=some (cond (p x y) (.inl ((k+1:Nat):Int)) (.inr (.inr ρ))))
  (he:step (a.length:Int)=some (.inr (.inl ()))):aC step (0:Int)=some (cond (aFm p a b) (.inl ()) (.inr ρ)):=by
 have key: ∀ (ra pa:List α) (rb pb:List β),pa++ra=a→pb++rb=b→pa.length=pb.length→aC step (pa.length:Int)=some (cond (aFm p ra rb) (.inl ()) (.inr ρ)):=by
  intro ra
  induction ra with
  | nil=>intro pa rb pb h1 _ _;rw [bVg] at h1;subst h1;exact bU he
  | cons x ra ih=>
   intro pa rb pb h1 h2 h3
   cases rb with
   | nil=>exfalso;have e1:=congrArg bUk h1;have e2:=congrArg bUk h2;simp at e1 e2;omega
   | cons y rb=>
    have hx:a[pa.length]? =some x:=by rw [← h1];simp
    have hy:b[pa.length]? =some y:=by rw [← h2,h3];simp
    have hlt:pa.length<a.length:=by rw [← h1];simp
    have hs:=h pa.length x y (bUi hx) (bUi hy) (by rw [aF];exact hx) (by rw [aF];exact hy) (by simpa using hlt) (by rw [wri (by omega) (by omega)];omega)
    simp only [aFm]
    cases hp:p x y with
    | true=>rw [hp] at hs;rw [eE hs];have :=ih (pa++[x]) rb (pb++[y]) (by simpa using h1) (by simpa using h2) (by simp [h3]);simpa using this
    | false=>rw [hp] at hs;exact bU hs
 exact key a [] b [] rfl rfl rfl

theorem aDm {α:Type} (b:Bool) (x y:α):cond b (some x) (some y)=some (cond b x y):=by cases b<;>rfl

theorem bDh {β:Type} (c:Bool) (f:Unit→Option β) (r:β):Sum.elim f some (cond c (bT5 ()) (bT4 r))=cond c (f ()) (some r):=by cases c<;>rfl

theorem bFh {α β:Type} (a:List α) (b:List β):((a.length:Int) != (b.length:Int))= !decide (a.length=b.length):=by
 rw [bU1];simp;omega

theorem aW7 {α:Type} {p:Prop} [Decidable p] {x y z:α} (h:p→y=z):cond (!decide p) x y=cond (!decide p) x z:=by
 by_cases hp:p
 ·rw [h hp]
 ·simp [hp]

noncomputable def aMr (a b:dA):Bool:=cond (!decide (a.length=b.length)) false (cond (aFm (fun x y=>(x.1==y.1)&&((x.2.1==y.2.1)&&((x.2.2.1==y.2.2.1)&&((x.2.2.2.1==y.2.2.2.1)&&((x.2.2.2.2==y.2.2.2.2)&&true))))) a b) true false)

theorem bNc {a b:dA} (ha:a.length<=68719476736):iI a b=some (aMr a b):=by
 unfold iI aMr zz4
 rw [bFh]
 rw [aW7 (z:=some (cond (aFm (fun x y=>(x.1==y.1)&&((x.2.1==y.2.1)&&((x.2.2.1==y.2.2.1)&&((x.2.2.2.1==y.2.2.2.1)&&((x.2.2.2.2==y.2.2.2.2)&&true))))) a b) true false)) (fun hlen=>by
  rw [aVy (a:=a) (b:=b) (fun x y=>(x.1==y.1)&&((x.2.1==y.2.1)&&((x.2.2.1==y.2.2.1)&&((x.2.2.2.1==y.2.2.2.1)&&((x.2.2.2.2==y.2.2.2.2)&&true))))) false hlen (bT7 ha (by decide)) (fun k x y mx my ix iy hd hw=>by
   simp only [hd,ix,iy,hw,zZ,aA,aO,bne]
   generalize ((x.1==y.1)&&((x.2.1==y.2.1)&&((x.2.2.1==y.2.2.1)&&((x.2.2.2.1==y.2.2.2.1)&&((x.2.2.2.2==y.2.2.2.2)&&true)))))=c
   cases c<;>rfl) (by simp)]
  simp only [aA,bDh,aDm]),aDm]

noncomputable def aCi (a b:den tPp):Bool:=cond (a.1==b.1) (cond (a.2.1==b.2.1) (cond (a.2.2.1==b.2.2.1) (aMr a.2.2.2 b.2.2.2) false) false) false

theorem bIw {a b:den tPp} (ha:SmB 68719476736 tPp a) (hb:SmB 68719476736 tPp b):jF a b=some (aCi a b):=by
 unfold jF aCi
 simp only [aA,aDm,aO,bNc ha.2.2.2.1]

noncomputable def aOg (a b:lPp):Bool:=cond (!decide (a.length=b.length)) false (cond (aFm (fun x y=>aCi x y) a b) true false)

theorem bMm {a b:lPp} (ha:SmB 68719476736 (.sl tPp) a) (hb:SmB 68719476736 (.sl tPp) b):iF a b=some (aOg a b):=by
 unfold iF aOg pj4
 rw [bFh]
 rw [aW7 (z:=some (cond (aFm (fun x y=>aCi x y) a b) true false)) (fun hlen=>by
  rw [aVy (a:=a) (b:=b) (fun x y=>aCi x y) false hlen (bT7 ha.1 (by decide)) (fun k x y mx my ix iy hd hw=>by
   simp only [hd,ix,iy,hw,zZ,aA,aO,bIw (ha.2 x mx) (hb.2 y my)]
   generalize (aCi x y)=c
   cases c<;>rfl) (by simp)]
  simp only [aA,bDh,aDm]),aDm]

noncomputable def bLz (a b:List Int):Bool:=(aBe a).toList==(aBe b).toList

theorem bN4 (a b:List Int):sF a b=some (bLz a b):=rfl

noncomputable def zE (a b:den tPk):Bool:=cond (a.1==b.1) (cond (a.2.1==b.2.1) (cond (a.2.2.1==b.2.2.1) (cond (aOg a.2.2.2.1 b.2.2.2.1) (cond (a.2.2.2.2.1==b.2.2.2.2.1) (cond (a.2.2.2.2.2.1==b.2.2.2.2.2.1) (cond (a.2.2.2.2.2.2.1==b.2.2.2.2.2.2.1) (cond (a.2.2.2.2.2.2.2.1==b.2.2.2.2.2.2.2.1) (cond (a.2.2.2.2.2.2.2.2.1==b.2.2.2.2.2.2.2.2.1) (bLz a.2.2.2.2.2.2.2.2.2 b.2.2.2.2.2.2.2.2.2) false) false) false) false) false) false) false) false) false

theorem bOf {a b:den tPk} (ha:SmB 68719476736 tPk a) (hb:SmB 68719476736 tPk b):jY a b=some (zE a b):=by
 unfold jY zE zz4 zz5 zz6 zz7 zz8 zz9
 simp only [aA,aDm,aO,bN4,bMm ha.2.2.2.1 hb.2.2.2.1]

def aLj (b:List Int) (p:Nat):Nat→Nat→Nat→Int×Int×Bool
 | 0,_,_=>(0,0,false)
 | f+1,k,n=>match b[p+k]? with
  | none=>(0,0,false)
  | some x=>
   if x.toNat<128 then (if (decide (x.toNat=0)&&decide (0<k))||decide (1000000000000<n+x.toNat % 128 * 2 ^ (7 * k)) then (0,0,false) else (((n+x.toNat % 128 * 2 ^ (7 * k):Nat):Int),((p+k+1:Nat):Int),true))
   else aLj b p f (k+1) (n+x.toNat % 128 * 2 ^ (7 * k))

theorem aQc {k:Nat} (h:k<6):2 ^ (7 * k)<=34359738368:=bT7 (Nat.pow_le_pow_right (by decide) (show 7 * k<=35 by omega)) (by decide)

theorem bF4 {n c k:Nat} (h:n<2 ^ (7 * k)) (hc:c<128):n+c * 2 ^ (7 * k)<2 ^ (7 * (k+1)):=by
 have e:2 ^ (7 * (k+1))=128 * 2 ^ (7 * k):=by rw [show 7 * (k+1)=7 * k+7 by omega,Nat.pow_add];omega
 have :c * 2 ^ (7 * k)<=127 * 2 ^ (7 * k):=bVm _ (by omega)
 omega

theorem aQh {c k:Nat} (hk:k<6) (hc:c<128):c * 2 ^ (7 * k)<=4398046511104:=bT7 (Nat.mul_le_mul (show c<=128 by omega) (aQc hk)) (by decide)

theorem aXw {S:Type} (b:List Int) (p:Nat) (hb: ∀ x∈b,0<=x∧x<=255) (enc:Nat→Nat→S) {step:S→Option (S⊕(Unit⊕q25))}
  (h0: ∀ n,step (enc 6 n)=some (.inr (.inl ())))
  (h1: ∀ k n,k<6→b[p+k]? =none→step (enc k n)=some (.inr (.inl ()))∨step (enc k n)=some (.inr (.inr (0,0,false))))
  (h2: ∀ k n (m:Nat),k<6→n<2 ^ (7 * k)→m<=255→b[p+k]? =some (m:Int)→step (enc k n)=some (if m<128 then .inr (.inr (if (decide (m=0)&&decide (0<k))||decide (1000000000000<n+m % 128 * 2 ^ (7 * k)) then (0,0,false) else (((n+m % 128 * 2 ^ (7 * k):Nat):Int),((p+k+1:Nat):Int),true))) else .inl (enc (k+1) (n+m % 128 * 2 ^ (7 * k))))):
  ∀ f k n,f+k=6→n<2 ^ (7 * k)→ @Option.bind (Unit⊕q25) q25 (aC step (enc k n)) (fun z=>Sum.elim (fun _=>some ((0:Int),(0:Int),false)) some z)=some (aLj b p f k n):=by
 intro f
 induction f with
 | zero=>
  intro k n hk hn
  have :k=6:=by omega
  subst this
  rw [bU (h0 n)]
  rfl
 | succ f ih=>
  intro k n hk hn
  have hk6:k<6:=by omega
  unfold aLj
  cases hx:b[p+k]? with
  | none=>rcases h1 k n hk6 hx with h | h<;>rw [bU h]<;>rfl
  | some x=>
   obtain ⟨x0,x1⟩:=hb x (bUi hx)
   obtain ⟨m,rfl⟩: ∃ m:Nat,x=(m:Int):=⟨x.toNat,by omega⟩
   have hs:=h2 k n m hk6 hn (by omega) hx
   simp only [bUf]
   by_cases hm:m<128
   ·rw [zT hm] at hs ⊢
    rw [bU hs]
    rfl
   ·rw [zS hm] at hs ⊢
    rw [eE hs]
    exact ih (k+1) _ (by omega) (bF4 hn (Nat.mod_lt _ (by decide)))

theorem aXx {a c:Nat} (hc:c<=35) (h:a * 2 ^ c<=4398046511104):shl .i64 (a:Int) (c:Int)=((a * 2 ^ c:Nat):Int):=by
 unfold shl
 have e:min ((c:Int)).toNat IntKind.i64.bits=c:=by simp [IntKind.bits];omega
 rw [e]
 have e2:(a:Int) * 2 ^ c=((a * 2 ^ c:Nat):Int):=by simp
 rw [e2]
 exact wri (by omega) (by omega)

theorem bOb {n c k:Nat} (hk:k<6) (hn:n<2 ^ (7 * k)) (hc:c<128):bOr .i64 (n:Int) ((c * 2 ^ (7 * k):Nat):Int)=((n+c * 2 ^ (7 * k):Nat):Int):=by
 have hm:=aQh hk hc
 have hp:=aQc hk
 have e:(BitVec.ofInt 64 (n:Int) ||| BitVec.ofInt 64 ((c * 2 ^ (7 * k):Nat):Int)).toNat=n+c * 2 ^ (7 * k):=by
  rw [BitVec.toNat_or]
  have e1:(BitVec.ofInt 64 (n:Int)).toNat=n:=by simp;omega
  have e2:(BitVec.ofInt 64 ((c * 2 ^ (7 * k):Nat):Int)).toNat=c * 2 ^ (7 * k):=by
   generalize c * 2 ^ (7 * k)=q at hm
   simp;omega
  rw [e1,e2,Nat.or_comm]
  have :=Nat.two_pow_add_eq_or_of_lt (i:=7 * k) (b:=n) hn c
  rw [Nat.mul_comm c,← this];omega
 unfold bOr
 show IntKind.i64.wrap (((BitVec.ofInt 64 (n:Int) ||| BitVec.ofInt 64 ((c * 2 ^ (7 * k):Nat):Int)).toNat:Nat):Int)=_
 rw [e]
 exact wri (by omega) (by omega)

theorem aUp {n:Nat} (h:n<256):IntKind.wrap .u64 (n:Int)=(n:Int):=by
 simp only [IntKind.wrap,IntKind.signed,IntKind.bits]
 simp
 omega

def rv (b:List Int) (p:Nat):q25:=aLj b p 6 0 0

theorem aQt (k:Nat):(7:Int) * (k:Int)=((7 * k:Nat):Int):=by omega

theorem bT1 {b:List Int} {p:Nat} (hb: ∀ x∈b,0<=x∧x<=255) (hl:b.length<=68719476736) (hp:p<=b.length):pC b (p:Int)=some (rv b p):=by
 unfold pC
 have e0:decide ((p:Int)<0)=false:=by simp
 rw [e0,zY]
 refine aXw b p hb (fun k n=>(((p+k:Nat):Int),(n:Int),(k:Int))) (fun n=>by simp) (fun k n hk hx=> ?_) (fun k n m hk hn hm hx=> ?_) 6 0 0 rfl (by simp)
 ·left
  have h1:decide (((p+k:Nat):Int)<(b.length:Int))=false:=by
   have :=List.getElem?_eq_none_iff.1 hx
   simp;omega
  simp only [h1]
  cases decide ((k:Int)<6)<;>rfl
 ·have h0:=(bUg.1 hx).1
  have h1:decide (((p+k:Nat):Int)<(b.length:Int))=true:=by simp;omega
  have h2:decide ((k:Int)<6)=true:=by simp;omega
  have h3:idx b ((p+k:Nat):Int)=some (m:Int):=by rw [aF];exact hx
  have h4:wr ((7 * k:Nat):Int)=((7 * k:Nat):Int):=wri (by omega) (by omega)
  have h5:wr (m:Int)=(m:Int):=wri (by omega) (by omega)
  have h6:decide (((7 * k:Nat):Int)<0)=false:=by simp;omega
  have h7:bUy (m:Int) 128=((m % 128:Nat):Int):=rfl
  have hq:=aQh (c:=m % 128) hk (Nat.mod_lt _ (by decide))
  have hr:=aQc hk
  have h8:wr ((n:Int)+((m % 128 * 2 ^ (7 * k):Nat):Int))=((n+m % 128 * 2 ^ (7 * k):Nat):Int):=by
   generalize m % 128 * 2 ^ (7 * k)=q at hq
   have :wr ((n:Int)+(q:Int))=(n:Int)+(q:Int):=wri (by omega) (by omega)
   rw [this];omega
  have h9:wr (((p+k:Nat):Int)+1)=((p+k+1:Nat):Int):=by
   have :wr (((p+k:Nat):Int)+1)=((p+k:Nat):Int)+1:=wri (by omega) (by omega)
   rw [this];omega
  have ha:wr ((k:Int)+1)=((k+1:Nat):Int):=by
   have :wr ((k:Int)+1)=(k:Int)+1:=wri (by omega) (by omega)
   rw [this];omega
  simp only [h1,h2,h3,zZ,aA,aQt,h4,aUp (n:=7 * k) (by omega),h6,zY,h5,h7,aXx (a:=m % 128) (c:=7 * k) (by omega) hq,h8,h9,ha]
  generalize n+m % 128 * 2 ^ (7 * k)=q
  by_cases c1:m<128
  ·have e1:decide ((m:Int)<128)=true:=by simp;omega
   have e2:((m:Int)==0)=decide (m=0):=by rw [bU1];simp
   have e3:decide ((k:Int)>0)=decide (0<k):=by rw [bU1];simp
   have e4:decide ((q:Int)>1000000000000)=decide (1000000000000<q):=by rw [bU1];simp;omega
   simp only [e1,e2,e3,e4,zZ,zT c1]
   cases decide (m=0)<;>cases decide (0<k)<;>cases decide (1000000000000<q)<;>rfl
  ·have e1:decide ((m:Int)<128)=false:=by simp;omega
   simp only [e1,zY,zS c1]
   rfl

theorem bTn {b:List Int} {p:Nat} (hb: ∀ x∈b,0<=x∧x<=255) (hl:b.length<=68719476736) (hp:p<=b.length):pR b (p:Int)=some (rv b p):=by
 unfold pR
 have e0:decide ((p:Int)<0)=false:=by simp
 refine aXw b p hb (fun k n=>((n:Int),(k:Int))) (fun n=>by simp) (fun k n hk hx=> ?_) (fun k n m hk hn hm hx=> ?_) 6 0 0 rfl (by simp)
 ·right
  have hw:wr ((b.length:Int) - (k:Int))=(b.length:Int) - (k:Int):=wri (by omega) (by omega)
  have h1:decide ((p:Int)>=(b.length:Int) - (k:Int))=true:=by
   have :=List.getElem?_eq_none_iff.1 hx
   simp;omega
  have h2:decide ((k:Int)<6)=true:=by simp;omega
  simp only [h2,e0,hw,h1,zZ,zY,aA]
 ·have h0:=(bUg.1 hx).1
  have hw:wr ((b.length:Int) - (k:Int))=(b.length:Int) - (k:Int):=wri (by omega) (by omega)
  have h1:decide ((p:Int)>=(b.length:Int) - (k:Int))=false:=by simp;omega
  have h2:decide ((k:Int)<6)=true:=by simp;omega
  have hpk:wr ((p:Int)+(k:Int))=((p+k:Nat):Int):=by
   have :wr ((p:Int)+(k:Int))=(p:Int)+(k:Int):=wri (by omega) (by omega)
   rw [this];omega
  have h3:idx b ((p+k:Nat):Int)=some (m:Int):=by rw [aF];exact hx
  have h4:wr ((7 * k:Nat):Int)=((7 * k:Nat):Int):=wri (by omega) (by omega)
  have h5:wr (m:Int)=(m:Int):=wri (by omega) (by omega)
  have h6:decide (((7 * k:Nat):Int)<0)=false:=by simp;omega
  have hq:=aQh (c:=m % 128) hk (Nat.mod_lt _ (by decide))
  have h9:wr (((p+k:Nat):Int)+1)=((p+k+1:Nat):Int):=by
   have :wr (((p+k:Nat):Int)+1)=((p+k:Nat):Int)+1:=wri (by omega) (by omega)
   rw [this];omega
  have ha:wr ((k:Int)+1)=((k+1:Nat):Int):=by
   have :wr ((k:Int)+1)=(k:Int)+1:=wri (by omega) (by omega)
   rw [this];omega
  simp only [h1,h2,hw,e0,hpk,h3,zZ,zY,aA,aQt,h4,h6,h5,aU9 (n:=m) (by omega),aXx (a:=m % 128) (c:=7 * k) (by omega) hq,bOb (c:=m % 128) hk hn (Nat.mod_lt _ (by decide)),h9,ha]
  generalize n+m % 128 * 2 ^ (7 * k)=q
  by_cases c1:m<128
  ·have e1:decide ((m:Int)<128)=true:=by simp;omega
   have e2:((m:Int)==0)=decide (m=0):=by rw [bU1];simp
   have e3:decide ((k:Int)>0)=decide (0<k):=by rw [bU1];simp
   have e4:decide ((q:Int)>1000000000000)=decide (1000000000000<q):=by rw [bU1];simp;omega
   simp only [e1,e2,e3,e4,zZ,zT c1]
   cases decide (m=0)<;>cases decide (0<k)<;>cases decide (1000000000000<q)<;>rfl
  ·have e1:decide ((m:Int)<128)=false:=by simp;omega
   simp only [e1,zY,zS c1]

theorem aXb {b:List Int} {p:Nat}: ∀ (f k n:Nat),(aLj b p f k n).2.2=true→ ∃ q:Nat,(aLj b p f k n).2.1=(q:Int)∧q<=b.length
 | 0,k,n,h=>by cases h
 | f+1,k,n,h=>by
  unfold aLj at h ⊢
  cases hx:b[p+k]? with
  | none=>rw [hx] at h;cases h
  | some x=>
   rw [hx] at h
   have hlt:=(bUg.1 hx).1
   simp only at h ⊢
   by_cases c:x.toNat<128
   ·rw [zT c] at h ⊢
    split at h
    ·cases h
    ·rename_i c2
     rw [zS c2]
     exact ⟨p+k+1,rfl,hlt⟩
   ·rw [zS c] at h ⊢
    exact aXb f (k+1) _ h

theorem bLa {b:List Int} {p:Nat} (h:(rv b p).2.2=true): ∃ q:Nat,(rv b p).2.1=(q:Int)∧q<=b.length:=aXb 6 0 0 h

def aJs (b:List Int):Int×Bool×List Int:=
 cond (rv b 0).2.2 (cond (rv b (rv b 0).2.1.toNat).2.2 (cond (rv b (rv b (rv b 0).2.1.toNat).2.1.toNat).2.2
  ((rv b (rv b (rv b 0).2.1.toNat).2.1.toNat).2.1,true,[(rv b 0).1,(rv b (rv b 0).2.1.toNat).1,(rv b (rv b (rv b 0).2.1.toNat).2.1.toNat).1]) (0,false,[])) (0,false,[])) (0,false,[])

theorem aW2 (b:List Int):aJs b=(0,false,[])∨ ∃ q x y z,aJs b=(q,true,[x,y,z]):=by
 unfold aJs
 cases (rv b 0).2.2
 ·exact .inl rfl
 ·cases (rv b (rv b 0).2.1.toNat).2.2
  ·exact .inl rfl
  ·cases (rv b (rv b (rv b 0).2.1.toNat).2.1.toNat).2.2
   ·exact .inl rfl
   ·exact .inr ⟨_,_,_,_,rfl⟩

theorem aT7 {b:List Int} {step:Int×Int×List Int→Option ((Int×Int×List Int)⊕((Int×List Int)⊕(Int×Bool×List Int)))}
  (hs: ∀ (p:Nat) (i:Nat) (out:List Int),p<=b.length→i<3→out.length<=3→step ((p:Int),(i:Int),out)=some (cond (rv b p).2.2 (.inl ((rv b p).2.1,((i+1:Nat):Int),out++[(rv b p).1])) (.inr (.inr (0,false,[])))))
  (he: ∀ p out,step (p,3,out)=some (.inr (.inl (p,out)))):
  @Option.bind ((Int×List Int)⊕(Int×Bool×List Int)) (Int×Bool×List Int) (aC step ((0:Int),(0:Int),([]:List Int))) (fun z=>Sum.elim (fun s8=>some (s8.1,true,s8.2)) some z)=some (aJs b):=by
 have h1:=hs 0 0 [] (bUt _) (by decide) (by decide)
 unfold aJs
 cases c1:(rv b 0).2.2 with
 | false=>rw [c1] at h1;rw [bU (s:=((0:Int),(0:Int),([]:List Int))) h1];rfl
 | true=>
  rw [c1] at h1
  obtain ⟨q1,e1,l1⟩:=bLa c1
  rw [eE (s:=((0:Int),(0:Int),([]:List Int))) h1]
  rw [e1]
  simp only [zZ,bUf]
  have h2:=hs q1 (0+1) ([]++[(rv b 0).1]) l1 (by decide) (by simp)
  cases c2:(rv b q1).2.2 with
  | false=>rw [c2] at h2;rw [bU h2];rfl
  | true=>
   rw [c2] at h2
   obtain ⟨q2,e2,l2⟩:=bLa c2
   rw [eE h2]
   rw [e2]
   simp only [zZ,bUf]
   have h3:=hs q2 (0+1+1) ([]++[(rv b 0).1]++[(rv b q1).1]) l2 (by decide) (by simp)
   cases c3:(rv b q2).2.2 with
   | false=>rw [c3] at h3;rw [bU h3];rfl
   | true=>
    rw [c3] at h3
    rw [eE h3]
    rw [bU (s:=((rv b q2).2.1,((0+1+1+1:Nat):Int),[]++[(rv b 0).1]++[(rv b q1).1]++[(rv b q2).1])) (he _ _)]
    rfl

theorem bQk {b:List Int} (hb: ∀ x∈b,0<=x∧x<=255) (hl:b.length<=68719476736):pN b 0 3=some (aJs b):=by
 unfold pN
 have r1:inR 3 0 100=true:=by decide
 have r2:inR 0 0 (b.length:Int)=true:=by rw [bS];omega
 simp only [tY,aA,r1,r2,bUc,zY]
 refine aT7 (fun p i out hp hi ho=> ?_) (fun p out=>by simp)
 have e1:decide ((i:Int)<3)=true:=by simp;omega
 have e2:wr ((i:Int)+1)=((i+1:Nat):Int):=by
  have :wr ((i:Int)+1)=(i:Int)+1:=wri (by omega) (by omega)
  rw [this];omega
 simp only [e1,zZ,bT1 hb hl hp,aA,e2,aE (b:=8) (n:=out.length) (m:=1) (by decide) (by omega)]
 cases (rv b p).2.2<;>rfl

theorem bO0 {b:List Int} (hb: ∀ x∈b,0<=x∧x<=255) (hl:b.length<=68719476736):pT b 0 3=some (aJs b):=by
 unfold pT
 have r1:inR 3 0 100=true:=by decide
 have r2:inR 0 0 (b.length:Int)=true:=by rw [bS];omega
 simp only [gQ,aA,r1,r2,bUc,zY]
 refine aT7 (fun p i out hp hi ho=> ?_) (fun p out=>by simp)
 have e1:decide ((i:Int)<3)=true:=by simp;omega
 have e2:wr ((i:Int)+1)=((i+1:Nat):Int):=by
  have :wr ((i:Int)+1)=(i:Int)+1:=wri (by omega) (by omega)
  rw [this];omega
 simp only [e1,zZ,bTn hb hl hp,aA,e2,aE (b:=8) (n:=out.length) (m:=1) (by decide) (by omega)]
 cases (rv b p).2.2<;>rfl


def uY (b:List Int):Int×q25:=
 match aJs b with
 | (q,true,[x,y,z])=>cond (q==(b.length:Int)) (cond (fH (x,y,z)) (x,y,z,true) (0,0,0,false)) (0,0,0,false)
 | _=>(0,0,0,false)

theorem bP4 {b:List Int} (hb: ∀ x∈b,0<=x∧x<=255) (hl:b.length<=68719476736):hP b=some (uY b):=by
 unfold hP uY ixb
 rw [bQk hb hl]
 rcases aW2 b with h | ⟨q,x,y,z,h⟩
 ·rw [h];rfl
 ·rw [h]
  simp only [aA,bUc,zY,bne,aHk]
  cases q==(b.length:Int)
  ·rfl
  ·cases hv:fH (x,y,z)<;>simp [hv]

theorem bOt {b:List Int} (hb: ∀ x∈b,0<=x∧x<=255) (hl:b.length<=68719476736):hU b=some (uY b):=by
 unfold hU uY ixb
 rw [bO0 hb hl]
 rcases aW2 b with h | ⟨q,x,y,z,h⟩
 ·rw [h];rfl
 ·rw [h]
  simp only [aA,bUc,zY,bne,aB2]
  cases q==(b.length:Int)
  ·rfl
  ·cases hv:fH (x,y,z)<;>simp [hv]

def yL (x:den tRv) (l:lRv) (k:Nat) (y:den tRv):Option lRv:=
 cond (y.1==x.1) (cond (y.2.1==x.2.1) (some (l.set k (y.1,y.2.1,if x.2.2>y.2.2 then x.2.2 else y.2.2))) none) none

def aGw (l:lRv) (x:den tRv):lRv:=
 cond (fH x) (match eC (yL x l) 0 l with
  | some r=>r
  | none=>if 16<l.length+1 then (l++[x]).drop 1 else l++[x]) l

theorem aYh {α:Type} {l:List α} (h:0<l.length):cut l (1:Int) (l.length:Int)=l.drop 1:=aVj (k:=1) h

theorem aVn (l:lRv) (x:den tRv):decide (((l++[x]).length:Int)>16)=decide (16<l.length+1):=by
 rw [bU1];simp;omega

theorem bPs {l:lRv} {x:den tRv} (h:l.length<=1073741824):kM l x=some (aGw l x):=by
 unfold kM aGw ixb pj3
 rw [aOu (show l.length<=68719476736 by omega)]
 simp only [aA,aO,aHk]
 cases hv:fH x with
 | false=>rfl
 | true=>
  simp only [bUc,zY,zZ]
  rw [cA (l:=l) (yL x l) (by omega) (fun k y hi hd hw hm hk=>by
   have hy:l[k]? =some y:=by rw [← aF];exact hi
   simp only [hd,zZ,fS,bUf,hy,aA,bL8,hw]
   unfold yL
   cases y.1==x.1
   ·rfl
   ·cases y.2.1==x.2.1<;>rfl) (by simp)]
  cases eC (yL x l) 0 l with
  | some r=>rfl
  | none=>
   have e1:cZ (1:Int) ((l++[x]).length:Int) ((l++[x]).length:Int)=true:=by
    have :=aBu (a:=1) (b:=(l++[x]).length) (n:=(l++[x]).length)
    rw [show ((1:Nat):Int)=1 from rfl] at this
    rw [this];simp
   have e2:=aYh (l:=l++[x]) (by simp)
   simp only [aA,bVe,aE (b:=24) (n:=l.length) (m:=1) (by decide) (by omega),zZ,aVn,e1,e2,aOu (l:=(l++[x]).drop 1) (by simp;omega)]
   by_cases c:16<l.length+1
   ·have c2:(16:Int)<(l.length:Int)+1:=by omega
    simp [c,c2]
   ·have c2: ¬ (16:Int)<(l.length:Int)+1:=by omega
    simp [c,c2]

theorem bPd {l:lRv} {x:den tRv} (h:l.length<=1073741824):kQ l x=some (aGw l x):=by
 unfold kQ aGw ixb pj3
 rw [aE (b:=24) (n:=([]:lRv).length) (by decide) (by simp;omega)]
 simp only [zZ,aA,aO,aB2,bUz]
 cases hv:fH x with
 | false=>rfl
 | true=>
  simp only [bUc,zY,zZ]
  rw [cA (l:=l) (yL x l) (by omega) (fun k y hi hd hw hm hk=>by
   have hy:l[k]? =some y:=by rw [← aF];exact hi
   have hk2:decide (k<l.length)=true:=by simpa using hk
   simp only [hd,zZ,fS,bUf,hy,aA,bB0,hw,hk2]
   unfold yL
   cases y.1==x.1
   ·rfl
   ·cases y.2.1==x.2.1<;>rfl) (by simp)]
  cases eC (yL x l) 0 l with
  | some r=>rfl
  | none=>
   have e1:cZ (1:Int) ((l++[x]).length:Int) ((l++[x]).length:Int)=true:=by
    have :=aBu (a:=1) (b:=(l++[x]).length) (n:=(l++[x]).length)
    rw [show ((1:Nat):Int)=1 from rfl] at this
    rw [this];simp
   have e2:=aYh (l:=l++[x]) (by simp)
   simp only [aA,bVe,aE (b:=24) (n:=l.length) (m:=1) (by decide) (by omega),zZ,aVn,e1,e2]
   by_cases c:16<l.length+1
   ·have c2:(16:Int)<(l.length:Int)+1:=by omega
    simp [c,c2]
   ·have c2: ¬ (16:Int)<(l.length:Int)+1:=by omega
    simp [c,c2]

def aJy (s:den wS) (a:List Int):List Int:=
 (fun b=>cond (s.2.2 != 0) (b++[wr (wr (8 * s.1)+s.2.2)]) b) (cond (s.2.1 != 0) (a++[wr (wr (8 * s.1)+s.2.1)]) a)

theorem aLo (s:den wS) (a:List Int):(aJy s a).length<=a.length+2:=by
 unfold aJy
 cases s.2.1 != 0<;>cases s.2.2 != 0<;>simp

def iC (p:den tPt):List Int:=cM (fun _ s a=>aJy s a) 0 (gO p) []

theorem aDv {α:Type} (l:List α):(l.map fun _=>2).sum=2 * l.length:=by
 induction l with
 | nil=>rfl
 | cons x l ih=>simp only [bUs,bVl,ih,bU7];omega

theorem aYt {p:den tPt} (h:tot tPt p<=1073741824):fL p=some (iC p):=by
 have hl:=aAg p
 unfold fL vP iC
 rw [aPy (bT7 h (by decide))]
 simp only [aA]
 rw [mM (fun k (a:List Int)=>((k:Int),a)) ((0:Int),[]) [] (gO p) (fun _ s a=>aJy s a) bUk (fun _=>2) 68719476736 id rfl (by omega) (by rw [aDv];simp;omega) (fun k x a=>aLo x a) (fun k x a hi hx hd hw hk hb=>by
  simp only [hd,hi,hw,zZ,aA,aE (b:=8) (n:=a.length) (m:=1) (by decide) (by omega)]
  unfold aJy
  cases x.2.1 != 0<;>cases x.2.2 != 0<;>simp [aE (b:=8) (n:=a.length) (m:=1) (by decide) (by omega),aE (b:=8) (n:=a.length+1) (m:=1) (by decide) (by omega)]) (fun a=>by simp)]
 rfl

theorem aW6 {p:den tPt} (h:tot tPt p<=1073741824):fP p=some (iC p):=by
 have hl:=aAg p
 unfold fP iC ixb
 rw [aDn (bT7 h (by decide))]
 simp only [aA]
 rw [mM (fun k (a:List Int)=>((k:Int),a)) ((0:Int),[]) [] (gO p) (fun _ s a=>aJy s a) bUk (fun _=>2) 68719476736 id rfl (by omega) (by rw [aDv];simp;omega) (fun k x a=>aLo x a) (fun k x a hi hx hd hw hk hb=>by
  simp only [hd,hx,hw,zZ,aA,fS,bUf,aE (b:=8) (n:=a.length) (m:=1) (by decide) (by omega)]
  unfold aJy
  cases x.2.1 != 0<;>cases x.2.2 != 0<;>simp [aE (b:=8) (n:=a.length) (m:=1) (by decide) (by omega),aE (b:=8) (n:=a.length+1) (m:=1) (by decide) (by omega)]) (fun a=>by simp)]
 rfl

def sD (l:List Int) (n:Int):Bool:= !(l.all fun x=> !(x==n))

theorem aTd {l:List Int} {n:Int} (h:l.length<=68719476736):qI l n=some (sD l n):=by
 unfold qI sD
 rw [cA (l:=l) (fun _ x=>if !(x==n) then none else some true) (by omega) (fun k x hi hd hw hm hk=>by
  simp only [hd,hi,hw,zZ,aA]
  cases x==n<;>rfl) (by simp),uO (fun x:Int=> !(x==n))]
 cases l.all (fun x=> !(x==n))<;>rfl

theorem aEg {l:List Int} {n:Int} (h:l.length<=68719476736):fB l n=some (sD l n):=by
 unfold fB sD
 rw [cA (l:=l) (fun _ x=>if !(x==n) then none else some true) (by omega) (fun k x hi hd hw hm hk=>by
  simp only [hd,hi,hw,zZ,aA]
  cases x==n<;>rfl) (by simp),uO (fun x:Int=> !(x==n))]
 cases l.all (fun x=> !(x==n))<;>rfl

theorem aFd (p:den tPt):(iC p).length<=2 * tot tPt p:=by
 have h:=aAc (f:=fun _ s (a:List Int)=>aJy s a) (m:=bUk) (cost:=fun _=>2) (fun k x a=>aLo x a) (gO p) 0 []
 have hl:=aAg p
 rw [aDv] at h
 unfold iC
 simp at h
 omega

def qC (p:den tPt) (x:den tRv):Bool:=fH x&&sD (iC p) (wr (wr (8 * x.1)+x.2.1))

theorem bF3 {p:den tPt} {x:den tRv} (h:tot tPt p<=1073741824):tS p x=some (qC p x):=by
 have :=aFd p
 unfold tS qC pj3
 simp only [aO,aHk,aA,aYt h,aTd (l:=iC p) (by omega)]
 cases fH x<;>rfl

theorem aQm {p:den tPt} {x:den tRv} (h:tot tPt p<=1073741824):pH p x=some (qC p x):=by
 have :=aFd p
 unfold pH qC pj3
 simp only [aO,aB2,aA,aW6 h,aEg (l:=iC p) (by omega)]
 cases fH x<;>rfl

theorem aI1 {α R:Type} (m:R→Nat) (B:Nat) {g:Nat→α→Option R}: ∀ {l:List α} {k:Nat},(∀ j x r,l[j]? =some x→g (k+j) x=some r→m r<=B)→ ∀ r,eC g k l=some r→m r<=B
 | [],_,_,r,h=>by cases h
 | x::xs,k,hg,r,h=>by
  simp only [eC] at h
  cases hx:g k x with
  | some r'=>rw [hx] at h;injection h with h;subst h;exact hg 0 x r' rfl hx
  | none=>
   rw [hx] at h
   exact aI1 m B (fun j y r hy hr=>hg (j+1) y r (by simpa using hy) (by rw [show k+(j+1)=k+1+j by omega];exact hr)) r h

theorem bE0 (l:lRv):tot (.sl tRv) l=l.length:=by
 induction l with
 | nil=>rfl
 | cons x l ih=>rw [kH,ih];simp [tot];omega

theorem bKb (l:lRv) (x:den tRv):tot (.sl tRv) (aGw l x)<=l.length+1:=by
 rw [bE0]
 unfold aGw
 cases fH x with
 | false=>simp
 | true=>
  simp only [zZ]
  cases hs:eC (yL x l) 0 l with
  | some r=>
   refine aI1 bUk (l.length+1) (g:=yL x l) (l:=l) (k:=0) (fun j y r' hy hr=> ?_) r hs
   unfold yL at hr
   cases c1:y.1==x.1 with
   | false=>rw [c1] at hr;cases hr
   | true=>
    cases c2:y.2.1==x.2.1 with
    | false=>rw [c1,c2] at hr;cases hr
    | true=>rw [c1,c2] at hr;injection hr with hr;rw [← hr];simp
  | none=>
   by_cases c:16<l.length+1
   ·simp [c]
   ·simp [c]

def aOy (f:den tFl) (x:den tRv):Bool:=inR f.2.2.2.2.2.2.1 0 ((f.2.2.2.2.2.1.length:Int) - 1)&&qC ((f.2.2.2.2.2.1[f.2.2.2.2.2.2.1.toNat]?).getD []) x

def yC (b:List Int):den tRv:=((uY b).1,(uY b).2.1,(uY b).2.2.1)

def wQ (f:den tFl) (p:den tPk):den tFl:=
 cond (p.1==3&&(uY p.2.2.2.2.2.2.2.2.2).2.2.2)
  (f.1,f.2.1,f.2.2.1,f.2.2.2.1,f.2.2.2.2.1,f.2.2.2.2.2.1,cond (aOy f (yC p.2.2.2.2.2.2.2.2.2)) (xW f) f.2.2.2.2.2.2.1,cond (aOy f (yC p.2.2.2.2.2.2.2.2.2)) 0 f.2.2.2.2.2.2.2.1,aGw f.2.2.2.2.2.2.2.2 (yC p.2.2.2.2.2.2.2.2.2)) f


def bSg (f:den tFl):q35:=(f.1,f.2.1,f.2.2.1,f.2.2.2.1,f.2.2.2.2.2.2.1,f.2.2.2.2.2.2.2.1,f.2.2.2.2.2.2.2.2,f.2.2.2.2.1,f.2.2.2.2.2.1)

theorem aWx {f:den tFl} (h:tot tFl f<=1073741824) (hr:inR f.2.2.2.2.2.2.1 0 ((f.2.2.2.2.2.1.length:Int) - 1)=true): ∃ q,f.2.2.2.2.2.1[f.2.2.2.2.2.2.1.toNat]? =some q∧idx f.2.2.2.2.2.1 f.2.2.2.2.2.2.1=some q∧tot tPt q<=1073741824:=by
 obtain ⟨h0,h1⟩:=bS.1 hr
 obtain ⟨q,hq⟩:=xM h0 h1
 have ht:=yB (t:=tPt) hq
 have hp:tot (.sl tPt) f.2.2.2.2.2.1<=1073741824:=aKh (bJ (bJ (bJ (bJ (bJ h)))))
 exact ⟨q,hq,aF8 h0 hq,by omega⟩

theorem bOj {f:den tFl} {p:den tPk} {now:Int} (h:tot tFl f<=1073741824) (hp:tot tPk p<=1073741824) (hb: ∀ x∈p.2.2.2.2.2.2.2.2.2,0<=x∧x<=255):gV f p now=some (oU (wQ f p)):=by
 have hf:SmB 68719476736 tFl f:=(bF h).mono (by decide)
 have hl:p.2.2.2.2.2.2.2.2.2.length<=68719476736:=bT7 (eU (t:=tb) _) (bT7 (bJ (bJ (bJ (bJ (bJ (bJ (bJ (bJ (bJ hp))))))))) (by decide))
 have hv:f.2.2.2.2.2.2.2.2.length<=1073741824:=bT7 (eU (t:=tRv) _) (bJ (bJ (bJ (bJ (bJ (bJ (bJ (bJ h))))))))
 have hn:f.2.2.2.2.2.1.length<=68719476736:=hf.2.2.2.2.2.1.1
 unfold gV wQ pj9 zz4 zz5 zz6 zz7 zz8 zz9
 simp only [aO,aPw hf,aA,bP4 hb hl,tY,mK hn,bMt,bPs hv,bne]
 cases c1:p.1==3
 ·simp only [bUn,zZ,aA,bVb,zY]
 ·cases c2:(uY p.2.2.2.2.2.2.2.2.2).2.2.2
  ·simp only [bUc,bUn,zZ,zY,aA,bU2]
  ·simp only [bUc,zZ,zY,aA,bU2]
   unfold aOy
   cases c3:inR f.2.2.2.2.2.2.1 0 ((f.2.2.2.2.2.1.length:Int) - 1)
   ·simp only [zY,aA,bVb];rfl
   ·obtain ⟨q,hq,hi,ht⟩:=aWx h c3
    have ha:=bF3 (p:=q) (x:=yC p.2.2.2.2.2.2.2.2.2) ht
    have ha:tS q ((uY p.2.2.2.2.2.2.2.2.2).1,(uY p.2.2.2.2.2.2.2.2.2).2.1,(uY p.2.2.2.2.2.2.2.2.2).2.2.1)=some (qC q (yC p.2.2.2.2.2.2.2.2.2)):=ha
    simp only [zZ,hi,hq,bU3,aA,ha,bU2]
    cases qC q (yC p.2.2.2.2.2.2.2.2.2)<;>rfl

theorem bOm {f:den tFl} {p:den tPk} {now:Int} (h:tot tFl f<=1073741824) (hp:tot tPk p<=1073741824) (hb: ∀ x∈p.2.2.2.2.2.2.2.2.2,0<=x∧x<=255):gZ f p now=some (bSg (wQ f p)):=by
 have hf:SmB 68719476736 tFl f:=(bF h).mono (by decide)
 have hl:p.2.2.2.2.2.2.2.2.2.length<=68719476736:=bT7 (eU (t:=tb) _) (bT7 (bJ (bJ (bJ (bJ (bJ (bJ (bJ (bJ (bJ hp))))))))) (by decide))
 have hv:f.2.2.2.2.2.2.2.2.length<=1073741824:=bT7 (eU (t:=tRv) _) (bJ (bJ (bJ (bJ (bJ (bJ (bJ (bJ h))))))))
 have hn:f.2.2.2.2.2.1.length<=68719476736:=hf.2.2.2.2.2.1.1
 unfold gZ wQ pj3 pj9 zz4 zz5 zz6 zz7 zz8 zz9
 simp only [aO,aBz hf,aA,bOt hb hl,gQ,mK hn,bPd hv,bne]
 cases c1:p.1==3
 ·simp only [bUn,zZ,aA,bVb,zY];rfl
 ·cases c2:(uY p.2.2.2.2.2.2.2.2.2).2.2.2
  ·simp only [bUc,bUn,zZ,zY,aA,bU2];rfl
  ·simp only [bUc,zZ,zY,aA,bU2]
   unfold aOy
   cases c3:inR f.2.2.2.2.2.2.1 0 ((f.2.2.2.2.2.1.length:Int) - 1)
   ·simp only [zY,aA,bVb];rfl
   ·obtain ⟨q,hq,hi,ht⟩:=aWx h c3
    have ha:=aQm (p:=q) (x:=yC p.2.2.2.2.2.2.2.2.2) ht
    have ha:pH q ((uY p.2.2.2.2.2.2.2.2.2).1,(uY p.2.2.2.2.2.2.2.2.2).2.1,(uY p.2.2.2.2.2.2.2.2.2).2.2.1)=some (qC q (yC p.2.2.2.2.2.2.2.2.2)):=ha
    simp only [zZ,hi,hq,bU3,aA,ha,bU2,bDr hf c3]
    cases qC q (yC p.2.2.2.2.2.2.2.2.2)<;>rfl

theorem bCx (f:den tFl) (p:den tPk):tot tFl (wQ f p)<=tot tFl f+1:=by
 unfold wQ
 cases (p.1==3&&(uY p.2.2.2.2.2.2.2.2.2).2.2.2)
 ·simp
 ·have h1:=bKb f.2.2.2.2.2.2.2.2 (yC p.2.2.2.2.2.2.2.2.2)
  have h2:=bE0 f.2.2.2.2.2.2.2.2
  simp only [zZ,sE,uV]
  omega

def iY (h:den bZ):Bool:=inR h.1 0 7&&(inR h.2.1 0 6&&(inR h.2.2.1 0 6&&(!(h.2.1==h.2.2.1)&&(inR h.2.2.2.1 0 1000000&&jD h.2.2.2.2))))

theorem aLl (h:den bZ):lO h=some (iY h):=by
 unfold lO iY zz4
 simp only [tY,aDj,aA,bne]
 cases inR h.1 0 7<;>cases inR h.2.1 0 6<;>cases inR h.2.2.1 0 6<;>cases h.2.1==h.2.2.1<;>cases inR h.2.2.2.1 0 1000000<;>rfl

theorem aGu (h:den bZ):jA h=some (iY h):=by
 unfold jA iY zz4
 simp only [gQ,aB0,aA,bne]
 cases inR h.1 0 7<;>cases inR h.2.1 0 6<;>cases inR h.2.2.1 0 6<;>cases h.2.1==h.2.2.1<;>cases inR h.2.2.2.1 0 1000000<;>rfl

theorem aMw (n k:Nat):decide ((n:Int)>(k:Int))= !decide (n<=k):=by rw [bU1];simp

def aDa (l:dA):Bool:=decide (l.length<=8)&&l.all iY

theorem bMw {l:dA} (h:l.length<=68719476736):kK l=some (aDa l):=by
 unfold kK aDa pj5
 rw [cA (l:=l) (fun _ x=>if iY x then none else some false) (by omega) (fun k x hi hd hw hm hk=>by
  simp only [hd,hi,hw,zZ,aA,aO,aLl]
  cases iY x<;>rfl) (by simp),uO iY]
 have e:=aMw l.length 8
 rw [show ((8:Nat):Int)=8 from rfl] at e
 rw [e]
 cases decide (l.length<=8)<;>cases l.all iY<;>rfl

def yE (p:den tPp):Bool:=inR p.1 1 4&&(inR p.2.1 0 1000000&&(jD p.2.2.1&&aDa p.2.2.2))

theorem bPn {p:den tSg} (h:p.2.2.length<=68719476736):rK p=some (inR p.1 0 1000000&&(jD p.2.1&&aDa p.2.2)):=by
 unfold rK aDa pj5
 rw [cA (l:=p.2.2) (fun _ x=>if iY x then none else some false) (by omega) (fun k x hi hd hw hm hk=>by
  simp only [hd,hi,hw,zZ,aA,aO,aGu]
  cases iY x<;>rfl) (by simp),uO iY]
 have e:=aMw p.2.2.length 8
 rw [show ((8:Nat):Int)=8 from rfl] at e
 rw [e,gQ,aB0]
 cases inR p.1 0 1000000<;>cases jD p.2.1<;>cases decide (p.2.2.length<=8)<;>cases p.2.2.all iY<;>rfl

def aEc (p:den tPt):Bool:=decide (p.length<=3)&&p.all yE

theorem bQd {p:den tPt} (h:SmB 68719476736 tPt p):kP p=some (aEc p):=by
 unfold kP aEc
 rw [cA (l:=p) (fun _ x=>if yE x then none else some false) (bT7 h.1 (by decide)) (fun k x hi hd hw hm hk=>by
  have hx:=(h.2 x hm).2.2.2.1
  simp only [hd,hi,hw,zZ,aA,aO,tY,aDj,bMw hx]
  unfold yE
  cases inR x.1 1 4<;>cases inR x.2.1 0 1000000<;>cases jD x.2.2.1<;>cases aDa x.2.2.2<;>rfl) (by simp),uO yE]
 have e:=aMw p.length 3
 rw [show ((3:Nat):Int)=3 from rfl] at e
 rw [e]
 cases decide (p.length<=3)<;>cases p.all yE<;>rfl

theorem bQj {p:den tPt} (h:SmB 68719476736 tPt p):kL p=some (aEc p):=by
 unfold kL aEc pj3
 rw [cA (l:=p) (fun _ x=>if yE x then none else some false) (bT7 h.1 (by decide)) (fun k x hi hd hw hm hk=>by
  have hx:=(h.2 x hm).2.2.2.1
  have hs:=bPn (p:=(x.2.1,x.2.2.1,x.2.2.2)) hx
  simp only [hd,hi,hw,zZ,aA,aO,gQ]
  simp only [aO] at hs
  simp only [hs,aA]
  unfold yE
  cases inR x.1 1 4<;>cases inR x.2.1 0 1000000<;>cases jD x.2.2.1<;>cases aDa x.2.2.2<;>rfl) (by simp),uO yE]
 have e:=aMw p.length 3
 rw [show ((3:Nat):Int)=3 from rfl] at e
 rw [e]
 cases decide (p.length<=3)<;>cases p.all yE<;>rfl

def aGl (x:den tPp):Bool:= !((x.2.2.2.length:Int)==0)

def gM (p:den tPk):Bool:=inR p.1 1 3&&(aEc p.2.2.2.1&&(cB p&&(jD p.2.2.2.2.2.2.1&&(p.2.2.2.1.all aGl&&(inR p.2.1 0 7&&(inR p.2.2.1 0 7&&(inR p.2.2.2.2.2.2.2.1 0 100000&&(inR p.2.2.2.2.2.2.2.2.1 0 100000&&decide ((p.2.2.2.2.2.2.2.2.2.length:Int)<=40)))))))))

theorem bO2 {p:den tPk} (h:aEc p.2.2.2.1=true):decide (cK p<0)= !cB p:=by
 cases c:cB p with
 | false=>rw [xI c];rfl
 | true=>
  obtain ⟨i,j,x,y,h1,h2,h3,h4,h5⟩:=aAr c
  rw [h5]
  unfold aEc at h
  have ha:=(bT8 _ _▸h:_∧_).2
  have hx:=bUx.1 ha x (bUi h3)
  unfold yE aDa at hx
  simp only [bT8] at hx
  have hy:=bUx.1 hx.2.2.2.2 y (bUi h4)
  unfold iY at hy
  simp only [bT8,bS] at hy
  have :=hy.1.1
  simp;omega

theorem bJo {p:den tPk} (h:SmB 68719476736 tPk p):nI p=some (gM p):=by
 unfold nI gM aI zz6 zz7 zz8 zz9
 rw [cA (l:=p.2.2.2.1) (fun _ x=>if aGl x then none else some false) (bT7 h.2.2.2.1.1 (by decide)) (fun k x hi hd hw hm hk=>by
  simp only [hd,hi,hw,zZ,aA]
  unfold aGl
  cases (x.2.2.2.length:Int)==0<;>rfl) (by simp),uO aGl]
 simp only [tY,aO,aDr h,bQd h.2.2.2.1,aDj,aA]
 cases inR p.1 1 3
 ·rfl
 ·cases he:aEc p.2.2.2.1
  ·rfl
  ·rw [bO2 he]
   cases hz:(p.2.2.2.1.length:Int)==0
   ·cases cB p<;>simp only [bUc,bUn,zZ,zY,aA,bVb,bU2]
    cases jD p.2.2.2.2.2.2.1<;>simp only [bUc,bUn,zZ,zY,aA,bVb,bU2]
    cases p.2.2.2.1.all aGl<;>cases inR p.2.1 0 7<;>cases inR p.2.2.1 0 7<;>cases inR p.2.2.2.2.2.2.2.1 0 100000<;>cases inR p.2.2.2.2.2.2.2.2.1 0 100000<;>rfl
   ·have hh:cB p=false:=by
     have hl:(p.2.2.2.1.length:Int)=0:=by simpa using hz
     unfold cB
     have :inR p.2.2.2.2.1 0 ((p.2.2.2.1.length:Int) - 1)=false:=by rw [aYn];omega
     rw [this];rfl
    rw [hh]
    rfl

theorem aUc {p:den tPk} (h:SmB 68719476736 tPk p):iJ p=some (gM p):=by
 have l1:=h.2.2.2.1.1
 unfold iJ gM zz4 zz5 zz6 zz7 zz8 zz9
 rw [cA (l:=p.2.2.2.1) (fun _ x=>if aGl x then none else some false) (bT7 h.2.2.2.1.1 (by decide)) (fun k x hi hd hw hm hk=>by
  simp only [hd,hi,hw,zZ,aA]
  unfold aGl
  cases (x.2.2.2.length:Int)==0<;>rfl) (by simp),uO aGl]
 simp only [gQ,mK l1,bQj h.2.2.2.1,aB0,aA]
 unfold cB
 cases inR p.1 1 3
 ·rfl
 ·cases he:aEc p.2.2.2.1
  ·rfl
  ·cases c1:inR p.2.2.2.2.1 0 ((p.2.2.2.1.length:Int) - 1)
   ·rfl
   ·rw [bS] at c1
    obtain ⟨x,hx⟩:=xM c1.1 c1.2
    have l2:=(h.2.2.2.1.2 _ (bUi hx)).2.2.2.1
    rw [aF8 c1.1 hx,hx]
    simp only [bUc,zY,aA,bU3,mK l2,bU2]
    cases jD p.2.2.2.2.2.2.1<;>cases inR p.2.2.2.2.2.1 0 ((x.2.2.2.length:Int) - 1)<;>cases p.2.2.2.1.all aGl<;>cases inR p.2.1 0 7<;>cases inR p.2.2.1 0 7<;>cases inR p.2.2.2.2.2.2.2.1 0 100000<;>cases inR p.2.2.2.2.2.2.2.2.1 0 100000<;>rfl

def yI (a b:Int) (f:den tFl):Bool:=(f.1==a&&f.2.1==b)||(f.1==b&&f.2.1==a)

def sM (e:den jL):den tPk:=e.2.2.2.2.2

noncomputable def harm (w:den tNw) (e:den jL):Bool:=
 cond (!(e.1==7)||(!gM (sM e)||(sM e).1==3)) true (cond (w.2.2.2.2.2.1.all fun x=> !zE x.2.2 (sM e)) (w.2.2.2.2.2.2.1.all fun f=> !yI (sM e).2.1 (sM e).2.2.1 f) true)

theorem bDs {w:den tNw} {a b:Int} (hw:SmB 68719476736 tNw w):mJ w a b=some (!(w.2.2.2.2.2.2.1.all fun f=> !yI a b f)):=by
 unfold mJ zz6
 rw [cA (l:=w.2.2.2.2.2.2.1) (fun _ f=>if !yI a b f then none else some true) (bT7 hw.2.2.2.2.2.2.1.1 (by decide)) (fun k x hi hd hw hm hk=>by
  simp only [hd,hi,hw,zZ,aA]
  unfold yI
  cases x.1==a<;>cases x.2.1==b<;>cases x.1==b<;>cases x.2.1==a<;>rfl) (by simp),uO (fun f:den tFl=> !yI a b f)]
 cases w.2.2.2.2.2.2.1.all (fun f=> !yI a b f)<;>rfl

theorem bRa {w:den tNw} {e:den jL} (hw:SmB 68719476736 tNw w) (he:SmB 68719476736 jL e):oD w e=some (harm w e):=by
 have hp:SmB 68719476736 tPk (sM e):=he.2.2.2.2.2
 unfold oD harm aI fZ zz5 zz6 zz7
 rw [cA (l:=w.2.2.2.2.2.1) (fun _ x=>if !zE x.2.2 (sM e) then none else some true) (bT7 hw.2.2.2.2.2.1.1 (by decide)) (fun k x hi hd hw2 hm hk=>by
  have hs:jY x.2.2 e.2.2.2.2.2=some (zE x.2.2 (sM e)):=bOf (hw.2.2.2.2.2.1.2 x hm).2.2 hp
  simp only [hd,hi,hw2,zZ,aA,aO,hs]
  cases zE x.2.2 (sM e)<;>rfl) (by simp),uO (fun x:den tFy=> !zE x.2.2 (sM e))]
 have hv:iJ e.2.2.2.2.2=some (gM (sM e)):=aUc hp
 have hf:mJ w e.2.2.2.2.2.2.1 e.2.2.2.2.2.2.2.1=some (!(w.2.2.2.2.2.2.1.all fun f=> !yI (sM e).2.1 (sM e).2.2.1 f)):=bDs hw
 simp only [aO,hv,hf,aA,bne]
 show @Option.bind Bool Bool (cond (!(e.1==7)) (some true) (cond (!gM (sM e)) (some true) (cond ((sM e).1==3) (some true) _))) _=_
 cases e.1==7
 ·rfl
 ·cases gM (sM e)
  ·rfl
  ·cases (sM e).1==3
   ·cases w.2.2.2.2.2.1.all (fun x=> !zE x.2.2 (sM e))<;>cases w.2.2.2.2.2.2.1.all (fun f=> !yI (sM e).2.1 (sM e).2.2.1 f)<;>rfl
   ·rfl

abbrev aD9 (l:lRs) (now:Int):lRs:=l.filter fun x=>decide (now<=x.2.2.2.2)

theorem bJk {l:lRs} {now:Int} (h:l.length<=1073741824):fF l now=some (aD9 l now):=by
 unfold fF pj5 zz4
 rw [(aRg (l:=l) (out:=fun a=>a) (fun (a:lRs) x=>if decide (now<=x.2.2.2.2) then a++[x] else a) (fun k a=>a.length<=k) (by omega) (by simp) (fun k x a hi hd hw hx hk hI=>by
  simp only [hd,hi,hw,zZ,aA]
  by_cases hp:now<=x.2.2.2.2
  ·simp [hp,aE (b:=40) (n:=a.length) (m:=1) (by decide) (by omega)];omega
  ·simp [hp];omega) (fun a=>by simp)).1]
 simp only [aEh,bUz,aA]

def atR (x:den tRs) (s d:Int):Bool:=x.2.1==s&&x.2.2.1==d

theorem bPh (x:den tRs) (s d:Int):fM x s d=some (atR x s d):=by
 unfold fM atR
 cases x.2.1==s<;>simp

theorem bP0 (x:den tRs) (s d now:Int):wH x s d now=some (atR x s d&&decide (now<=x.2.2.2.2)):=by
 unfold wH atR zz4
 cases x.2.1==s<;>cases x.2.2.1==d<;>simp

def rate (l:lRs) (s d now:Int):Int:=l.foldl (fun a x=>if atR x s d&&decide (now<=x.2.2.2.2) then wr (a+x.2.2.2.1) else a) 0

theorem bQu {l:lRs} {s d now:Int} (h:l.length<=1073741824):lV l s d now=some (rate l s d now):=by
 unfold lV pj5 zz4
 rw [(aM9 (l:=l) (out:=fun a=>a) (fun (a:Int) x=>if atR x s d&&decide (now<=x.2.2.2.2) then wr (a+x.2.2.2.1) else a) (fun _ _=>True) (by omega) trivial (fun k x a hi hd hw hx hk hI=>by
  refine ⟨?_,trivial⟩
  simp only [hd,hi,hw,zZ,aA]
  rw [show ((x.1,x.2.1,x.2.2.1,x.2.2.2.1,x.2.2.2.2):den tRs)=x from rfl,bPh]
  cases atR x s d<;>cases decide (now<=x.2.2.2.2)<;>rfl) (fun a=>by simp)).1]
 rfl

theorem bEm {l:lRs} {s d now:Int} (h:l.length<=1073741824):iL l s d now=some (rate l s d now):=by
 unfold iL pj5
 rw [(aM9 (l:=l) (out:=fun a=>a) (fun (a:Int) x=>if atR x s d&&decide (now<=x.2.2.2.2) then wr (a+x.2.2.2.1) else a) (fun _ _=>True) (by omega) trivial (fun k x a hi hd hw hx hk hI=>by
  refine ⟨?_,trivial⟩
  simp only [hd,hi,hw,zZ,aA]
  rw [show ((x.1,x.2.1,x.2.2.1,x.2.2.2.1,x.2.2.2.2):den tRs)=x from rfl,bP0]
  cases atR x s d<;>cases decide (now<=x.2.2.2.2)<;>rfl) (fun a=>by simp)).1]
 rfl

def free (l:lRs) (cap s d now:Int):Int:=if wr (cap - rate l s d now)>0 then wr (cap - rate l s d now) else 0

theorem bP7 {l:lRs} {cap s d now:Int} (h:l.length<=1073741824):sP l cap s d now=some (free l cap s d now):=by
 unfold sP
 simp only [bQu h,aA,bL8];rfl

theorem bRw {l:lRs} {cap s d now:Int} (h:l.length<=1073741824):tL l cap s d now=some (free l cap s d now):=by
 unfold tL
 simp only [bEm h,aA,bB0];rfl

def xZ (l:lRs) (id s d now:Int):Int:=
 match eC (fun _ (x:den tRs)=>if x.1==id&&(atR x s d&&decide (now<=x.2.2.2.2)) then some x.2.2.2.1 else none) 0 l with
 | some r=>r
 | none=>0

theorem bDz {l:lRs} {id s d now:Int} (h:l.length<=1073741824):iR l id s d now=some (xZ l id s d now):=by
 unfold iR pj5 zz4
 rw [cA (l:=l) (fun _ (x:den tRs)=>if x.1==id&&(atR x s d&&decide (now<=x.2.2.2.2)) then some x.2.2.2.1 else none) (by omega) (fun k x hi hd hw hx hk=>by
  simp only [hd,hi,hw,zZ,aA]
  rw [show ((x.1,x.2.1,x.2.2.1,x.2.2.2.1,x.2.2.2.2):den tRs)=x from rfl,bPh]
  cases x.1==id<;>cases atR x s d<;>cases decide (now<=x.2.2.2.2)<;>rfl) (by simp)]
 unfold xZ
 cases eC (fun _ (x:den tRs)=>if x.1==id&&(atR x s d&&decide (now<=x.2.2.2.2)) then some x.2.2.2.1 else none) 0 l<;>rfl

theorem bEz {l:lRs} {id s d now:Int} (h:l.length<=1073741824):iM l id s d now=some (xZ l id s d now):=by
 unfold iM pj5
 rw [cA (l:=l) (fun _ (x:den tRs)=>if x.1==id&&(atR x s d&&decide (now<=x.2.2.2.2)) then some x.2.2.2.1 else none) (by omega) (fun k x hi hd hw hx hk=>by
  simp only [hd,hi,hw,zZ,aA]
  rw [show ((x.1,x.2.1,x.2.2.1,x.2.2.2.1,x.2.2.2.2):den tRs)=x from rfl,bP0]
  cases x.1==id<;>cases atR x s d<;>cases decide (now<=x.2.2.2.2)<;>rfl) (by simp)]
 unfold xZ
 cases eC (fun _ (x:den tRs)=>if x.1==id&&(atR x s d&&decide (now<=x.2.2.2.2)) then some x.2.2.2.1 else none) 0 l<;>rfl

def aCj (x:den tRs):Bool:=inR x.1 1 100000&&(inR x.2.2.2.1 1 20&&fH (x.2.1,x.2.2.1,x.2.2.2.2))

theorem bHo (x:den tRs):hH x=some (aCj x):=by
 unfold hH aCj zz4
 simp only [gQ,aB2,aA]
 cases inR x.1 1 100000<;>cases inR x.2.2.2.1 1 20<;>cases fH (x.2.1,x.2.2.1,x.2.2.2.2)<;>rfl

def sY (x y:den tRs):Bool:=y.1==x.1&&atR y x.2.1 x.2.2.1

theorem bGp {l:lRs} {x:den tRs} (h:l.length<=1073741824):pG l x=some (l.filter fun y=> !sY x y):=by
 unfold pG pj5
 rw [(aRg (l:=l) (out:=fun a=>a) (fun (a:lRs) y=>if !sY x y then a++[y] else a) (fun k a=>a.length<=k) (by omega) (by simp) (fun k y a hi hd hw hx hk hI=>by
  simp only [hd,hi,hw,zZ,aA]
  have hap:=aE (b:=40) (n:=a.length) (m:=1) (by decide) (by omega)
  unfold sY atR
  simp only [bne]
  cases h1:y.1==x.1<;>cases h2:y.2.1==x.2.1<;>cases h3:y.2.2.1==x.2.2.1<;>simp [hap]<;>omega) (fun a=>by simp)).1]
 simp only [aEh,bUz,aA]

def iV (id s d:Int) (x:den tUs):Bool:=x.1==id&&(x.2.1==s&&x.2.2.1==d)

def place (l:lUs) (id s d:Int):Int:=
 match eC (fun k x=>if iV id s d x then some (k:Int) else none) 0 l with
 | some i=>i
 | none=> -1

theorem aId (l:lUs) (id s d:Int):place l id s d= -1∨ ∃ (j:Nat) (x:den tUs),place l id s d=(j:Int)∧l[j]? =some x∧j<l.length:=by
 unfold place
 cases h:eC (fun k x=>if iV id s d x then some (k:Int) else none) 0 l with
 | none=>exact .inl rfl
 | some i=>
  obtain ⟨j,x,h1,h2,h3⟩:=aLm h
  exact .inr ⟨j,x,by simpa using h2,h1,(bUg.1 h1).1⟩

theorem aW5 {g:den tSc} {id s d:Int} (h:g.2.2.length<=1073741824):rC g id s d=some (place g.2.2 id s d):=by
 unfold rC
 rw [cA (l:=g.2.2) (fun k x=>if iV id s d x then some (k:Int) else none) (by omega) (fun k x hi hd hw hx hk=>by
  simp only [hd,hi,hw,zZ,aA]
  unfold iV
  cases x.1==id<;>cases x.2.1==s<;>cases x.2.2.1==d<;>rfl) (by simp)]
 unfold place
 cases eC (fun k x=>if iV id s d x then some (k:Int) else none) 0 g.2.2<;>rfl

theorem aXk {l:lUs} {id s d:Int} (h:l.length<=1073741824):oR l id s d=some (place l id s d):=by
 unfold oR
 rw [cA (l:=l) (fun k x=>if iV id s d x then some (k:Int) else none) (by omega) (fun k x hi hd hw hx hk=>by
  simp only [hd,hi,hw,zZ,aA]
  unfold iV
  cases x.1==id<;>cases x.2.1==s<;>cases x.2.2.1==d<;>rfl) (by simp)]
 unfold place
 cases eC (fun k x=>if iV id s d x then some (k:Int) else none) 0 l<;>rfl

def pX (g:den tSc) (id s d now:Int):Int:=if id==0 then free g.2.1 g.1 s d now else xZ g.2.1 id s d now

theorem bN5 {g:den tSc} {id s d now:Int} (h:g.2.1.length<=1073741824):xD g id s d now=some (pX g id s d now):=by
 unfold xD pX
 rw [bP7 h,bDz h]
 cases id==0<;>rfl

theorem nB {n:Nat} (h:n<=68719476736):wr ((n:Int) - 1)=(n:Int) - 1:=wri (by omega) (by omega)

def eB (t:den tTo) (r:Int):Bool:=inR r 0 ((t.1.length:Int) - 1)

theorem bEe {t:den tTo} {r:Int} (h:t.1.length<=68719476736):yU t r=some (eB t r):=by
 unfold yU eB
 rw [nB h,tY];rfl

theorem aCl {t:den tTo} {r:Int} (h:t.1.length<=68719476736):dQ t r=some (eB t r):=by
 unfold dQ eB
 rw [nB h,gQ];rfl

theorem bSj (n:Int):tU n=some (inR n 1 2147483646):=by unfold tU;rw [gQ];rfl

def dV (l:den tLk) (r d:Int):Bool:=(l.1==r&&l.2.1==d)||(l.2.2.1==r&&l.2.2.2.1==d)

theorem bOg (l:den tLk) (r d:Int):kR l r d=some (dV l r d):=by
 unfold kR dV
 cases l.1==r<;>cases l.2.1==d<;>cases l.2.2.1==r<;>cases l.2.2.2.1==d<;>rfl

theorem aYk (l:den tLk) (r d:Int):sH l r d=some (dV l r d):=by
 unfold sH dV
 cases l.1==r<;>cases l.2.1==d<;>cases l.2.2.1==r<;>cases l.2.2.2.1==d<;>rfl

def aXd (k:Int) (x y:den tAS):Bool:=cond (k==1) (x.2.1&&y.2.1) (cond (k==2) (x.1==y.1&& !y.2.1) (cond (k==3) (!x.2.1&& !y.2.1) false))

def aAx (t:den tTo) (l:den tLk):Bool:=
 eB t l.1&&(eB t l.2.2.1&&(!decide (l.1>=l.2.2.1)&&(inR l.2.1 1 6&&(inR l.2.2.2.1 1 6&&aXd l.2.2.2.2 ((t.1[l.1.toNat]?).getD (0,false,0)) ((t.1[l.2.2.1.toNat]?).getD (0,false,0))))))

theorem aG5 {t:den tTo} {r:Int} (h:eB t r=true): ∃ x,t.1[r.toNat]? =some x∧idx t.1 r=some x:=by
 obtain ⟨h0,h1⟩:=bS.1 h
 obtain ⟨x,hx⟩:=xM h0 h1
 exact ⟨x,hx,aF8 h0 hx⟩

theorem aXi {t:den tTo} {l:den tLk} (h:t.1.length<=68719476736):oI t l=some (aAx t l):=by
 unfold oI aAx pj2 zz4
 simp only [aO,aCl h,gQ,aA]
 cases c1:eB t l.1
 ·rfl
 ·cases c2:eB t l.2.2.1
  ·rfl
  ·obtain ⟨x,hx,ix⟩:=aG5 c1
   obtain ⟨y,hy,iy⟩:=aG5 c2
   rw [ix,iy,hx,hy]
   simp only [aA,bU3,bUc,zY,bU2]
   unfold aXd
   cases decide (l.1>=l.2.2.1)
   ·cases inR l.2.1 1 6
    ·rfl
    ·cases inR l.2.2.2.1 1 6
     ·rfl
     ·cases l.2.2.2.2==1
      ·cases l.2.2.2.2==2
       ·cases l.2.2.2.2==3
        ·rfl
        ·cases x.2.1<;>rfl
       ·cases x.1==y.1<;>rfl
      ·cases x.2.1<;>rfl
   ·rfl

def asP (t:den tTo) (k:Nat) (x:den tAS):Bool:=inR x.1 0 2&&(inR x.2.2 1 2147483646&&(t.1.take k).all fun y=> !(x.2.2==y.2.2))

def lkP (t:den tTo) (k:Nat) (x:den tLk):Bool:=aAx t x&&(t.2.take k).all fun y=> !(dV y x.1 x.2.1||dV y x.2.2.1 x.2.2.2.1)

def aL8 (t:den tTo):Bool:=inR (t.1.length:Int) 1 8&&((t.1.zipIdx 0).all (fun z=>asP t z.2 z.1)&&(t.2.zipIdx 0).all fun z=>lkP t z.2 z.1)

theorem aCp {k n:Nat} (h:k<n):cZ (0:Int) (k:Int) (n:Int)=true:=by
 have :=aBu (a:=0) (b:=k) (n:=n)
 rw [show ((0:Nat):Int)=0 from rfl] at this
 rw [this];simp;omega

theorem aTb {α:Type} {l:List α} {k j:Nat} {x:α} (h:idx (l.take k) (j:Int)=some x):idx l (j:Int)=some x:=by
 rw [aF] at h ⊢
 exact (aVt h).1

theorem zO {α:Type} {l:List α} {k:Nat} (h:k<l.length):(l.take k).length=k:=by simp;omega

theorem bJu (a b:Int):(a==b)=(b==a):=by rw [bU1];simp;exact eq_comm

theorem bQf {t:den tTo} (h:SmB 68719476736 tTo t):kN t=some (aL8 t):=by
 have l1:=h.1.1
 have l2:=h.2.1
 unfold kN aL8 pj2 pj5
 rw [cA (l:=t.1) (fun k x=>if asP t k x then none else some false) (bT7 l1 (by decide)) (fun k x hi hd hw hm hk=>by
  simp only [hd,hi,zZ,aA,gQ,bSj,hw]
  rw [cA (l:=t.1.take k) (fun _ y=>if !(x.2.2==y.2.2) then none else some (bT4 (bT4 false))) (by rw [zO hk];omega) (fun j y hi2 hd hw hm hk2=>by
   rw [zO hk] at hd
   simp only [hd,aTb hi2,hi,hw,zZ,aA,bJu y.2.2 x.2.2]
   cases x.2.2==y.2.2<;>rfl) (by rw [zO hk];simp),uO (fun y:den tAS=> !(x.2.2==y.2.2))]
  unfold asP
  cases inR x.1 0 2<;>cases inR x.2.2 1 2147483646<;>cases (t.1.take k).all (fun y=> !(x.2.2==y.2.2))<;>rfl) (by simp),aJ9 (asP t)]
 rw [cA (l:=t.2) (fun k x=>if lkP t k x then none else some false) (bT7 l2 (by decide)) (fun k x hi hd hw hm hk=>by
  simp only [hd,hi,zZ,aA,aO,aXi l1,hw]
  rw [cA (l:=t.2.take k) (fun _ y=>if !(dV y x.1 x.2.1||dV y x.2.2.1 x.2.2.2.1) then none else some (bT4 (bT4 false))) (by rw [zO hk];omega) (fun j y hi2 hd hw hm hk2=>by
   rw [zO hk] at hd
   simp only [hd,aTb hi2,hi,hw,zZ,aA,aO,aYk]
   cases dV y x.1 x.2.1<;>cases dV y x.2.2.1 x.2.2.2.1<;>rfl) (by rw [zO hk];simp),uO (fun y:den tLk=> !(dV y x.1 x.2.1||dV y x.2.2.1 x.2.2.2.1))]
  unfold lkP
  cases aAx t x<;>cases (t.2.take k).all (fun y=> !(dV y x.1 x.2.1||dV y x.2.2.1 x.2.2.2.1))<;>rfl) (by simp),aJ9 (lkP t)]
 rw [gQ,aA]
 cases inR (t.1.length:Int) 1 8<;>cases (t.1.zipIdx 0).all (fun z=>asP t z.2 z.1)<;>cases (t.2.zipIdx 0).all (fun z=>lkP t z.2 z.1)<;>rfl

theorem bOl {t:den tTo} (h:SmB 68719476736 tTo t):lW t=some t:=by
 unfold lW pj2
 simp only [aE (b:=24) (n:=([]:lAS).length) (m:=t.1.length) (by decide) (by simpa using h.1.1),aE (b:=40) (n:=([]:lLk).length) (m:=t.2.length) (by decide) (by simpa using h.2.1),zZ,aP,bD,aW,aV,aX,aA,bUz,aO]

theorem aXr {t:den tTo} (h:SmB 68719476736 tTo t):pE t=some t:=by
 unfold pE pj2
 simp only [aE (b:=24) (n:=([]:lAS).length) (m:=t.1.length) (by decide) (by simpa using h.1.1),aE (b:=40) (n:=([]:lLk).length) (m:=t.2.length) (by decide) (by simpa using h.2.1),zZ,aP,bD,aW,aV,aX,aA,bUz,aO]

theorem bNk {x:den tSg} (h:x.2.2.length<=68719476736):nJ x=some x:=by
 unfold nJ
 rw [aWz h]
 rfl

theorem aDq {x:den tSg} (h:x.2.2.length<=68719476736):fN x=some x:=by
 unfold fN
 rw [aE (b:=40) (n:=([]:dA).length) (by decide) (by simpa using h)]
 rfl

theorem aVl {l:lSg} (h:SmB 68719476736 (.sl tSg) l):kF l=some l:=by
 unfold kF pj3
 rw [(sK (fun k (a:lSg)=>((k:Int),a)) ((0:Int),[]) [] l (fun _ x a=>a++[x]) bUk (fun _=>1) 68719476736 id rfl (bT7 h.1 (by decide)) (by rw [eS];simpa using h.1) (fun k x a hi hx hd hw hk hb=>by
  have e:=h.2 x (bUi hx)
  simp only [hd,hi,hw,zZ,aA,aO,bNk e.2.2.1,aE (b:=40) (by decide) hb]
  simp) (fun a=>by simp)).1,iS (fun x=>x)]
 simp

theorem aBg {l:lSg} (h:SmB 68719476736 (.sl tSg) l):eZ l=some l:=by
 unfold eZ pj3
 rw [(sK (fun k (a:lSg)=>((k:Int),a)) ((0:Int),[]) [] l (fun _ x a=>a++[x]) bUk (fun _=>1) 68719476736 id rfl (bT7 h.1 (by decide)) (by rw [eS];simpa using h.1) (fun k x a hi hx hd hw hk hb=>by
  have e:=h.2 x (bUi hx)
  simp only [hd,hi,hw,zZ,aA,aO,aDq e.2.2.1,aE (b:=40) (by decide) hb]
  simp) (fun a=>by simp)).1,iS (fun x=>x)]
 simp

theorem bQl (c:Int):fC c=some (cond (inR c 1 20) c 1,[],[]):=by
 unfold fC
 rw [gQ]
 cases inR c 1 20<;>rfl

def aSk (t:den tTo) (now:Int):Bool:=aL8 t&&inR now 0 1000000

theorem bQ5 {t:den tTo} {k:den tDb} {c now:Int} (ht:SmB 68719476736 tTo t) (hk:SmB 68719476736 tDb k):oV t k c now=some (cond (aSk t now) (cond (inR c 1 20) c 1,now,0,t.1,t.2,k.1,k.2,[],[],[],[],[],[]) (0,0,0,[],[],[],[],[],[],[],[],[],[])):=by
 unfold oV aSk pj2
 simp only [aO,bQf ht,gQ,aXr ht,aBg hk.1,aBg hk.2,bQl,aA]
 cases aL8 t<;>cases inR now 0 1000000<;>rfl

def uX (a b:Int) (x:den tIb):Bool:=x.1==a&&x.2.1==b

theorem aJv {α:Type} (p:α→Bool): ∀ (l:List α) (k:Nat),eC (fun k x=>if p x then some (k:Int) else none) k l=(l.findIdx? p).map (fun i=>((k+i:Nat):Int))
 | [],_=>rfl
 | x::xs,k=>by
  simp only [eC,List.findIdx?_cons]
  cases h:p x with
  | true=>simp
  | false=>
   simp only [bUh,zU]
   rw [aJv p xs (k+1)]
   cases xs.findIdx? p with
   | none=>rfl
   | some i=>simp<;>omega

def lK (l:lIb) (a b:Int):Int:=((l.findIdx? (uX a b)).map (fun i=>((0+i:Nat):Int))).getD (-1)

theorem aXu {l:lIb} {a b:Int} (h:l.length<=68719476736):kX l a b=some (lK l a b):=by
 unfold kX lK
 rw [cA (l:=l) (fun k x=>if uX a b x then some (k:Int) else none) (by omega) (fun k x hi hd hw hm hk=>by
  simp only [hd,hi,hw,zZ,aA]
  unfold uX
  cases x.1==a<;>cases x.2.1==b<;>rfl) (by simp),aJv (uX a b)]
 cases l.findIdx? (uX a b)<;>rfl

def aBy (f g:den tFl):Bool:=g.1==f.1&&g.2.1==f.2.1

theorem aDl {α:Type} (p:Nat→α→Bool) (l:List α):(l.zipIdx 0).all (fun z=>p z.2 z.1)=true↔ ∀ k x,l[k]? =some x→p k x=true:=by
 rw [bUx]
 constructor
 ·intro h k x hx
  exact h (x,k) (bXf.2 (by simpa using hx))
 ·rintro h ⟨x,k⟩ hz
  exact h k x (by simpa using bXf.1 hz)

def bCo (l:List Int) (m:Nat) (k:Nat) (n:Int):Bool:=inR n 0 ((m:Int) - 1)&&(decide (k=0)|| !decide ((l[k - 1]?).getD 0>=n))

def bIk (n:Int):Int:=bUy (wr ((bUy n 2147483647)+2147483647)) 2147483647

theorem bQx (n:Int):aE8 n 2147483647=some (bIk n):=by unfold aE8;rw [tY];rfl

theorem bO5 (n:Int):aE7 n 2147483647=some (bIk n):=by unfold aE7;rw [gQ];rfl

def bI5 (a x:Int):Int:=bUy (wr ((wr ((wr (a * (1000003:Int)))+bIk x))+(11:Int))) (2147483647:Int)

def aCm (l:List Int):Int:=cM (fun _ x a=>bI5 a x) 0 l 7

theorem bG5 {l:List Int} (h:l.length<=68719476736):xC l=some (aCm l):=by
 unfold xC aCm
 rw [mM (fun k (a:Int)=>(a,(k:Int))) ((7:Int),(0:Int)) 7 l (fun _ x a=>bI5 a x) (fun _=>0) (fun _=>0) 1 id rfl (by omega) (by rw [sum_nil];omega) (fun k x a=>by omega) (fun k x a hi hx hd hw hk hb=>by
  simp only [hd,hi,hw,zZ,aA,bQx]
  rfl) (fun a=>by simp)]
 rfl

theorem aU6 {l:List Int} (h:l.length<=68719476736):uJ l=some (aCm l):=by
 unfold uJ aCm
 rw [mM (fun k (a:Int)=>(a,(k:Int))) ((7:Int),(0:Int)) 7 l (fun _ x a=>bI5 a x) (fun _=>0) (fun _=>0) 1 id rfl (by omega) (by rw [sum_nil];omega) (fun k x a=>by omega) (fun k x a hi hx hd hw hk hb=>by
  simp only [hd,hi,hw,zZ,aA,bO5]
  rfl) (fun a=>by simp)]
 rfl

def aVq (h:den bZ) (a:List Int):List Int:=a++[h.1,h.2.1,h.2.2.1]

def aKd (x:den tPp) (a:List Int):List Int:=cM (fun _ h a=>aVq h a) 0 x.2.2.2 (a++[x.1,x.2.1,x.2.2.1])

def aIb (p:den tPt):List Int:=cM (fun _ x a=>aKd x a) 0 p []

theorem bLf {α:Type} (c:Nat) (l:List α):(l.map fun _=>c).sum=c * l.length:=by
 induction l with
 | nil=>rfl
 | cons x l ih=>simp only [bUs,bVl,ih,bU7,Nat.mul_succ];omega

theorem aQq (x:den tPp) (a:List Int):(aKd x a).length<=a.length+(3+3 * x.2.2.2.length):=by
 have h:=aAc (f:=fun _ h (a:List Int)=>aVq h a) (m:=bUk) (cost:=fun _=>3) (fun k x a=>by simp [aVq]) x.2.2.2 0 (a++[x.1,x.2.1,x.2.2.1])
 rw [bLf] at h
 unfold aKd
 simp at h
 omega

theorem aI4: ∀ p:den tPt,(p.map fun x:den tPp=>3+3 * x.2.2.2.length).sum<=3 * tot tPt p
 | []=>by simp
 | x::p=>by
  have h1:=kH (t:=tPp) x p
  have h2:x.2.2.2.length<=tot tPp x:=bT7 (eU (t:=bZ) x.2.2.2) (by simp only [sE,uV];omega)
  have h3:=aI4 p
  simp only [bUs,bVl]
  show _<=3 * tot (.sl tPp) (x::p)
  rw [h1]
  have h3:(p.map fun x:den tPp=>3+3 * x.2.2.2.length).sum<=3 * tot (.sl tPp) p:=h3
  omega

theorem bF2 (p:den tPt):(aIb p).length<=3 * tot tPt p:=by
 have h:=aAc (f:=fun _ x (a:List Int)=>aKd x a) (m:=bUk) (cost:=fun x:den tPp=>3+3 * x.2.2.2.length) (fun k x a=>aQq x a) p 0 []
 have h2:=aI4 p
 unfold aIb
 simp only [bWe,Nat.zero_add] at h
 omega

theorem aRe {p:den tPt} (h:tot tPt p<=1073741824):mN p=some (aCm (aIb p)):=by
 have hl:=eU (t:=tPp) p
 have hl:p.length<=1073741824:=bT7 hl h
 have hs:=aI4 p
 have hd':=bF2 p
 unfold mN
 rw [mM (fun k (a:List Int)=>((k:Int),a)) ((0:Int),[]) [] p (fun _ x a=>aKd x a) bUk (fun x:den tPp=>3+3 * x.2.2.2.length) 68719476736 id rfl (by omega) (by simp only [bWe];omega) (fun k x a=>aQq x a) (fun k x a hi hx hd hw hk hb=>by
  simp only [hd,hi,hw,zZ,aA,aE (b:=8) (n:=a.length) (m:=3) (by decide) (by omega)]
  rw [mM (fun k (a:List Int)=>((k:Int),a)) ((0:Int),a++[x.1,x.2.1,x.2.2.1]) (a++[x.1,x.2.1,x.2.2.1]) x.2.2.2 (fun _ h a=>aVq h a) bUk (fun _=>3) 68719476736 id rfl (by omega) (by rw [bLf];simp;omega) (fun k h a=>by simp [aVq]) (fun k h a hi hx hd hw hk hb=>by
   simp only [hd,hi,hw,zZ,aA,aE (b:=8) (n:=a.length) (m:=3) (by decide) (by omega)]
   rfl) (fun a=>by simp)]
  rfl) (fun a=>by simp)]
 simp only [aA]
 rw [show cM (fun _ x a=>aKd x a) 0 p []=aIb p from rfl]
 simp only [id,aU6 (l:=aIb p) (by omega),aA]

def aF3 (a:Int×Bool) (h:den bZ):Int×Bool:=cond (!a.2||decide (h.2.2.2.1<a.1)) (h.2.2.2.1,true) a

def aFe (l:dA):Int:=(l.foldl aF3 (0,false)).1

def aIw (p:den tPt):dA:=cM (fun _ x a=>a++x.2.2.2) 0 p []

theorem aTe: ∀ (p:den tPt) (k:Nat) (a:dA),cM (fun _ (x:den tPp) a=>a++x.2.2.2) k p a=a++p.flatMap (fun x:den tPp=>x.2.2.2)
 | [],_,a=>by simp [cM]
 | x::p,k,a=>by
  simp only [cM]
  rw [aTe p (k+1)]
  simp

theorem aOr: ∀ (p:den tPt) (k:Nat) (a:Int×Bool),cM (fun _ (x:den tPp) a=>cM (fun _ h a=>aF3 a h) 0 x.2.2.2 a) k p a=(p.flatMap fun x:den tPp=>x.2.2.2).foldl aF3 a
 | [],_,_=>rfl
 | x::p,k,a=>by
  simp only [cM,List.flatMap_cons,List.foldl_append]
  rw [aOr p (k+1),uI]

theorem aV0 {p:den tPt} (h:tot tPt p<=1073741824):jI p=some (aFe (aIw p)):=by
 have hl:p.length<=1073741824:=bT7 (eU (t:=tPp) p) h
 have hs:=aGo p
 unfold jI
 rw [mM (fun k (a:Int×Bool)=>(a.1,a.2,(k:Int))) ((0:Int),false,(0:Int)) ((0:Int),false) p (fun _ (x:den tPp) a=>cM (fun _ h a=>aF3 a h) 0 x.2.2.2 a) (fun _=>0) (fun _=>0) 1 (fun a=>a.1) rfl (by omega) (by rw [sum_nil];omega) (fun k x a=>by omega) (fun k x a hi hx hd hw hk hb=>by
  have hxl:x.2.2.2.length<=1073741824:=by
   have h1:=yB (t:=tPp) hx
   have h2:x.2.2.2.length<=tot tPp x:=bT7 (eU (t:=bZ) x.2.2.2) (by simp only [sE,uV];omega)
   have h3:tot (.sl tPp) p<=1073741824:=h
   omega
  simp only [hd,hi,hw,zZ,aA]
  rw [mM (fun k (a:Int×Bool)=>(a.1,a.2,(k:Int))) (a.1,a.2,(0:Int)) a x.2.2.2 (fun _ h a=>aF3 a h) (fun _=>0) (fun _=>0) 1 id rfl (by omega) (by rw [sum_nil];omega) (fun k x a=>by omega) (fun k h a hi hx hd hw hk hb=>by
   simp only [hd,hi,hw,zZ,aA]
   unfold aF3
   cases ca:a.2
   ·rfl
   ·cases c:decide (h.2.2.2.1<a.1)<;>simp [c,ca]) (fun a=>by simp)]
  rfl) (fun a=>by simp)]
 rw [aOr]
 unfold aFe aIw
 rw [aTe]
 rfl

def aEq (a b:den tPt):Bool:=
 cond (((gO a).length:Int) != ((gO b).length:Int)) (decide (((gO a).length:Int)<((gO b).length:Int)))
  (cond (aFe (aIw a) != aFe (aIw b)) (decide (aFe (aIw a)>aFe (aIw b))) (decide (aCm (aIb a)<aCm (aIb b))))

theorem bGy {a b:den tPt} (ha:tot tPt a<=1073741824) (hb:tot tPt b<=1073741824):pF a b=some (aEq a b):=by
 unfold pF kV aEq
 simp only [aDn (p:=a) (bT7 ha (by decide)),aDn (p:=b) (bT7 hb (by decide)),aV0 ha,aV0 hb,aRe ha,aRe hb,aA]
 cases ((gO a).length:Int) != ((gO b).length:Int)
 ·cases aFe (aIw a) != aFe (aIw b)<;>rfl
 ·rfl

def aC1 (x:den tPt) (out:lPt):Nat→Nat
 | 0=>0
 | k+1=>cond (aEq x ((out[k]?).getD [])) (aC1 x out k) (k+1)

theorem aXh (x:den tPt) (out:lPt): ∀ k,aC1 x out k<=k
 | 0=>bUo _
 | k+1=>by
  unfold aC1
  cases aEq x ((out[k]?).getD [])
  ·exact bUo _
  ·exact Nat.le_succ_of_le (aXh x out k)

theorem aQ9 {x:den tPt} {out:lPt} {step:Int→Option (Int⊕Int)} (hl:out.length<=68719476736)
  (h0:step 0=some (.inr 0)) (h1: ∀ k (y:den tPt),out[k]? =some y→step ((k+1:Nat):Int)=some (cond (aEq x y) (.inl (k:Int)) (.inr ((k+1:Nat):Int)))):
  ∀ k,k<=out.length→aC step (k:Int)=some ((aC1 x out k:Nat):Int)
 | 0,_=>bU h0
 | k+1,hk=>by
  have hy:out[k]? =some out[k]:=bT6 (by omega)
  have hs:=h1 k _ hy
  unfold aC1
  rw [hy,bU3]
  cases hb:aEq x out[k] with
  | true=>rw [hb] at hs;rw [eE hs];exact aQ9 hl h0 h1 k (by omega)
  | false=>rw [hb] at hs;exact bU hs

def aHw (x:den tPt) (out:lPt):lPt:=out.take (aC1 x out out.length)++[x]++out.drop (aC1 x out out.length)

theorem aU0 (x:den tPt) (out:lPt):tot (.sl tPt) (aHw x out)=tot (.sl tPt) out+(1+tot tPt x):=by
 have h:=pU (t:=tPt) (out.take (aC1 x out out.length)) (out.drop (aC1 x out out.length))
 rw [List.take_append_drop] at h
 unfold aHw
 rw [pU,pU,aBq]
 omega

def aEz (l:lPt):lPt:=cM (fun _ x a=>aHw x a) 0 l []

theorem bEf (l:lPt):tot (.sl tPt) (aEz l)<=tot (.sl tPt) l:=by
 have h:=aAc (f:=fun _ x (a:lPt)=>aHw x a) (m:=tot (.sl tPt)) (cost:=fun x=>1+tot tPt x) (fun k x a=>Nat.le_of_eq (aU0 x a)) l 0 []
 rw [aPo,aB4] at h
 unfold aEz
 omega

theorem bNr {l:lPt} (h:tot (.sl tPt) l<=1073741824):rN l=some (aEz l):=by
 have hl:=eU (t:=tPt) l
 unfold rN aEz ixb
 rw [mM (fun k (a:lPt)=>((k:Int),a)) ((0:Int),[]) [] l (fun _ x a=>aHw x a) (tot (.sl tPt)) (fun x=>1+tot tPt x) 1073741824 id rfl (by omega) (by rw [aPo,aB4];omega) (fun k x a=>Nat.le_of_eq (aU0 x a)) (fun k x a hi hx hd hw hk hb=>by
  have ha:=eU (t:=tPt) a
  have hsm:SmB 68719476736 tPt x:=(bF (B:=1073741824) (t:=tPt) (by omega)).mono (by decide)
  simp only [hd,hi,hw,zZ,aA,aP,bD,aW,aV,aX]
  rw [aQ9 (x:=x) (out:=a) (by omega) (by rfl) (fun j y hy=>by
   have hlt:=(bUg.1 hy).1
   have hty:=yB (t:=tPt) hy
   have e1:decide (((j+1:Nat):Int)>0)=true:=by simp<;>omega
   have e2:wr (((j+1:Nat):Int) - 1)=(j:Int):=by
    have :wr (((j+1:Nat):Int) - 1)=((j+1:Nat):Int) - 1:=wri (by omega) (by omega)
    rw [this];omega
   have e3:decide ((j:Int)<(a.length:Int))=true:=by simp;omega
   simp only [e1,e2,e3,fS,zZ,bUf,hy,aA,bGy (a:=x) (b:=y) (by omega) (by omega)]
   cases aEq x y<;>rfl) a.length (bUo _)]
  have hp:=aXh x a a.length
  have s1:cZ (0:Int) ((aC1 x a a.length:Nat):Int) (a.length:Int)=true:=by
   have :=aBu (a:=0) (b:=aC1 x a a.length) (n:=a.length)
   rw [show ((0:Nat):Int)=0 from rfl] at this
   rw [this];simp;omega
  have s2:cZ ((aC1 x a a.length:Nat):Int) (a.length:Int) (a.length:Int)=true:=by rw [aBu];simp;omega
  simp only [aA,s1,s2,zZ,mL,aVj hp,aDu hsm]
  rw [aE (b:=24) (by decide) (by simp<;>omega),aE (b:=24) (by decide) (by simp<;>omega),aE (b:=24) (by decide) (by simp<;>omega)]
  simp only [zZ,bUz,aA]
  rfl) (fun a=>by simp)]
 rfl

def aBf (l:lRv) (now:Int):lRv:=l.filter fun x=>decide (now<=x.2.2)

theorem bE7 {l:lRv} {now:Int} (h:l.length<=1073741824):fW l now=some (aBf l now):=by
 unfold fW aBf pj3
 rw [mM (fun k (a:lRv)=>((k:Int),a)) ((0:Int),[]) [] l (fun _ x a=>if decide (now<=x.2.2)=true then a++[x] else a) bUk (fun _=>1) 68719476736 id rfl (by omega) (by rw [eS];simp;omega) (fun k x a=>by split<;>simp) (fun k x a hi hx hd hw hk hb=>by
  simp only [hd,hi,hw,zZ,aA,aO,aE (b:=24) (n:=a.length) (m:=1) (by decide) (by omega)]
  cases decide (now<=x.2.2)<;>simp) (fun a=>by simp),aAt (fun x:den tRv=>decide (now<=x.2.2))]
 simp

def aBh (l:lRv) (p:den tPt) (now:Int):Bool:= !((aBf l now).all fun x=> !qC p x)

theorem aZ3 (l:lRv) (now:Int):(aBf l now).length<=l.length:=bWv _ _

theorem bC2 {l:lRv} {p:den tPt} {now:Int} (h:l.length<=1073741824) (hp:tot tPt p<=1073741824):tE l p now=some (aBh l p now):=by
 have ha:=aZ3 l now
 unfold tE aBh ixb pj3
 rw [bE7 h,aA]
 rw [cA (l:=aBf l now) (fun _ x=>if !qC p x then none else some true) (by omega) (fun k x hi hd hw hm hk=>by
  have hy:(aBf l now)[k]? =some x:=by rw [← aF];exact hi
  simp only [hd,hy,hw,zZ,aA,fS,bUf,aO,aQm hp]
  cases qC p x<;>rfl) (by simp),uO (fun x:den tRv=> !qC p x)]
 cases (aBf l now).all (fun x=> !qC p x)<;>rfl

def aF5 (l:lRv) (p:lPt) (now:Int):lPt:=(p.filter fun x=> !aBh l x now)++p.filter fun x=>aBh l x now

theorem bEr {l:lRv} {p:lPt} {now:Int} (h:l.length<=1073741824) (hp:tot (.sl tPt) p<=1073741824):iQ l p now=some (aF5 l p now):=by
 have hl:=eU (t:=tPt) p
 unfold iQ aF5
 rw [mM (fun k (a:lPt)=>((k:Int),a)) ((0:Int),[]) [] p (fun _ x a=>if (!aBh l x now)=true then a++[x] else a) bUk (fun _=>1) 68719476736 id rfl (by omega) (by rw [eS];simp;omega) (fun k x a=>by split<;>simp) (fun k x a hi hx hd hw hk hb=>by
  have ht:=yB (t:=tPt) hx
  have hsm:SmB 68719476736 tPt x:=(bF (B:=1073741824) (t:=tPt) (by omega)).mono (by decide)
  simp only [hd,hi,hw,zZ,aA,bC2 (l:=l) (p:=x) (now:=now) h (by omega),aDu hsm,aE (b:=24) (n:=a.length) (m:=1) (by decide) (by omega)]
  cases aBh l x now<;>simp) (fun a=>by simp),aAt (fun x:den tPt=> !aBh l x now)]
 have e:(p.filter fun x=> !aBh l x now).length<=p.length:=bWv _ _
 simp only [id,aA,bUz]
 rw [mM (fun k (a:lPt)=>((k:Int),a)) ((0:Int),p.filter fun x=> !aBh l x now) (p.filter fun x=> !aBh l x now) p (fun _ x a=>if aBh l x now=true then a++[x] else a) bUk (fun _=>1) 68719476736 id rfl (by omega) (by rw [eS];omega) (fun k x a=>by split<;>simp) (fun k x a hi hx hd hw hk hb=>by
  have ht:=yB (t:=tPt) hx
  have hsm:SmB 68719476736 tPt x:=(bF (B:=1073741824) (t:=tPt) (by omega)).mono (by decide)
  simp only [hd,hi,hw,zZ,aA,bC2 (l:=l) (p:=x) (now:=now) h (by omega),aDu hsm,aE (b:=24) (n:=a.length) (m:=1) (by decide) (by omega)]
  cases aBh l x now<;>simp) (fun a=>by simp),aAt (fun x:den tPt=>aBh l x now)]
 rfl

def aKc (f:den tFl) (p:lPt) (now:Int):lPt:=(aF5 f.2.2.2.2.2.2.2.2 (aEz p) now).take (min (aF5 f.2.2.2.2.2.2.2.2 (aEz p) now).length 24)

theorem bMh (n:Nat):(if (24:Int)<(n:Int) then (24:Int) else (n:Int))=((min n 24:Nat):Int):=by
 by_cases c:24<n
 ·rw [zT (by omega),Nat.min_eq_right (by omega)];rfl
 ·rw [zS (by omega),Nat.min_eq_left (by omega)]

theorem bJ4 (n:Nat):cZ (0:Int) ((min n 24:Nat):Int) (n:Int)=true:=by
 have :=aBu (a:=0) (b:=min n 24) (n:=n)
 rw [show ((0:Nat):Int)=0 from rfl] at this
 rw [this];simp;omega

theorem bQs {f:den tFl} {p:lPt} {now:Int} (h:tot tFl f<=1073741824) (hp:tot (.sl tPt) p<=1073741824):oH f p now=some (f.1,f.2.1,f.2.2.1,f.2.2.2.1,aKc f p now,0,0,f.2.2.2.2.1,f.2.2.2.2.2.2.2.2):=by
 have hf:SmB 68719476736 tFl f:=(bF h).mono (by decide)
 have hv:f.2.2.2.2.2.2.2.2.length<=1073741824:=bT7 (eU (t:=tRv) _) (bJ (bJ (bJ (bJ (bJ (bJ (bJ (bJ h))))))))
 have hs:=bEf p
 unfold oH aKc pj9 zz6 zz8
 simp only [aO,aBz hf,bNr hp,bEr (l:=f.2.2.2.2.2.2.2.2) (p:=aEz p) (now:=now) hv (by omega),aS7,aA,bMh,bJ4,zZ,mL]
 rfl

theorem bNx {l:lRs} (h:l.length<=1073741824):eG l=some l:=by
 unfold eG
 rw [aE (by decide) (by simp;omega)]
 simp

theorem bOa {g:den tSc} (h1:g.2.1.length<=1073741824) (h2:g.2.2.length<=1073741824):eP g=some g:=by
 unfold eP
 rw [bNx h1,aA,aE (by decide) (by simp;omega)]
 simp

theorem aYe {g:den tSc} (h1:g.2.1.length<=1073741824) (h2:g.2.2.length<=1073741824):gW g=some g:=by
 unfold gW pj3
 rw [aE (b:=40) (by decide) (by simp;omega),aE (b:=32) (by decide) (by simp;omega)]
 simp [aP,bD,aW,aV,aX]

def sJ (l:lUs) (id s d:Int):Int:=if place l id s d<0 then 0 else ((l[(place l id s d).toNat]?).map (·.2.2.2)).getD 0

theorem bO3 {g:den tSc} {id s d:Int} (h:g.2.2.length<=1073741824):qY g id s d=some (sJ g.2.2 id s d):=by
 unfold qY sJ pj3
 rw [show ((g.1,g.2.1,g.2.2):den tSc)=g from rfl,aW5 h,aA]
 rcases aId g.2.2 id s d with hp | ⟨j,x,hp,hx,hj⟩
 ·rw [hp];rfl
 ·rw [hp,zX (by omega),zZ,aF,hx,zS (by omega)];simp [hx]

theorem bP1 {g:den tSc} {id s d:Int} (h:g.2.2.length<=1073741824):oL g id s d=some (sJ g.2.2 id s d):=by
 unfold oL sJ
 rw [aXk h,aA]
 rcases aId g.2.2 id s d with hp | ⟨j,x,hp,hx,hj⟩
 ·rw [hp];rfl
 ·rw [hp,zW (by omega),zY,aF,hx,zS (by omega)];simp [hx]

def uS (l:lUs) (id s d:Int):lUs:=
 if place l id s d<0 then l++[(id,s,d,1)] else match l[(place l id s d).toNat]? with
  | some x=>l.set (place l id s d).toNat (x.1,x.2.1,x.2.2.1,wr (x.2.2.2+1))
  | none=>l

theorem aE3 (l:lUs) (id s d:Int):(uS l id s d).length<=l.length+1:=by
 unfold uS
 split
 ·simp
 ·split<;>simp

theorem bQv {g:den tSc} {id s d:Int} (h1:g.2.1.length<=1073741824) (h2:g.2.2.length<=1073741824):tJ g id s d=some (g.1,g.2.1,uS g.2.2 id s d):=by
 unfold tJ uS ixb pj3
 rw [show ((g.1,g.2.1,g.2.2):den tSc)=g from rfl,aYe h1 h2,aA,aXk h2,aA]
 rcases aId g.2.2 id s d with hp | ⟨j,x,hp,hx,hj⟩
 ·rw [hp,aE (b:=32) (by decide) (by omega)];rfl
 ·have hd:decide ((j:Int)<(g.2.2.length:Int))=true:=by simpa using hj
  have hd2:decide (j<g.2.2.length)=true:=by simpa using hj
  have hd0:decide ((0:Int)<=(j:Int))=true:=by simp
  rw [hp,zW (show ¬ (j:Int)<0 by omega),zY,zS (by omega)]
  simp only [hd,hd0,hd2,zZ,bUf,hx,aA]

def jJ (g:den tSc) (id s d now:Int):q39:=
 if sJ g.2.2 id s d<pX g id s d now then (g.1,true,g.2.1,uS g.2.2 id s d)
 else if sJ g.2.2 0 s d<pX g 0 s d now then (g.1,true,g.2.1,uS g.2.2 0 s d)
 else (g.1,false,g.2.1,g.2.2)

theorem bNs {g:den tSc} {id s d now:Int} (h1:g.2.1.length<=1073741824) (h2:g.2.2.length<=1073741824):sX g id s d now=some (jJ g id s d now):=by
 unfold sX ixb pj2 pj3
 rw [show ((g.1,g.2.1,g.2.2):den tSc)=g from rfl,bOa h1 h2,aA]
 rw [cA (l:=[id,0]) (fun _ n=>if sJ g.2.2 n s d<pX g n s d now then some (g.1,true,g.2.1,uS g.2.2 n s d) else none) (by simp) (fun k n hi hd hw hx hk=>by
  rw [aF] at hi
  have hd0:decide ((0:Int)<=(k:Int))=true:=by simp
  simp only [hd,hd0,hi,hw,zZ,aA,bUf,bO3 h2,bN5 h1,aW5 h2]
  by_cases hu:sJ g.2.2 n s d<pX g n s d now
  ·rw [zW (by omega),zY,zT hu]
   unfold uS
   rcases aId g.2.2 n s d with hp | ⟨j,x,hp,hx,hj⟩
   ·rw [hp,aE (b:=32) (by decide) (by omega)];rfl
   ·have hd1:decide ((j:Int)<(g.2.2.length:Int))=true:=by simpa using hj
    have hd2:decide ((j:Int)>=0)=true:=by simp
    have hd3:decide ((0:Int)<=(j:Int))=true:=by simp
    rw [hp,zS (by omega)]
    simp only [hd1,hd2,hd3,zZ,bUf,hx,aA]
  ·rw [zX (by omega),zZ,zS hu]) (by simp)]
 unfold jJ
 simp only [eC]
 by_cases hu:sJ g.2.2 id s d<pX g id s d now
 ·simp [hu]
 ·by_cases hv:sJ g.2.2 0 s d<pX g 0 s d now<;>simp [hu,hv]

theorem aP1 {g:den tSc} {id s d now:Int} (h1:g.2.1.length<=1073741824) (h2:g.2.2.length<=1073741824):kA g id s d now=some (jJ g id s d now):=by
 unfold kA jJ pj2 pj3
 rw [show ((g.1,g.2.1,g.2.2):den tSc)=g from rfl]
 simp only [bP1 h2,bEz h1,bRw h1,bQv h1 h2,aYe h1 h2,aA]
 have h0:pX g 0 s d now=free g.2.1 g.1 s d now:=rfl
 rw [h0]
 by_cases hid:id=0
 ·subst hid
  rw [h0]
  by_cases hv:sJ g.2.2 0 s d<free g.2.1 g.1 s d now<;>simp [hv]
 ·have hr:pX g id s d now=xZ g.2.1 id s d now:=by unfold pX;simp [hid]
  have hne:(id != 0)=true:=by simpa using hid
  rw [hr,hne,zZ,aA]
  by_cases hu:sJ g.2.2 id s d<xZ g.2.1 id s d now
  ·simp [hu]
  ·by_cases hv:sJ g.2.2 0 s d<free g.2.1 g.1 s d now<;>simp [hu,hv]

def nU (t:den tTo) (r d:Int):Int:=
 match eC (fun k x=>if dV x r d then some (k:Int) else none) 0 t.2 with
 | some i=>i
 | none=> -1

theorem aCq (t:den tTo) (r d:Int):nU t r d= -1∨ ∃ (j:Nat) (x:den tLk),nU t r d=(j:Int)∧t.2[j]? =some x∧dV x r d=true:=by
 unfold nU
 cases h:eC (fun k x=>if dV x r d then some (k:Int) else none) 0 t.2 with
 | none=>exact .inl rfl
 | some i=>
  obtain ⟨j,x,h1,h2,h3⟩:=aLm h
  exact .inr ⟨j,x,by simpa using h2,h1,h3⟩

theorem aL7 {t:den tTo} {r d:Int} (h:t.2.length<=68719476736):jR t r d=some (nU t r d):=by
 unfold jR pj5
 rw [cA (l:=t.2) (fun k x=>if dV x r d then some (k:Int) else none) (by omega) (fun k x hi hd hw hx hk=>by
  simp only [hd,hi,hw,zZ,aA,bOg]
  cases dV x r d<;>rfl) (by simp)]
 unfold nU
 cases eC (fun k x=>if dV x r d then some (k:Int) else none) 0 t.2<;>rfl

theorem aL1 {t:den tTo} {r d:Int} (h:t.2.length<=68719476736):jO t r d=some (nU t r d):=by
 unfold jO pj5
 rw [cA (l:=t.2) (fun k x=>if dV x r d then some (k:Int) else none) (by omega) (fun k x hi hd hw hx hk=>by
  simp only [hd,hi,hw,zZ,aA,aYk]
  cases dV x r d<;>rfl) (by simp)]
 unfold nU
 cases eC (fun k x=>if dV x r d then some (k:Int) else none) 0 t.2<;>rfl


def aZ8 (x:den tLk) (r d:Int):q28:=cond (x.1==r&&x.2.1==d) (x.2.2.1,x.2.2.2.1) (x.1,x.2.1)

def remote (t:den tTo) (r d:Int):q28:=if nU t r d<0 then (-1,0) else aZ8 ((t.2[(nU t r d).toNat]?).getD (0,0,0,0,0)) r d

theorem aLr {t:den tTo} {r d:Int} (h:t.2.length<=68719476736):jU t r d=some (remote t r d):=by
 unfold jU remote pj2
 simp only [aO,aL7 h,aA]
 rcases aCq t r d with e | ⟨j,x,e,hx,he⟩
 ·rw [e];rfl
 ·rw [e,zW (by omega),zY,zS (by omega),aF,hx,bUf,hx,aA,bU3]
  unfold aZ8
  cases x.1==r<;>cases x.2.1==d<;>rfl

theorem aB1 {t:den tTo} {r d:Int} (h:t.2.length<=68719476736):eF t r d=some (remote t r d):=by
 unfold eF remote pj2
 simp only [aO,aL1 h,aA]
 rcases aCq t r d with e | ⟨j,x,e,hx,he⟩
 ·rw [e];rfl
 ·rw [e,zW (by omega),zY,zS (by omega),aF,hx,bUf,hx,aA,bU3]
  unfold aZ8
  cases x.1==r<;>cases x.2.1==d<;>rfl

def bAk (x:den tLk) (r d:Int):Int:=cond (x.2.2.2.2==1) 1 (cond (x.2.2.2.2==3) 4 (cond (x.2.2.2.2==2) (cond (x.1==r&&x.2.1==d) 2 3) 0))

def zG (t:den tTo) (r d:Int):Int:=cond (d==0) 5 (if nU t r d<0 then 0 else bAk ((t.2[(nU t r d).toNat]?).getD (0,0,0,0,0)) r d)

theorem bNo {t:den tTo} {r d:Int} (h:t.2.length<=68719476736):iU t r d=some (zG t r d):=by
 unfold iU zG pj2 zz4
 simp only [aO,aL7 h,aA]
 cases d==0
 ·rcases aCq t r d with e | ⟨j,x,e,hx,he⟩
  ·rw [e];rfl
  ·rw [e,zW (by omega),zY,zY,zY,zS (by omega),aF,hx,bUf,hx,aA,bU3]
   unfold bAk
   rw [show (x.2.2.2.2 != 2)= !(x.2.2.2.2==2) from rfl]
   cases x.2.2.2.2==1<;>cases x.2.2.2.2==3<;>cases x.2.2.2.2==2<;>cases x.1==r<;>cases x.2.1==d<;>rfl
 ·rfl

theorem aPk {t:den tTo} {r d:Int} (h:t.2.length<=68719476736):dT t r d=some (zG t r d):=by
 unfold dT zG pj2 zz4
 simp only [aO,aL1 h,aA]
 cases d==0
 ·rcases aCq t r d with e | ⟨j,x,e,hx,he⟩
  ·rw [e];rfl
  ·rw [e,zW (by omega),zY,zY,zY,zS (by omega),aF,hx,bUf,hx,aA,bU3]
   unfold bAk
   cases x.2.2.2.2==1<;>cases x.2.2.2.2==3<;>cases x.2.2.2.2==2<;>cases x.1==r<;>cases x.2.1==d<;>rfl
 ·rfl

def aBn (a b:Int):Bool:=cond (a==5||a==2) (b==2||b==5||(b==1||b==3)) (cond (a==3) (b==2||b==5) (cond (a==1) (b==2||b==5||b==1) false))

theorem bDq (a b:Int):jG a b=some (aBn a b):=by
 unfold jG aBn
 cases c5:a==5<;>cases c2:a==2<;>cases a==3<;>cases a==1<;>cases b==2<;>cases b==5<;>cases b==1<;>cases b==3<;>first | rfl | (simp at c5 c2;omega)

theorem bD4 (a b:Int):jM a b=some (aBn a b):=by
 unfold jM aBn
 cases c5:a==5<;>cases c2:a==2<;>cases a==3<;>cases a==1<;>cases b==2<;>cases b==5<;>cases b==1<;>cases b==3<;>first | rfl | (simp at c5 c2;omega)

def aHb (t:den tTo) (s:den wS):Bool:=aBn (zG t s.1 s.2.1) (zG t s.1 s.2.2)&&(!(s.2.1==s.2.2)||s.2.1==0)

theorem bNy {t:den tTo} {s:den wS} (h:t.2.length<=68719476736):nD t s=some (aHb t s):=by
 unfold nD aHb pj2
 simp only [aO,bNo h,bDq,aA]
 rw [show (s.2.1 != s.2.2)= !(s.2.1==s.2.2) from rfl]
 cases aBn (zG t s.1 s.2.1) (zG t s.1 s.2.2)<;>cases s.2.1==s.2.2<;>cases s.2.1==0<;>rfl

theorem bMs {t:den tTo} {s:den wS} (h:t.2.length<=68719476736):nE t s=some (aHb t s):=by
 unfold nE aHb pj2
 simp only [aO,aPk h,bD4,aA]
 rw [show (s.2.1 != 0)= !(s.2.1==0) from rfl]
 cases aBn (zG t s.1 s.2.1) (zG t s.1 s.2.2)<;>cases s.2.1==s.2.2<;>cases s.2.1==0<;>rfl

def aG4 (s i:Int):Bool:=inR s 0 65535&&(inR i 0 15&&(vN .i64 (shr .i64 s i) 1==1))

theorem aQ5 {i:Int} (h:inR i 0 15=true):IntKind.wrap .u64 i=i:=by
 obtain ⟨h0,h1⟩:=bS.1 h
 have :=aUp (n:=i.toNat) (by omega)
 rwa [bV7 h0] at this

theorem bNv (s i:Int):sQ s i=some (aG4 s i):=by
 unfold sQ aG4 oF
 simp only [tY,aA]
 cases inR s 0 65535
 ·rfl
 ·cases c:inR i 0 15
  ·rfl
  ·rw [aQ5 c,zW (by have :=bS.1 c;omega)]
   rfl

theorem bM2 (s i:Int):sT s i=some (aG4 s i):=by
 unfold sT aG4 oQ wG
 simp only [gQ,aA]
 cases inR s 0 65535
 ·rfl
 ·cases c:inR i 0 15
  ·rfl
  ·simp only [zZ,aA,zW (show ¬ i<0 by have :=bS.1 c;omega),zY,bU2]

def aMd (s i:Int):Int:=cond (inR s 0 65535&&inR i 0 15) (bOr .i64 s (shl .i64 1 i)) s

theorem bRh (s i:Int):pO s i=some (aMd s i):=by
 unfold pO aMd oF
 simp only [tY,aA]
 cases inR s 0 65535
 ·rfl
 ·cases c:inR i 0 15
  ·rfl
  ·rw [aQ5 c,zW (by have :=bS.1 c;omega)]
   rfl

theorem bQp (s i:Int):pI s i=some (aMd s i):=by
 unfold pI aMd oQ wG
 simp only [gQ,aA]
 cases inR s 0 65535
 ·rfl
 ·cases c:inR i 0 15
  ·rfl
  ·rw [zW (by have :=bS.1 c;omega)]
   rfl

theorem aUk {α:Type} (p:α→Bool) (N:Int): ∀ (l:List α) (k:Nat),N=((k+l.length:Nat):Int)→aGt (fun k x (_:Unit)=>if p x then .inl () else .inr (k:Int)) (fun _=>N) k l ()=((k+l.findIdx (fun x=> !p x):Nat):Int)
 | [],k,h=>by simpa [aGt] using h
 | x::xs,k,h=>by
  simp only [aGt,List.findIdx_cons]
  cases hp:p x with
  | true=>
   have :=aUk p N xs (k+1) (by rw [h];simp;omega)
   simp only [zV,this,bUc,zY]
   omega
  | false=>simp

def oY (l:List Int) (n:Int):Nat:=l.findIdx fun x=> !decide (x<n)

theorem aOz (l:List Int) (n:Int):oY l n<=l.length:=List.findIdx_le_length

theorem aRw {l:List Int} {n:Int} {step:Int→Option (Int⊕Int)} (hl:l.length<=68719476736)
  (h: ∀ (k:Nat) (x:Int),idx l (k:Int)=some x→l[k]? =some x→decide ((k:Int)<(l.length:Int))=true→IntKind.i64.wrap ((k:Int)+1)=((k+1:Nat):Int)→step (k:Int)=some (if decide (x<n) then .inl ((k+1:Nat):Int) else .inr (k:Int)))
  (he:step (l.length:Int)=some (.inr (l.length:Int))):aC step (0:Int)=some (oY l n:Int):=by
 rw [aKu (fun k (_:Unit)=>(k:Int)) (0:Int) () l (fun k x _=>if decide (x<n) then .inl () else .inr (k:Int)) (fun _ _=>True) (fun _=>(l.length:Int)) rfl (by omega) trivial (fun k x a hi hx hd hw hk _=>by
  refine ⟨?_,fun _ _=>trivial⟩
  rw [h k x hi hx hd hw]
  cases decide (x<n)<;>rfl) (fun _ _=>he)]
 rw [aUk (fun x=>decide (x<n)) (l.length:Int) l 0 (by simp)]
 simp [oY]


def qQ (l:List Int) (n:Int):List Int:=if l[oY l n]? =some n then l else l.take (oY l n)++[n]++l.drop (oY l n)

theorem aD1 (l:List Int) (n:Int):(qQ l n).length<=l.length+1:=by
 unfold qQ
 split
 ·omega
 ·simp;omega

theorem aKf {k n:Nat} (h:k<=n):cZ (0:Int) (k:Int) (n:Int)=true:=by
 simp only [cZ,bT8,zR];omega

theorem aAh {k n:Nat} (h:k<=n):cZ (k:Int) (n:Int) (n:Int)=true:=by
 simp only [cZ,bT8,zR];omega

theorem aD8 {α:Type} {l:List α} {k:Nat}:cut l (k:Int) (l.length:Int)=l.drop k:=by
 unfold cut
 rw [bUf]
 apply List.take_of_length_le
 simp

theorem aX4 {l:List Int} (h:l.length<=68719476736):oK l=some l:=by
 unfold oK
 rw [aE (n:=([]:List Int).length) (by decide) (by simpa using h)];rfl

theorem aOf {l:List Int} {n:Int} {b:Bool} (hb:(l[oY l n]? =some n)=(b=true)):qQ l n=cond b l (l.take (oY l n)++[n]++l.drop (oY l n)):=by
 unfold qQ
 cases b with
 | true=>rw [zT (by rw [hb])];rfl
 | false=>rw [zS (by rw [hb];simp)];rfl

theorem aNj {l:List Int} {n:Int} (h:l.length<=4294967296):oN l n=some (qQ l n):=by
 have hp:=aOz l n
 unfold oN
 rw [aRw (l:=l) (n:=n) (by omega) (fun k x hi hx hd hw=>by
  simp only [hd,zZ,hi,aA,hw]
  cases decide (x<n)<;>rfl) (by simp)]
 simp only [aA,aKf hp,aAh hp,mL,aD8,zZ,aP,bD,aW,aV,aX,aX4 (l:=l.take (oY l n)) (by simp;omega)]
 rw [aE (b:=8) (n:=(l.take (oY l n)).length) (m:=1) (by decide) (by simp;omega),aE (b:=8) (m:=(l.drop (oY l n)).length) (by decide) (by simp;omega)]
 by_cases hlt:oY l n<l.length
 ·have hx:l[oY l n]? =some l[oY l n]:=bT6 hlt
  rw [zX (by omega),zZ,aF,hx,aA,aA]
  rw [aOf (b:=l[oY l n]==n) (by rw [hx];simp)]
  cases l[oY l n]==n<;>rfl
 ·rw [zW (by omega),zY,aA]
  rw [aOf (b:=false) (by rw [List.getElem?_eq_none (by omega)];simp)]
  rfl

theorem aOa {l:List Int} {n:Int} (h:l.length<=4294967296):tR l n=some (qQ l n):=by
 have hp:=aOz l n
 unfold tR ixb
 rw [aRw (l:=l) (n:=n) (by omega) (fun k x hi hx hd hw=>by
  simp only [hd,zZ,fS,bUf,hx,aA,hw]
  cases decide (x<n)<;>rfl) (by simp)]
 simp only [aA,aKf hp,aAh hp,mL,aD8,zZ,aP,bD,aW,aV,aX,bUz,bWe]
 rw [aE (b:=8) (n:=0) (m:=(l.take (oY l n)).length) (by decide) (by simp;omega),aE (b:=8) (n:=(l.take (oY l n)).length) (m:=1) (by decide) (by simp;omega),aE (b:=8) (m:=(l.drop (oY l n)).length) (by decide) (by simp;omega)]
 by_cases hlt:oY l n<l.length
 ·have hx:l[oY l n]? =some l[oY l n]:=bT6 hlt
  rw [zX (by omega),zZ,fS,zZ,zZ,bUf,hx,aA,aA]
  rw [aOf (b:=l[oY l n]==n) (by rw [hx];simp)]
  cases l[oY l n]==n<;>rfl
 ·rw [zW (by omega),zY,aA]
  rw [aOf (b:=false) (by rw [List.getElem?_eq_none (by omega)];simp)]
  rfl


def mQ (r:Int) (x:den tLk) (a:List Int):List Int:=cond (x.2.2.1==r) (qQ (cond (x.1==r) (qQ a x.2.1) a) x.2.2.2.1) (cond (x.1==r) (qQ a x.2.1) a)

theorem aJ3 (r:Int) (x:den tLk) (a:List Int):(mQ r x a).length<=a.length+2:=by
 unfold mQ
 have h1:=aD1 a x.2.1
 have h2:=aD1 (qQ a x.2.1) x.2.2.2.1
 have h3:=aD1 a x.2.2.2.1
 cases x.1==r<;>cases x.2.2.1==r<;>simp only [zZ,zY]<;>omega

def fR (t:den tTo) (r:Int):List Int:=cM (fun _ x a=>mQ r x a) 0 t.2 []

theorem aCh (t:den tTo) (r:Int):(fR t r).length<=2 * t.2.length:=by
 have h:=aAc (f:=fun _ x (a:List Int)=>mQ r x a) (m:=bUk) (cost:=fun _=>2) (fun k x a=>aJ3 r x a) t.2 0 []
 rw [aDv] at h
 simpa [fR] using h

theorem bNd {t:den tTo} {r:Int} (h:t.2.length<=1073741824):pS t r=some (fR t r):=by
 unfold pS
 rw [(sK (fun k (a:List Int)=>(a,(k:Int))) ([],(0:Int)) [] t.2 (fun _ x a=>mQ r x a) bUk (fun _=>2) 4294967296 id rfl (by omega) (by rw [aDv];simp;omega) (fun k x a hi hx hd hw hk hb=>by
  refine ⟨?_,aJ3 r x a⟩
  have h1:=aD1 a x.2.1
  simp only [hd,hi,hw,zZ,aA,aNj (l:=a) (by omega),aNj (l:=qQ a x.2.1) (by omega)]
  unfold mQ
  cases x.1==r<;>cases x.2.2.1==r<;>simp only [zZ,zY,aA,aNj (l:=a) (by omega),aNj (l:=qQ a x.2.1) (by omega)]) (fun a=>by simp)).1]
 rfl

theorem aKt {t:den tTo} {r:Int} (h:t.2.length<=1073741824):gG t r=some (fR t r):=by
 unfold gG
 rw [(sK (fun k (a:List Int)=>((k:Int),a)) ((0:Int),[]) [] t.2 (fun _ x a=>mQ r x a) bUk (fun _=>2) 4294967296 id rfl (by omega) (by rw [aDv];simp;omega) (fun k x a hi hx hd hw hk hb=>by
  refine ⟨?_,aJ3 r x a⟩
  have h1:=aD1 a x.2.1
  simp only [hd,hi,hw,zZ,aA,aOa (l:=a) (by omega),aOa (l:=qQ a x.2.1) (by omega)]
  unfold mQ
  cases x.1==r<;>cases x.2.2.1==r<;>simp only [zZ,zY,aA,aOa (l:=a) (by omega),aOa (l:=qQ a x.2.1) (by omega)]) (fun a=>by simp)).1]
 rfl

theorem aH8 {α:Type} (l:List α):(l.map fun _=>0).sum=0:=by
 induction l with
 | nil=>rfl
 | cons x l ih=>rw [bUs,bVl,ih]


def oE (t:den tTo) (dead:List Int) (r:Int):Int:=cM (fun _ x a=>cond (sD dead (nU t r x)) (aMd a x) a) 0 (fR t r) 0

theorem aQb {t:den tTo} {dead:List Int} {r:Int} (h:t.2.length<=1073741824) (hd:dead.length<=68719476736):cT t dead r=some (oE t dead r):=by
 have hl:=aCh t r
 unfold cT pj2
 simp only [aO,bNd h,aA]
 rw [mM (fun k (a:Int)=>(a,(k:Int))) ((0:Int),(0:Int)) 0 (fR t r) (fun _ x a=>cond (sD dead (nU t r x)) (aMd a x) a) (fun _=>0) (fun _=>0) 0 id rfl (by omega) (by rw [aH8];exact bUo _) (fun _ _ _=>bUo _) (fun k x a hi hx hd' hw hk hb=>by
  simp only [hd',hi,hw,zZ,aA,aL7 (t:=t) (r:=r) (d:=x) (by omega),aTd hd,bRh]
  cases sD dead (nU t r x)<;>rfl) (fun a=>by simp)]
 rfl

theorem aWw {t:den tTo} {dead:List Int} {r:Int} (h:t.2.length<=1073741824) (hd:dead.length<=68719476736):eI t dead r=some (oE t dead r):=by
 have hl:=aCh t r
 unfold eI ixb pj2
 simp only [aO,aKt h,aA]
 rw [mM (fun k (a:Int)=>(a,(k:Int))) ((0:Int),(0:Int)) 0 (fR t r) (fun _ x a=>cond (sD dead (nU t r x)) (aMd a x) a) (fun _=>0) (fun _=>0) 0 id rfl (by omega) (by rw [aH8];exact bUo _) (fun _ _ _=>bUo _) (fun k x a hi hx hd' hw hk hb=>by
  simp only [hd',fS,bUf,hx,hw,zZ,aA,aL1 (t:=t) (r:=r) (d:=x) (by omega),aEg hd,bQp]
  cases sD dead (nU t r x)<;>rfl) (fun a=>by simp)]
 rfl

def aFy (key ts beta:Int) (h:den bZ):Int:=aCm (([key]++[ts,beta,h.1,h.2.1,h.2.2.1,h.2.2.2.1])++[key])

theorem bRt (key ts beta:Int) (h:den bZ):xP key ts beta h=some (aFy key ts beta h):=by
 unfold xP rX aFy
 rw [aE (b:=8) (n:=[key].length) (by decide) (by simp),aE (b:=8) (by decide) (by simp),bG5 (by simp)]
 rfl

theorem bE1 (key ts beta:Int) (h:den bZ):uF key ts beta h=some (aFy key ts beta h):=by
 unfold uF rY aFy
 rw [aE (b:=8) (n:=[key].length) (by decide) (by simp),aE (b:=8) (by decide) (by simp),aU6 (by simp)]
 rfl

def h0:den bZ:=(0,0,0,0,0)

def aZm (t:den tTo) (r:Int):Int:=((t.1[r.toNat]?).getD (0,false,0)).2.2

def aBw (t:den tTo) (ts beta:Int) (h:den bZ):Bool:=iY h&&(eB t h.1&&(h.2.2.2.2==aFy (aZm t h.1) ts beta h))

theorem bGk {t:den tTo} {ts beta:Int} {h:den bZ} (ht:t.1.length<=68719476736):rP t ts beta h=some (aBw t ts beta h):=by
 unfold rP aBw pj2 pj5 zz4
 simp only [aO,aLl,bEe ht,aA,bRt]
 cases iY h
 ·rfl
 ·cases c:eB t h.1
  ·rfl
  ·obtain ⟨x,hx,ix⟩:=aG5 c
   rw [ix,aZm,hx]
   rfl

theorem aT9 {t:den tTo} {ts beta:Int} {h:den bZ} (ht:t.1.length<=68719476736):fO t ts beta h=some (aBw t ts beta h):=by
 unfold fO aBw pj2 pj5 zz4
 simp only [aO,aGu,aCl ht,aA,bE1]
 cases iY h
 ·rfl
 ·cases c:eB t h.1
  ·rfl
  ·obtain ⟨x,hx,ix⟩:=aG5 c
   rw [ix,aZm,hx]
   rfl

def aCy (t:den tTo) (l:dA) (k:Nat) (x:den bZ):Bool:=iY x&&(eB t x.1&&(l.take k).all fun y=> !(y.1==x.1))

def aG1 (t:den tTo) (l:dA):Bool:=(l.zipIdx 0).all fun z=>aCy t l z.2 z.1

theorem bNz {t:den tTo} {l:dA} (ht:t.1.length<=68719476736) (hl:l.length<=68719476736):xA t l=some (inR (l.length:Int) 1 8&&aG1 t l):=by
 unfold xA aG1 pj2 pj5
 rw [cA (l:=l) (fun k x=>if aCy t l k x then none else some false) (by omega) (fun k x hi hd hw hm hk=>by
  simp only [hd,hi,zZ,aA,aO,aLl,bEe ht,aCp hk,mL,hw]
  rw [cA (l:=l.take k) (fun _ y=>if !(y.1==x.1) then none else some (bT4 (bT4 false))) (by rw [zO hk];omega) (fun j y hi hd hw hm hk=>by
   simp only [hd,hi,hw,zZ,aA]
   cases y.1==x.1<;>rfl) (by simp),uO (fun y:den bZ=> !(y.1==x.1))]
  unfold aCy
  cases iY x<;>cases eB t x.1<;>cases (l.take k).all (fun y=> !(y.1==x.1))<;>rfl) (by simp),aJ9 (aCy t l)]
 rw [tY,aA]
 cases inR (l.length:Int) 1 8<;>cases (l.zipIdx 0).all (fun z=>aCy t l z.2 z.1)<;>rfl

def aIa (t:den tTo) (p:den tPp) (x y:den bZ):Bool:= !(pEg p x==0)&&((remote t x.1 (pEg p x)).1==y.1&&(remote t x.1 (pEg p x)).2==pIn p y)

def vU (t:den tTo) (p:den tPp) (k:Nat) (y:den bZ):Bool:=decide (k=0)||aIa t p ((p.2.2.2[k - 1]?).getD h0) y

def pZ (t:den tTo) (p:den tPp):Bool:=
 inR (p.2.2.2.length:Int) 1 8&&(inR p.1 1 4&&(inR p.2.1 0 1000000&&(jD p.2.2.1&&(aG1 t p.2.2.2&&(p.2.2.2.zipIdx 0).all fun z=>vU t p z.2 z.1))))

theorem bH3 (t:den tTo) (p:den tPp):((p.2.2.2.drop 1).zipIdx 0).all (fun z=>aIa t p ((p.2.2.2[z.2]?).getD h0) z.1)=(p.2.2.2.zipIdx 0).all (fun z=>vU t p z.2 z.1):=by
 rw [bU1,aDl (fun k x=>aIa t p ((p.2.2.2[k]?).getD h0) x),aDl (vU t p)]
 constructor
 ·intro h k x hx
  cases k with
  | zero=>rfl
  | succ k=>
   have :=h k x (by rw [bVw,Nat.add_comm];exact hx)
   simpa [vU] using this
 ·intro h k x hx
  rw [bVw,Nat.add_comm] at hx
  have :=h (k+1) x hx
  simpa [vU] using this

theorem aEa (a b:Int):(a != b)= !(a==b):=rfl

theorem bEv {t:den tTo} {p:den tPp} (ht:t.1.length<=68719476736) (ht2:t.2.length<=68719476736) (hl:p.2.2.2.length<=68719476736):rH t p=some (pZ t p):=by
 unfold rH pZ pj2 pj4
 rw [cA (l:=p.2.2.2.drop 1) (fun k y=>if aIa t p ((p.2.2.2[k]?).getD h0) y then none else some false) (by rw [bV6];omega) (fun k y hi hd hw hm hk=>by
  have hy:p.2.2.2[k+1]? =some y:=by rw [aF,bVw,Nat.add_comm] at hi;exact hi
  have hlt:k+1<p.2.2.2.length:=(bUg.1 hy).1
  obtain ⟨x,hx⟩: ∃ x,p.2.2.2[k]? =some x:=⟨_,bT6 (by omega)⟩
  have hd':decide ((k:Int)<wr ((p.2.2.2.length:Int) - 1))=true:=by rw [nB hl];simp;omega
  have hy':idx p.2.2.2 ((k+1:Nat):Int)=some y:=by rw [aF];exact hy
  simp only [hd',zZ,aO,bA1 hx hl,aA,aF,hx,hw,hy,bCk hy hl,aLr ht2,bU3,aEa]
  unfold aIa
  cases pEg p x==0<;>cases (remote t x.1 (pEg p x)).1==y.1<;>cases (remote t x.1 (pEg p x)).2==pIn p y<;>rfl) (by
   rw [bV6,nB hl,zW (by omega)];rfl),aJ9 (fun k y=>aIa t p ((p.2.2.2[k]?).getD h0) y),bH3]
 simp only [aO,tY,bNz ht hl,aDj,aA]
 cases inR (p.2.2.2.length:Int) 1 8<;>cases inR p.1 1 4<;>cases inR p.2.1 0 1000000<;>cases jD p.2.2.1<;>cases aG1 t p.2.2.2<;>cases (p.2.2.2.zipIdx 0).all (fun z=>vU t p z.2 z.1)<;>rfl

theorem aB5 {α S:Type} (p:Nat→α→Bool) (o r:S): ∀ (l:List α) (k:Nat),aGt (fun k x (_:Unit)=>if p k x then .inl () else .inr r) (fun _=>o) k l ()=if (l.zipIdx k).all (fun z=>p z.2 z.1) then o else r
 | [],_=>rfl
 | x::xs,k=>by
  simp only [aGt,List.zipIdx_cons,bV8]
  rcases bW0 (p k x) with h | h
  ·simp only [h,zV,bU2];exact aB5 p o r xs (k+1)
  ·simp [h]

theorem bIu {p:den tPp} (hl:p.2.2.2.length<=68719476736):rL p=some (p.2.2.2.map (·.1)):=by
 unfold rL
 rw [(sK (fun k (a:List Int)=>((k:Int),a)) ((0:Int),[]) [] p.2.2.2 (fun _ x a=>a++[x.1]) bUk (fun _=>1) 68719476736 id rfl (by omega) (by rw [eS];simpa using hl) (fun k x a hi hx hd hw hk hb=>by
  simp only [hd,hi,hw,zZ,aA,aE (b:=8) (by decide) hb]
  simp) (fun a=>by simp)).1,iS (fun x:den bZ=>x.1)]
 simp

theorem bIm (l:dA) (k:Nat) (n:Int):sD ((l.map (·.1)).take k) n= !((l.take k).all fun y=> !(y.1==n)):=by
 unfold sD
 rw [← List.map_take,List.all_map]
 rfl

theorem bE3 {t:den tTo} {p:den tPp} (ht:t.1.length<=68719476736) (ht2:t.2.length<=68719476736) (hl:p.2.2.2.length<=68719476736):rF t p=some (pZ t p):=by
 unfold rF pZ pj2 pj4 pj5
 simp only [aO,bIu hl,aA]
 have hR:(p.2.2.2.map (·.1)).length=p.2.2.2.length:=by simp
 rw [aKu (fun k (_:Unit)=>(p.2.2.2.map (·.1),(k:Int))) (p.2.2.2.map (·.1),(0:Int)) () p.2.2.2 (fun k x _=>if (aCy t p.2.2.2 k x&&vU t p k x) then .inl () else .inr (.inr false)) (fun _ _=>True) (fun _=> .inl ()) rfl (by omega) trivial (fun k x a hi hx hd hw hk _=>by
  refine ⟨?_,fun _ _=>trivial⟩
  have hr:(p.2.2.2.map (·.1))[k]? =some x.1:=by rw [bWm,hx];rfl
  have hs:cZ (0:Int) (k:Int) ((p.2.2.2.map (·.1)).length:Int)=true:=by rw [hR];exact aCp hk
  have hh:fB ((p.2.2.2.map (·.1)).take k) x.1=some (!((p.2.2.2.take k).all fun y=> !(y.1==x.1))):=by
   rw [aEg (by simp;omega),bIm]
  simp only [hd,zZ,hi,aF,hr,aA,aGu,aCl ht,hs,mL,hh,hw]
  cases k with
  | zero=>
   rw [show decide (((0:Nat):Int)>0)=false from by decide]
   unfold aCy vU
   cases iY x<;>cases eB t x.1<;>cases (p.2.2.2.take 0).all (fun y=> !(y.1==x.1))<;>rfl
  | succ j=>
   have hw1:wr (((j+1:Nat):Int) - 1)=(j:Int):=(wri (by omega) (by omega)).trans (by omega)
   obtain ⟨y,hy⟩: ∃ y,p.2.2.2[j]? =some y:=⟨_,bT6 (by omega)⟩
   have hr1:(p.2.2.2.map (·.1))[j]? =some y.1:=by rw [bWm,hy];rfl
   rw [show decide (((j+1:Nat):Int)>0)=true from by simp]
   simp only [hw1,aF,hr1,aA,aSn hy hl,bCq hx hl,aB1 ht2,zZ,aEa]
   unfold aCy vU aIa
   rw [Nat.add_sub_cancel,hy,bU3]
   cases iY x<;>cases eB t x.1<;>cases (p.2.2.2.take (j+1)).all (fun y=> !(y.1==x.1))<;>cases pEg p y==0<;>cases (remote t y.1 (pEg p y)).1==x.1<;>cases (remote t y.1 (pEg p y)).2==pIn p x<;>rfl) (fun a _=>by simp)]
 rw [aB5 (fun k x=>aCy t p.2.2.2 k x&&vU t p k x)]
 have hsplit:(p.2.2.2.zipIdx 0).all (fun z=>aCy t p.2.2.2 z.2 z.1&&vU t p z.2 z.1)=(aG1 t p.2.2.2&&(p.2.2.2.zipIdx 0).all fun z=>vU t p z.2 z.1):=by
  unfold aG1
  rw [bU1]
  simp only [bUx,bT8]
  exact ⟨fun h=>⟨fun z hz=>(h z hz).1,fun z hz=>(h z hz).2⟩,fun h z hz=>⟨h.1 z hz,h.2 z hz⟩⟩
 rw [hsplit]
 simp only [gQ,aB0,aA]
 cases inR (p.2.2.2.length:Int) 1 8<;>cases inR p.1 1 4<;>cases inR p.2.1 0 1000000<;>cases jD p.2.2.1<;>cases aG1 t p.2.2.2<;>cases (p.2.2.2.zipIdx 0).all (fun z=>vU t p z.2 z.1)<;>rfl

def yS (k:Int):Int:=cond (k==1) 1 (cond (k==2||k==3) 2 3)

theorem bG7 (k:Int):tP k=some (yS k):=by
 unfold tP yS
 cases k==1<;>cases k==2<;>cases k==3<;>rfl

theorem bG2 (k:Int):tK k=some (yS k):=by
 unfold tK yS
 cases k==1<;>cases k==2<;>cases k==3<;>rfl

def pt0:den tPp:=(0,0,0,[])

def aGx (y:den tPp):den bZ:=(y.2.2.2[y.2.2.2.length - 1]?).getD h0

def aFc (y:den tPp):den bZ:=(y.2.2.2[0]?).getD h0

def aKj (y x:den tPp):Bool:= !decide (yS y.1>=yS x.1)&&(aGx y).1==(aFc x).1

def vY (t:den tTo) (p:den tPt) (k:Nat) (x:den tPp):Bool:=pZ t x&&(decide (k=0)||aKj ((p[k - 1]?).getD pt0) x)

def wfP (t:den tTo) (p:den tPt):Bool:=inR (p.length:Int) 1 3&&(p.zipIdx 0).all fun z=>vY t p z.2 z.1

theorem aB9 {t:den tTo} {p:den tPp} (h:pZ t p=true):0<p.2.2.2.length:=by
 unfold pZ at h
 rw [bT8] at h
 have :=bS.1 h.1
 omega

theorem aUx {y:den tPp} (h:0<y.2.2.2.length) (hl:y.2.2.2.length<=68719476736):idx y.2.2.2 (wr ((y.2.2.2.length:Int) - 1))=some (aGx y):=by
 rw [bFf hl h,aF]
 unfold aGx
 rw [bT6 (show y.2.2.2.length - 1<y.2.2.2.length by omega)]
 rfl

theorem aV2 {y:den tPp} (h:0<y.2.2.2.length):idx y.2.2.2 (0:Int)=some (aFc y):=by
 have :idx y.2.2.2 ((0:Nat):Int)=y.2.2.2[0]? :=aF
 rw [show (0:Int)=((0:Nat):Int) from rfl,this]
 unfold aFc
 rw [bT6 h]
 rfl

theorem bSt {t:den tTo} {p:den tPt} (ht:t.1.length<=68719476736) (ht2:t.2.length<=68719476736) (h:SmB 68719476736 tPt p):jK t p=some (wfP t p):=by
 have lp:=h.1
 have lh: ∀ (k:Nat) (x:den tPp),p[k]? =some x→x.2.2.2.length<=68719476736:=fun k x hx=>(h.2 x (bUi hx)).2.2.2.1
 unfold jK wfP pj2 pj4
 rw [aKu (fun k (_:Unit)=>(k:Int)) (0:Int) () p (fun k x _=>if vY t p k x then .inl () else .inr (.inr false)) (fun k _=> ∀ j y,j<k→p[j]? =some y→0<y.2.2.2.length) (fun _=> .inl ()) rfl (by omega) (fun j y hj=>absurd hj (Nat.not_lt_zero _)) (fun k x a hi hx hd hw hk hI=>by
  have hlx:=lh k x hx
  refine ⟨?_,fun a' ha j y hj hy=> ?_⟩
  ·simp only [hd,zZ,hi,aA,aO,bEv ht ht2 hlx,hw]
   cases hv:pZ t x with
   | false=>unfold vY;rw [hv];rfl
   | true=>
    cases k with
    | zero=>
     rw [show decide (((0:Nat):Int)>0)=false from by decide]
     unfold vY;rw [hv];rfl
    | succ j=>
     have hw1:wr (((j+1:Nat):Int) - 1)=(j:Int):=(wri (by omega) (by omega)).trans (by omega)
     obtain ⟨y,hy⟩: ∃ y,p[j]? =some y:=⟨_,bT6 (by omega)⟩
     rw [show decide (((j+1:Nat):Int)>0)=true from by simp]
     simp only [hw1,aF,hy,aA,bG7,aUx (hI j y (Nat.lt_succ_self j) hy) (lh j y hy),aV2 (aB9 hv),zZ,aEa,bUc,zY]
     unfold vY aKj
     rw [Nat.add_sub_cancel,hy,bU3,hv]
     cases decide (yS y.1>=yS x.1)<;>cases (aGx y).1==(aFc x).1<;>rfl
  ·rcases Nat.lt_succ_iff_lt_or_eq.1 hj with hj | rfl
   ·exact hI j y hj hy
   ·rw [hx] at hy
    injection hy with hy
    subst hy
    rcases bW0 (vY t p j x) with hb | hb
    ·unfold vY at hb
     rw [bT8] at hb
     exact aB9 hb.1
    ·simp [hb] at ha) (fun a _=>by simp)]
 rw [aB5 (vY t p),tY,aA]
 cases inR (p.length:Int) 1 3<;>cases (p.zipIdx 0).all (fun z=>vY t p z.2 z.1)<;>rfl

theorem bR6 {t:den tTo} {p:den tPt} (ht:t.1.length<=68719476736) (ht2:t.2.length<=68719476736) (h:SmB 68719476736 tPt p):jE t p=some (wfP t p):=by
 have lp:=h.1
 have lh: ∀ (k:Nat) (x:den tPp),p[k]? =some x→x.2.2.2.length<=68719476736:=fun k x hx=>(h.2 x (bUi hx)).2.2.2.1
 unfold jE wfP pj2 pj4
 rw [aKu (fun k (_:Unit)=>(k:Int)) (0:Int) () p (fun k x _=>if vY t p k x then .inl () else .inr (.inr false)) (fun k _=> ∀ j y,j<k→p[j]? =some y→0<y.2.2.2.length) (fun _=> .inl ()) rfl (by omega) (fun j y hj=>absurd hj (Nat.not_lt_zero _)) (fun k x a hi hx hd hw hk hI=>by
  have hlx:=lh k x hx
  refine ⟨?_,fun a' ha j y hj hy=> ?_⟩
  ·simp only [hd,zZ,hi,aA,aO,bE3 ht ht2 hlx,hw]
   cases hv:pZ t x with
   | false=>unfold vY;rw [hv];rfl
   | true=>
    cases k with
    | zero=>
     rw [show decide (((0:Nat):Int)>0)=false from by decide]
     unfold vY;rw [hv];rfl
    | succ j=>
     have hw1:wr (((j+1:Nat):Int) - 1)=(j:Int):=(wri (by omega) (by omega)).trans (by omega)
     obtain ⟨y,hy⟩: ∃ y,p[j]? =some y:=⟨_,bT6 (by omega)⟩
     rw [show decide (((j+1:Nat):Int)>0)=true from by simp]
     simp only [hw1,aF,hy,aA,bG2,aUx (hI j y (Nat.lt_succ_self j) hy) (lh j y hy),aV2 (aB9 hv),zZ,aEa,bUc,zY]
     unfold vY aKj
     rw [Nat.add_sub_cancel,hy,bU3,hv]
     cases decide (yS y.1>=yS x.1)<;>cases (aGx y).1==(aFc x).1<;>rfl
  ·rcases Nat.lt_succ_iff_lt_or_eq.1 hj with hj | rfl
   ·exact hI j y hj hy
   ·rw [hx] at hy
    injection hy with hy
    subst hy
    rcases bW0 (vY t p j x) with hb | hb
    ·unfold vY at hb
     rw [bT8] at hb
     exact aB9 hb.1
    ·simp [hb] at ha) (fun a _=>by simp)]
 rw [aB5 (vY t p),gQ,aA]
 cases inR (p.length:Int) 1 3<;>cases (p.zipIdx 0).all (fun z=>vY t p z.2 z.1)<;>rfl

def aDg (l:List Int) (k:Nat) (n:Int):Bool:= !sD (l.take k) n

def wF (t:den tTo) (p:den tPt):Bool:=wfP t p&&((iC p).zipIdx 0).all fun z=>aDg (iC p) z.2 z.1

theorem aX6 {p:den tPt} (h:tot tPt p<=1073741824):SmB 68719476736 tPt p:=(bF h).mono (by decide)

theorem bFx {t:den tTo} {p:den tPt} (ht:t.1.length<=68719476736) (ht2:t.2.length<=68719476736) (h:tot tPt p<=1073741824):pK t p=some (wF t p):=by
 have hu:=aFd p
 unfold pK wF pj2
 simp only [aO,bSt ht ht2 (aX6 h),aYt h,aA]
 rw [aKu (fun k (_:Unit)=>(iC p,iC p,(k:Int))) (iC p,iC p,(0:Int)) () (iC p) (fun k x _=>if aDg (iC p) k x then .inl () else .inr (.inr false)) (fun _ _=>True) (fun _=> .inl ()) rfl (by omega) trivial (fun k x a hi hx hd hw hk _=>by
  refine ⟨?_,fun _ _=>trivial⟩
  simp only [hd,zZ,hi,aA,aCp hk,mL,hw,aTd (l:=(iC p).take k) (n:=x) (by simp;omega)]
  unfold aDg
  cases sD ((iC p).take k) x<;>rfl) (fun a _=>by simp)]
 rw [aB5 (aDg (iC p))]
 cases wfP t p<;>cases ((iC p).zipIdx 0).all (fun z=>aDg (iC p) z.2 z.1)<;>rfl

theorem aQ7 {t:den tTo} {p:den tPt} (ht:t.1.length<=68719476736) (ht2:t.2.length<=68719476736) (h:tot tPt p<=1073741824):kW t p=some (wF t p):=by
 have hu:=aFd p
 unfold kW wF pj2
 simp only [aO,bR6 ht ht2 (aX6 h),aW6 h,aA]
 rw [aKu (fun k (_:Unit)=>(iC p,(k:Int))) (iC p,(0:Int)) () (iC p) (fun k x _=>if aDg (iC p) k x then .inl () else .inr (.inr false)) (fun _ _=>True) (fun _=> .inl ()) rfl (by omega) trivial (fun k x a hi hx hd hw hk _=>by
  refine ⟨?_,fun _ _=>trivial⟩
  simp only [hd,zZ,hi,aA,aCp hk,mL,hw,aEg (l:=(iC p).take k) (n:=x) (by simp;omega)]
  unfold aDg
  cases sD ((iC p).take k) x<;>rfl) (fun a _=>by simp)]
 rw [aB5 (aDg (iC p))]
 cases wfP t p<;>cases ((iC p).zipIdx 0).all (fun z=>aDg (iC p) z.2 z.1)<;>rfl

def bN (p:den tPk):den tPp:=(p.2.2.2.1[p.2.2.2.2.1.toNat]?).getD pt0

def cV (p:den tPk):den bZ:=((bN p).2.2.2[p.2.2.2.2.2.1.toNat]?).getD h0

theorem gL {p:den tPk} (h:cB p=true): ∃ (i j:Nat),p.2.2.2.2.1=(i:Int)∧p.2.2.2.2.2.1=(j:Int)∧p.2.2.2.1[i]? =some (bN p)∧(bN p).2.2.2[j]? =some (cV p)∧cK p=(cV p).1:=by
 obtain ⟨i,j,x,y,h1,h2,h3,h4,h5⟩:=aAr h
 have e1:bN p=x:=by unfold bN;rw [h1,bUf,h3];rfl
 have e2:cV p=y:=by unfold cV;rw [e1,h2,bUf,h4];rfl
 exact ⟨i,j,h1,h2,by rw [e1];exact h3,by rw [e1,e2];exact h4,by rw [e2];exact h5⟩

theorem aDx {p:den tPk} (h:0<=cK p):cB p=true:=by
 cases c:cB p with
 | true=>rfl
 | false=>rw [xI c] at h;omega

theorem fQ {p:den tPk} (h:tot tPk p<=34359738368):SmB 68719476736 tPk p:=(bF h).mono (by decide)

theorem xL {p:den tPk} (h:SmB 68719476736 tPk p) {i:Nat} {x:den tPp} (hx:p.2.2.2.1[i]? =some x):x.2.2.2.length<=68719476736:=(h.2.2.2.1.2 x (bUi hx)).2.2.2.1


def dN (p:den tPk):Bool:=p.2.2.2.2.2.1==((bN p).2.2.2.length:Int) - 1

def aEu (p:den tPk):Bool:=p.2.2.2.2.1==(p.2.2.2.1.length:Int) - 1

def fT (p:den tPk):Bool:=decide (cK p>=0)&&(dN p&&aEu p)

theorem aL2 {p:den tPk} (h:SmB 68719476736 tPk p) (hh:cB p=true):gH p=some (dN p):=by
 obtain ⟨i,j,h1,h2,h3,h4,_⟩:=gL hh
 unfold gH dN zz4 zz5
 rw [h1,aF,h3,aA,nB (xL h h3)]

theorem aLs {p:den tPk} (h:SmB 68719476736 tPk p):jQ p=some (fT p):=by
 unfold jQ fT aI zz4
 simp only [aO,aDr h,aA]
 cases c:decide (cK p>=0)
 ·rfl
 ·have hh:=aDx (of_decide_eq_true c)
  have l1:=h.2.2.2.1.1
  simp only [zZ,aL2 h hh,aA,nB l1]
  unfold aEu
  cases dN p<;>rfl

theorem aTz {p:den tPk} (h:SmB 68719476736 tPk p):lE p=some (fT p):=by
 unfold lE fT aI zz4 zz5
 simp only [aO,aAq h,aA]
 cases c:decide (cK p>=0)
 ·rfl
 ·have hh:=aDx (of_decide_eq_true c)
  have l1:=h.2.2.2.1.1
  obtain ⟨i,j,h1,h2,h3,h4,_⟩:=gL hh
  simp only [zZ,nB l1]
  unfold aEu dN
  rw [h1,aF,h3,aA,nB (xL h h3)]
  cases p.2.2.2.2.2.1==((bN p).2.2.2.length:Int) - 1<;>cases (i:Int)==(p.2.2.2.1.length:Int) - 1<;>rfl

theorem aGg {p:den tPk} (h:SmB 68719476736 tPk p):dO p=some (pkR p):=by
 unfold dO pkR zz4 zz5 zz6 zz7 zz8 zz9
 rw [aKv h.2.2.2.1,aGe h.2.2.2.2.2.2.2.2.2.1]
 rfl

theorem aB3 {p:den tPk} (h:SmB 68719476736 tPk p):fD p=some (pkR p):=by
 unfold fD pkR zz4 zz5 zz6 zz7 zz8 zz9
 rw [aDu h.2.2.2.1,aE (b:=1) (n:=([]:List Int).length) (by decide) (by simpa using h.2.2.2.2.2.2.2.2.2.1)]
 simp


def goTo (p:den tPk) (i j b:Int):den tPk:=(p.1,p.2.1,p.2.2.1,p.2.2.2.1,i,j,b,p.2.2.2.2.2.2.2.1,p.2.2.2.2.2.2.2.2.1,p.2.2.2.2.2.2.2.2.2)

def qO (p:den tPk):den tPp:=(p.2.2.2.1[p.2.2.2.2.1.toNat+1]?).getD pt0

def adv (p:den tPk):den tPk:=
 if decide (cK p<0)||fT p then p
 else if dN p then goTo p (p.2.2.2.2.1+1) 0 (qO p).2.2.1 else goTo p p.2.2.2.2.1 (p.2.2.2.2.2.1+1) p.2.2.2.2.2.2.1

theorem aO9 {p:den tPk} (hh:cB p=true) (h0:0<=cK p) (hl:dN p=true) (ha:fT p=false): ∃ i:Nat,p.2.2.2.2.1=(i:Int)∧p.2.2.2.1[i+1]? =some (qO p):=by
 obtain ⟨i,j,h1,h2,h3,h4,_⟩:=gL hh
 refine ⟨i,h1,?_⟩
 have hlt:=(bUg.1 h3).1
 have hne:aEu p=false:=by
  unfold fT at ha
  rw [hl,zX h0] at ha
  simpa using ha
 unfold aEu at hne
 rw [h1] at hne
 have hne: ¬ ((i:Int)=(p.2.2.2.1.length:Int) - 1):=by simpa using hne
 unfold qO
 rw [h1,bUf,bT6 (show i+1<p.2.2.2.1.length by omega)]
 rfl

theorem bL6 {p:den tPk} (h:SmB 68719476736 tPk p):lC p=some (pkR (adv p)):=by
 unfold lC adv aI pj2 zz4 zz5 zz6 zz7 zz8
 simp only [aO,aGg h,aDr h,aLs h,aA]
 cases c:decide (cK p<0)
 ·cases ca:fT p
  ·have h0:0<=cK p:=by have :=of_decide_eq_false c;omega
   have hh:=aDx h0
   obtain ⟨i,j,h1,h2,h3,h4,_⟩:=gL hh
   have hlt:=(bUg.1 h3).1
   have hlt2:=(bUg.1 h4).1
   have l1:bUk p.2.2.2.1<=68719476736:=h.2.2.2.1.1
   have l2:=xL h h3
   simp only [zY,aA,aL2 h hh,bV0,bUh,zU]
   cases cl:dN p
   ·simp only [zY,aA,bUh,zU]
    unfold pkR goTo
    rw [h2,show wr ((j:Int)+1)=(j:Int)+1 from wri (by omega) (by omega)]
   ·obtain ⟨i',e1,e2⟩:=aO9 hh h0 cl ca
    have :i'=i:=Int.ofNat.inj (e1.symm.trans h1)
    subst this
    have hw:wr (((i':Nat):Int)+1)=((i'+1:Nat):Int):=(wri (by omega) (by omega)).trans (by omega)
    simp only [zZ,zV]
    unfold pkR goTo
    simp only [h1,hw,aF,e2,aA]
    rw [show ((i'+1:Nat):Int)=(i':Int)+1 by omega]
  ·rfl
 ·rfl

theorem bAd {p:den tPk} (h:SmB 68719476736 tPk p):gK p=some (pkR (adv p)):=by
 unfold gK adv aI pj4 pj5 zz4 zz5 zz6
 simp only [aO,aB3 h,aAq h,aTz h,aA]
 cases c:decide (cK p<0)
 ·cases ca:fT p
  ·have h0:0<=cK p:=by have :=of_decide_eq_false c;omega
   have hh:=aDx h0
   obtain ⟨i,j,h1,h2,h3,h4,_⟩:=gL hh
   have hlt:=(bUg.1 h3).1
   have hlt2:=(bUg.1 h4).1
   have l1:bUk p.2.2.2.1<=68719476736:=h.2.2.2.1.1
   have l2:=xL h h3
   have hd:decide ((j:Int)<((bN p).2.2.2.length:Int) - 1)= !dN p:=by
    have key:decide ((j:Int)<((bN p).2.2.2.length:Int) - 1)= !((j:Int)==((bN p).2.2.2.length:Int) - 1):=by
     rw [bU1]
     simp only [zR,bVf,beq_eq_false_iff_ne,ne_eq]
     omega
    unfold dN
    rw [h2]
    exact key
   simp only [zY,aA,bV0,bUh,zU,h1,h2,aF,h3,nB l2,hd]
   cases cl:dN p
   ·simp only [bUn,zZ,bUh,zU]
    unfold pkR goTo
    rw [show wr ((j:Int)+1)=(j:Int)+1 from wri (by omega) (by omega)]
    simp only [h1]
   ·obtain ⟨i',e1,e2⟩:=aO9 hh h0 cl ca
    have :i'=i:=Int.ofNat.inj (e1.symm.trans h1)
    subst this
    have hw:wr (((i':Nat):Int)+1)=((i'+1:Nat):Int):=(wri (by omega) (by omega)).trans (by omega)
    simp only [bUc,zY,zV]
    unfold pkR goTo
    simp only [hw,aF,e2,aA]
    rw [show ((i'+1:Nat):Int)=(i':Int)+1 by omega]
  ·rfl
 ·rfl

def bef (p:den tPk):Int:=if jC (bN p).1 then aGs p.2.2.2.2.2.2.1 (cV p).2.2.2.2 else p.2.2.2.2.2.2.1

def aft (p:den tPk):Int:=if jC (bN p).1 then aGs p.2.2.2.2.2.2.1 (cV p).2.2.2.2 else aLt p.2.2.2.2.2.2.1 (cV p).2.2.2.2

def aAw (t:den tTo) (p:den tPk):Bool:=cB p&&aBw t (bN p).2.1 (bef p) (cV p)

def bA (t:den tTo) (p:den tPk):den tPk:=if aAw t p then goTo p p.2.2.2.2.1 p.2.2.2.2.2.1 (aft p) else p

def mB (p:den tPk) (b:Bool):q11:=(p.1,p.2.1,p.2.2.1,p.2.2.2.2.1,p.2.2.2.2.2.1,p.2.2.2.2.2.2.1,p.2.2.2.2.2.2.2.1,p.2.2.2.2.2.2.2.2.1,b,p.2.2.2.1,p.2.2.2.2.2.2.2.2.2)

theorem bQ9 {t:den tTo} {p:den tPk} (ht:t.1.length<=68719476736) (h:SmB 68719476736 tPk p):iB t p=some (mB (bA t p) (aAw t p)):=by
 unfold iB bA aAw aI pj2 pj5 zz4 zz5 zz6 zz7 zz8
 simp only [aO,aGg h,bK5 h,aA]
 cases c:cB p
 ·rfl
 ·obtain ⟨i,j,h1,h2,h3,h4,_⟩:=gL c
  simp only [h1,h2,aF,h3,h4,aA,aKq,bE4,bEg,bUc,zY,bU2]
  unfold bef aft
  cases jC (bN p).1
  ·simp only [zY,aA,bGk ht,bUh,zU]
   cases aBw t (bN p).2.1 p.2.2.2.2.2.2.1 (cV p)
   ·simp only [bUn,zZ,bUh,zU];unfold mB pkR;simp only [h1,h2]
   ·simp only [bUc,zY,zV];unfold mB pkR goTo;simp only [h1,h2]
  ·simp only [zZ,aA,bGk ht,zV]
   cases aBw t (bN p).2.1 (aGs p.2.2.2.2.2.2.1 (cV p).2.2.2.2) (cV p)
   ·simp only [bUn,zZ,bUh,zU];unfold mB pkR;simp only [h1,h2]
   ·simp only [bUc,zY,zV];unfold mB pkR goTo;simp only [h1,h2]

theorem aYo {t:den tTo} {ts b:Int} {h:den bZ} (hv:h.1<0):aBw t ts b h=false:=by
 unfold aBw iY
 rw [aYn.2 (fun hh=>absurd hv (Int.not_lt.2 hh.1))]
 rfl

theorem bQg {t:den tTo} {p:den tPk} (ht:t.1.length<=68719476736) (h:SmB 68719476736 tPk p):gY t p=some (mB (bA t p) (aAw t p)):=by
 unfold gY bA aAw aI pj2 pj5 zz4 zz5 zz6 zz7 zz8
 simp only [aO,aB3 h,aAq h,aA]
 cases c:cB p
 ·rw [xI c];rfl
 ·obtain ⟨i,j,h1,h2,h3,h4,h5⟩:=gL c
  rw [h5]
  by_cases hn:(cV p).1<0
  ·rw [zX hn,aYo hn];rfl
  ·simp only [zW hn,zY,h1,h2,aF,h3,h4,aA,aBk,aV4,bFb,bU2,aT9 ht]
   unfold bef aft
   cases jC (bN p).1
   ·simp only [zY,bUh,zU]
    cases aBw t (bN p).2.1 p.2.2.2.2.2.2.1 (cV p)
    ·simp only [bUn,zZ,bUh,zU];unfold mB pkR;simp only [h1,h2]
    ·simp only [bUc,zY,zV];unfold mB pkR goTo;simp only [h1,h2]
   ·simp only [zZ,zV]
    cases aBw t (bN p).2.1 (aGs p.2.2.2.2.2.2.1 (cV p).2.2.2.2) (cV p)
    ·simp only [bUn,zZ,bUh,zU];unfold mB pkR;simp only [h1,h2]
    ·simp only [bUc,zY,zV];unfold mB pkR goTo;simp only [h1,h2]

def yX (p:den tPk) (now:Int):Bool:= !decide (cK p<0)&&(decide ((bN p).2.1<=now)&&decide (now<=(cV p).2.2.2.1))

theorem bHt {p:den tPk} {now:Int} (h:SmB 68719476736 tPk p):gA p now=some (yX p now):=by
 unfold gA yX aI pj5 zz4 zz5
 simp only [aO,aDr h,aA]
 cases c:decide (cK p<0)
 ·have hh:=aDx (p:=p) (by have :=of_decide_eq_false c;omega)
  obtain ⟨i,j,h1,h2,h3,h4,h5⟩:=gL hh
  simp only [zY,h1,h2,aF,h3,h4,aA,sA]
  cases decide ((bN p).2.1<=now)<;>rfl
 ·rfl

theorem bIp {p:den tPk} {now:Int} (h:SmB 68719476736 tPk p):iN p now=some (yX p now):=by
 unfold iN yX aI pj5 zz4 zz5
 simp only [aO,aAq h,aA]
 cases c:decide (cK p<0)
 ·have hh:=aDx (p:=p) (by have :=of_decide_eq_false c;omega)
  obtain ⟨i,j,h1,h2,h3,h4,h5⟩:=gL hh
  simp only [zY,h1,h2,aF,h3,h4,aA,lA]
  cases decide ((bN p).2.1<=now)<;>rfl
 ·rfl

def dF (t:den tTo) (now:Int) (p:den tPk):Int:=if aAw t p then (if yX p now then 0 else 5) else 4

def goC (t:den tTo) (now:Int):Nat→den tPk→Int×den tPk
 | 0,p=>(dF t now p,bA t p)
 | n+1,p=>if dF t now p==0&&(dN (bA t p)&& !fT (bA t p)) then goC t now n (adv (bA t p)) else (dF t now p,bA t p)

theorem yH (t:den tTo) (p:den tPk):tot tPk (bA t p)=tot tPk p:=by
 unfold bA;split<;>rfl

theorem aDo (p:den tPk):tot tPk (adv p)=tot tPk p:=by
 unfold adv;split
 ·rfl
 ·split<;>rfl

theorem aWb (t:den tTo) (p:den tPk) (now:Int):yX (bA t p) now=yX p now:=by
 unfold bA;split<;>rfl

theorem aGm (t:den tTo) (p:den tPk):cB (bA t p)=cB p∧cK (bA t p)=cK p∧cV (bA t p)=cV p∧(bA t p).2.2.2.1=p.2.2.2.1∧(bA t p).2.2.2.2.1=p.2.2.2.2.1:=by
 unfold bA;split<;>exact ⟨rfl,rfl,rfl,rfl,rfl⟩

theorem xT {t:den tTo} {now:Int} {p:den tPk} (h:dF t now p=0):cB p=true∧0<=cK p:=by
 unfold dF at h
 split at h
 ·rename_i hs
  unfold aAw at hs
  rw [bT8] at hs
  refine ⟨hs.1,?_⟩
  obtain ⟨i,j,h1,h2,h3,h4,h5⟩:=gL hs.1
  rw [h5]
  by_cases hn:(cV p).1<0
  ·rw [aYo hn] at hs;cases hs.2
  ·exact Int.not_lt.1 hn
 ·cases h

theorem aTw {p:den tPk} (h0:0<=cK p) (hc:(dN p&& !fT p)=true):(adv p).2.2.2.1=p.2.2.2.1∧(adv p).2.2.2.2.1=p.2.2.2.2.1+1:=by
 rw [bT8] at hc
 have ha:fT p=false:=by simpa using hc.2
 unfold adv
 rw [zW (by omega),ha,hc.1]
 exact ⟨rfl,rfl⟩

theorem aXn {t:den tTo} {now:Int} {S R:Type} (enc:Int→den tPk→S) (out:S→R) {step:S→Option (S⊕R)} (st:den tPk→den tPk) (hst: ∀ p,dF t now p=0→st p=bA t p)
  (hstop: ∀ c p,c≠0→step (enc c p)=some (.inr (out (enc c p))))
  (hgo: ∀ q,tot tPk q<=34359738368→cB q=true→0<=cK q→step (enc 0 q)=some (if dN q&& !fT q then .inl (enc (dF t now (adv q)) (st (adv q))) else .inr (out (enc 0 q)))):
  ∀ (n:Nat) (p:den tPk),tot tPk p<=34359738368→p.2.2.2.1.length - p.2.2.2.2.1.toNat<=n→ ∃ r,aC step (enc (dF t now p) (st p))=some (out (enc (goC t now n p).1 r))∧((goC t now n p).1=0→r=(goC t now n p).2):=by
 intro n
 induction n with
 | zero=>
  intro p hp hm
  by_cases hc:dF t now p=0
  ·obtain ⟨hh,h0⟩:=xT hc
   obtain ⟨i,j,h1,h2,h3,h4,h5⟩:=gL hh
   have hlt:=(bUg.1 h3).1
   rw [h1,bUf] at hm
   exact absurd hlt (by omega)
  ·exact ⟨_,bU (hstop _ _ hc),fun h=>absurd h hc⟩
 | succ n ih=>
  intro p hp hm
  by_cases hc:dF t now p=0
  ·obtain ⟨hh,h0⟩:=xT hc
   obtain ⟨e1,e2,e3,e4,e5⟩:=aGm t p
   have hq:=hgo (bA t p) (by rw [yH];exact hp) (by rw [e1];exact hh) (by rw [e2];exact h0)
   rw [hst p hc]
   cases hb:dN (bA t p)&& !fT (bA t p) with
   | false=>
    rw [hb] at hq
    have hg:goC t now (n+1) p=(dF t now p,bA t p):=by
     show (if _ then _ else _)=_
     rw [hb,bV1];rfl
    rw [hg,hc]
    exact ⟨bA t p,bU hq,fun _=>rfl⟩
   | true=>
    rw [hb,zT rfl] at hq
    have hg:goC t now (n+1) p=goC t now n (adv (bA t p)):=by
     show (if _ then _ else _)=_
     rw [hb,hc];rfl
    rw [hg,hc,eE hq]
    obtain ⟨a1,a2⟩:=aTw (p:=bA t p) (by rw [e2];exact h0) hb
    obtain ⟨i,j,h1,h2,h3,h4,h5⟩:=gL hh
    refine ih (adv (bA t p)) (by rw [aDo,yH];exact hp) ?_
    rw [a1,a2,e4,e5,h1]
    rw [h1,bUf] at hm
    have :((i:Int)+1).toNat=i+1:=by omega
    rw [this]
    omega
  ·have hg:goC t now (n+1) p=(dF t now p,bA t p):=by
    show (if _ then _ else _)=_
    rw [show (dF t now p==0)=false from by simpa using hc];rfl
   rw [hg]
   exact ⟨_,bU (hstop _ _ hc),fun h=>absurd h hc⟩

def aH9 (p:den tPk):Int:=if p.2.2.2.2.1==0&&p.2.2.2.2.2.1==0 then 0 else pIn (bN p) (cV p)


def bP (t:den tTo) (now:Int) (p:den tPk):Int×den tPk:=goC t now (p.2.2.2.1.length - p.2.2.2.2.1.toNat) p


def fwd (t:den tTo) (r now dead inn:Int) (p:den tPk):Int×Int×den tPk×Int:=
 if !gM p||(!wF t p.2.2.2.1|| !(cK p==r)) then (2,0,p,0)
 else if !(inn==aH9 p) then (3,0,p,0)
 else if !((bP t now p).1==0) then ((bP t now p).1,0,p,0)
 else if fT (bP t now p).2 then (if (bP t now p).2.2.2.1==r then (1,0,(bP t now p).2,0) else (2,0,p,0))
 else if !aHb t (r,inn,pEg (bN (bP t now p).2) (cV (bP t now p).2)) then (6,0,p,0)
 else if aG4 dead (pEg (bN (bP t now p).2) (cV (bP t now p).2)) then (7,0,p,pEg (bN (bP t now p).2) (cV (bP t now p).2))
 else (0,pEg (bN (bP t now p).2) (cV (bP t now p).2),adv (bP t now p).2,pEg (bN (bP t now p).2) (cV (bP t now p).2))

def fwI (v:Int×Int×den tPk×Int):Int×Int×q18:=
 (v.1,v.2.1,v.2.2.1.1,v.2.2.1.2.1,v.2.2.1.2.2.1,v.2.2.1.2.2.2.1,v.2.2.1.2.2.2.2.1,v.2.2.1.2.2.2.2.2.1,v.2.2.1.2.2.2.2.2.2.1,v.2.2.1.2.2.2.2.2.2.2.1,v.2.2.1.2.2.2.2.2.2.2.2.1,v.2.2.1.2.2.2.2.2.2.2.2.2,v.2.2.2)

def fwS (v:Int×Int×den tPk×Int):q46:=(v.1,v.2.1,pkR v.2.2.1)

theorem aDk {t:den tTo} {now:Int}: ∀ (n:Nat) (p:den tPk),(goC t now n p).1=0→cB (goC t now n p).2=true∧0<=cK (goC t now n p).2∧tot tPk (goC t now n p).2=tot tPk p
 | 0,p,h=>by
  obtain ⟨h1,h2⟩:=xT (show dF t now p=0 from h)
  obtain ⟨e1,e2,_⟩:=aGm t p
  exact ⟨e1.trans h1,by rw [show (goC t now 0 p).2=bA t p from rfl,e2];exact h2,yH t p⟩
 | n+1,p,h=>by
  unfold goC at h ⊢
  split at h
  ·rename_i hc
   rw [zT hc]
   obtain ⟨h1,h2,h3⟩:=aDk n _ h
   exact ⟨h1,h2,by rw [h3,aDo,yH]⟩
  ·rename_i hc
   rw [zS hc]
   obtain ⟨h1,h2⟩:=xT (show dF t now p=0 from h)
   obtain ⟨e1,e2,_⟩:=aGm t p
   exact ⟨e1.trans h1,by rw [show (dF t now p,bA t p).2=bA t p from rfl,e2];exact h2,yH t p⟩

def wM (t:den tTo) (now:Int) (p:den tPk):den tPk:=if dF t now p=0 then bA t p else p

def aA8 (p:den tPk) (c:Int):q18:=(p.1,p.2.1,p.2.2.1,p.2.2.2.1,p.2.2.2.2.1,p.2.2.2.2.2.1,p.2.2.2.2.2.2.1,p.2.2.2.2.2.2.2.1,p.2.2.2.2.2.2.2.2.1,p.2.2.2.2.2.2.2.2.2,c)

def aB6 (p:den tPk) (c:Int):Int×q3:=(p.1,p.2.1,p.2.2.1,p.2.2.2.2.1,p.2.2.2.2.2.1,p.2.2.2.2.2.2.1,p.2.2.2.2.2.2.2.1,p.2.2.2.2.2.2.2.2.1,c,p.2.2.2.1,p.2.2.2.2.2.2.2.2.2)

theorem bKh {t:den tTo} {now:Int} {p:den tPk} (ht:t.1.length<=68719476736) (h:tot tPk p<=34359738368):jX t now p=some (aA8 (wM t now p) (dF t now p)):=by
 unfold jX aI pj2 aG zz4 zz5 zz6 zz7 zz8 zz9
 simp only [aO,bQ9 ht (fQ h),aA]
 unfold wM dF
 cases c:aAw t p
 ·simp only [mB,bUn,zZ,bUh,zU];rfl
 ·have hs:tot tPk (bA t p)<=34359738368:=by rw [yH];exact h
  have key:gA ((mB (bA t p) true).1,(mB (bA t p) true).2.1,(mB (bA t p) true).2.2.1,(mB (bA t p) true).2.2.2.2.2.2.2.2.2.1,(mB (bA t p) true).2.2.2.1,(mB (bA t p) true).2.2.2.2.1,(mB (bA t p) true).2.2.2.2.2.1,(mB (bA t p) true).2.2.2.2.2.2.1,(mB (bA t p) true).2.2.2.2.2.2.2.1,(mB (bA t p) true).2.2.2.2.2.2.2.2.2.2) now=some (yX p now):=by
   rw [← aWb t p now]
   exact bHt (fQ hs)
  rw [key]
  simp only [mB,bUc,zY,aA,zV]
  cases yX p now
  ·simp only [bUn,zZ,bUh,zU];rfl
  ·simp only [bUc,zY,zV];rfl

theorem bLg {t:den tTo} {now:Int} {p:den tPk} (ht:t.1.length<=68719476736) (h:tot tPk p<=34359738368):mV t now p=some (aB6 (bA t p) (dF t now p)):=by
 unfold mV aI pj2 zz4 zz5 zz6 zz7 zz8 zz9
 simp only [aO,bQg ht (fQ h),bIp (fQ h),aA]
 unfold dF
 cases c:aAw t p
 ·simp only [mB,bUn,zZ,bUh,zU];rfl
 ·simp only [mB,bUc,zY,zV]
  cases yX p now
  ·simp only [bUn,zZ,bUh,zU];rfl
  ·simp only [bUc,zY,zV];rfl

theorem aNc {p:den tPk} (h:gM p=true):cB p=true:=by
 unfold gM at h
 simp only [bT8] at h
 exact h.2.2.1

theorem bLw {c:Int} {p:den tPk} (h:tot tPk p<=34359738368):kE c p=some (c,0,p.1,p.2.1,p.2.2.1,p.2.2.2.2.1,p.2.2.2.2.2.1,p.2.2.2.2.2.2.1,p.2.2.2.2.2.2.2.1,p.2.2.2.2.2.2.2.2.1,p.2.2.2.1,p.2.2.2.2.2.2.2.2.2,p.1,p.2.1,p.2.2.1,p.2.2.2.1,p.2.2.2.2.1,p.2.2.2.2.2.1,p.2.2.2.2.2.2.1,p.2.2.2.2.2.2.2.1,p.2.2.2.2.2.2.2.2.1,p.2.2.2.2.2.2.2.2.2):=by
 unfold kE aI zz4 zz5 zz6 zz7 zz8 zz9
 simp only [aO,aGg (fQ h),aA]
 rfl

theorem bK6 {c:Int} {p:den tPk} (h:tot tPk p<=34359738368):rW c p=some (c,0,pkR p):=by
 unfold rW aI
 simp only [aO,aB3 (fQ h),aA]

theorem aF7 {p:den tPk} {N:Nat} (h:tot tPk p<=N):tot tPt p.2.2.2.1<=N:=(aKl h).1

theorem aY6 {t:den tTo} {r now dead inn:Int} {p:den tPk} (ht:t.1.length<=68719476736) (ht2:t.2.length<=68719476736) (h:tot tPk p<=34359738368) (hpp:tot tPt p.2.2.2.1<=1073741824):qF t r now dead inn p=some (fwI (fwd t r now dead inn p)):=by
 unfold qF fwd aI aL3 pj2 pj4 aG aU zz4 zz5 zz6 zz7 zz8 zz9
 simp only [aO,bJo (fQ h),bFx ht ht2 hpp,aDr (fQ h),aA,aEa,bLw h]
 cases cv:gM p
 ·simp only [bUn,bWf,zZ,aA,zV];rfl
 ·cases cs:wF t p.2.2.2.1
  ·simp only [bUc,bUn,bWf,bWg,zZ,zY,aA,zV];rfl
  ·cases cr:cK p==r
   ·simp only [bUc,bUn,bWf,bWg,zZ,zY,aA,zV];rfl
   ·simp only [bUc,bV0,zY,aA,bUh,zU]
    obtain ⟨i,j,h1,h2,h3,h4,h5⟩:=gL (aNc cv)
    have hl:=xL (fQ h) h3
    have hw:(@Option.bind Bool Int (cond (p.2.2.2.2.1==(0:Int)) (some (p.2.2.2.2.2.1==(0:Int))) (some false)) fun (s8:Bool)=>cond s8 (some (0:Int)) (some (pIn (bN p) (cV p))))=some (aH9 p):=by
     unfold aH9
     cases p.2.2.2.2.1==0<;>cases p.2.2.2.2.2.1==0<;>rfl
    have hp1:idx p.2.2.2.1 p.2.2.2.2.1=some (bN p):=by rw [h1,aF];exact h3
    have hp2:fA (bN p) p.2.2.2.2.2.1=some (pIn (bN p) (cV p)):=by rw [h2];exact bCk h4 hl
    rw [hp1,aA,hp2,aA,hw,aA]
    cases ci:inn==aH9 p
    ·simp only [bUn,zZ,zV,aA];rfl
    ·simp only [bUc,zY,bUh,zU,aGg (fQ h),aA]
     have hc:jX t now ((pkR p).1,(pkR p).2.1,(pkR p).2.2.1,(pkR p).2.2.2.2.2.2.2.2.1,(pkR p).2.2.2.1,(pkR p).2.2.2.2.1,(pkR p).2.2.2.2.2.1,(pkR p).2.2.2.2.2.2.1,(pkR p).2.2.2.2.2.2.2.1,(pkR p).2.2.2.2.2.2.2.2.2)=some (aA8 (wM t now p) (dF t now p)):=bKh ht h
     rw [hc]
     simp only [aA,aP,bD,aW,aV,aX]
     obtain ⟨q,hq1,hq2⟩:=aXn (t:=t) (now:=now) (S:=Int×den tPk) (R:=Int×den tPk) (fun c p=>(c,p)) id (step:=fun s23=> @Option.bind Bool _ (cond (s23.1==(0:Int)) (Option.bind (gH s23.2) fun y24=>cond y24 (Option.bind (jQ s23.2) fun y25=>some (!y25)) (some false)) (some false)) fun (s26:Bool)=>cond s26 (Option.bind (lC s23.2) fun y27=>Option.bind (jX t now (y27.1,y27.2.1,y27.2.2.1,y27.2.2.2.2.2.2.2.2.1,y27.2.2.2.1,y27.2.2.2.2.1,y27.2.2.2.2.2.1,y27.2.2.2.2.2.2.1,y27.2.2.2.2.2.2.2.1,y27.2.2.2.2.2.2.2.2.2)) fun y28=>some (bT5 (y28.2.2.2.2.2.2.2.2.2.2,y28.1,y28.2.1,y28.2.2.1,y28.2.2.2.1,y28.2.2.2.2.1,y28.2.2.2.2.2.1,y28.2.2.2.2.2.2.1,y28.2.2.2.2.2.2.2.1,y28.2.2.2.2.2.2.2.2.1,y28.2.2.2.2.2.2.2.2.2.1))) (some (bT4 s23))) (wM t now) (fun p hp=>zT hp) (fun c p hc=>by
       have :(c==0)=false:=by simpa using hc
       simp only [this,zY,aA,id]) (fun q hq hh h0=>by
       have e:jX t now ((pkR (adv q)).1,(pkR (adv q)).2.1,(pkR (adv q)).2.2.1,(pkR (adv q)).2.2.2.2.2.2.2.2.1,(pkR (adv q)).2.2.2.1,(pkR (adv q)).2.2.2.2.1,(pkR (adv q)).2.2.2.2.2.1,(pkR (adv q)).2.2.2.2.2.2.1,(pkR (adv q)).2.2.2.2.2.2.2.1,(pkR (adv q)).2.2.2.2.2.2.2.2.2)=some (aA8 (wM t now (adv q)) (dF t now (adv q))):=bKh (p:=adv q) ht (by rw [aDo];exact hq)
       simp only [beq_self_eq_true,zZ,aL2 (fQ hq) hh,aLs (fQ hq),bL6 (fQ hq),aA,e]
       cases dN q<;>cases fT q<;>rfl) _ p h (bUo _)
     have hq1:aC _ (dF t now p,wM t now p)=some ((bP t now p).1,q):=hq1
     have hq2:(bP t now p).1=0→q=(bP t now p).2:=hq2
     have e0:(((aA8 (wM t now p) (dF t now p)).2.2.2.2.2.2.2.2.2.2,(aA8 (wM t now p) (dF t now p)).1,(aA8 (wM t now p) (dF t now p)).2.1,(aA8 (wM t now p) (dF t now p)).2.2.1,(aA8 (wM t now p) (dF t now p)).2.2.2.1,(aA8 (wM t now p) (dF t now p)).2.2.2.2.1,(aA8 (wM t now p) (dF t now p)).2.2.2.2.2.1,(aA8 (wM t now p) (dF t now p)).2.2.2.2.2.2.1,(aA8 (wM t now p) (dF t now p)).2.2.2.2.2.2.2.1,(aA8 (wM t now p) (dF t now p)).2.2.2.2.2.2.2.2.1,(aA8 (wM t now p) (dF t now p)).2.2.2.2.2.2.2.2.2.1):Int×den tPk)=(dF t now p,wM t now p):=rfl
     rw [e0,hq1,aA]
     by_cases hz:(bP t now p).1=0
     ·have hqq:=hq2 hz
      subst hqq
      obtain ⟨g1,g2,g3⟩:=aDk _ p hz
      have g1:cB (bP t now p).2=true:=g1
      have g2:0<=cK (bP t now p).2:=g2
      have g3:tot tPk (bP t now p).2=tot tPk p:=g3
      have hg:tot tPk (bP t now p).2<=34359738368:=by rw [g3];exact h
      obtain ⟨i',j',k1,k2,k3,k4,k5⟩:=gL g1
      have hl':=xL (fQ hg) k3
      have q1:idx (bP t now p).2.2.2.2.1 (bP t now p).2.2.2.2.2.1=some (bN (bP t now p).2):=by rw [k1,aF];exact k3
      have q2:fG (bN (bP t now p).2) (bP t now p).2.2.2.2.2.2.1=some (pEg (bN (bP t now p).2) (cV (bP t now p).2)):=by rw [k2];exact bA1 k4 hl'
      simp only [hz,beq_self_eq_true,bUc,zY,bUh,zU,aLs (fQ hg),aA]
      cases ca:fT (bP t now p).2
      ·simp only [zY,bUh,zU,q1,q2,aA,bNy ht2,bNv]
       cases aHb t (r,inn,pEg (bN (bP t now p).2) (cV (bP t now p).2))
       ·simp only [bUn,zZ,zV];rfl
       ·simp only [bUc,zY,bUh,zU]
        cases aG4 dead (pEg (bN (bP t now p).2) (cV (bP t now p).2))
        ·simp only [zY,bUh,zU,bL6 (fQ hg),aA];rfl
        ·simp only [zZ,zV];rfl
      ·simp only [zZ,zV]
       cases (bP t now p).2.2.2.1==r
       ·simp only [bUn,zZ,bUh,zU];rfl
       ·simp only [bUc,zY,zV];rfl
     ·have hz':((bP t now p).1==0)=false:=by simpa using hz
      simp only [hz',bUn,zZ,zV,bLw h,aA];rfl

theorem bCy {t:den tTo} {r now dead inn:Int} {p:den tPk} (ht:t.1.length<=68719476736) (ht2:t.2.length<=68719476736) (h:tot tPk p<=34359738368) (hpp:tot tPt p.2.2.2.1<=1073741824):tM t r now dead inn p=some ((fwd t r now dead inn p).1,(fwd t r now dead inn p).2.1,(fwd t r now dead inn p).2.2.1):=by
 unfold tM aI pj2 aG aU zz4 zz5 zz6 zz7 zz8 zz9
 simp only [aO,aY6 ht ht2 h hpp,aA]
 rfl


def aJg (c:Int) (p:den tPk):Int×q3:=(c,p.1,p.2.1,p.2.2.1,p.2.2.2.2.1,p.2.2.2.2.2.1,p.2.2.2.2.2.2.1,p.2.2.2.2.2.2.2.1,p.2.2.2.2.2.2.2.2.1,p.2.2.2.1,p.2.2.2.2.2.2.2.2.2)

theorem aTc {q:den tPk} (hh:cB q=true) (h0:0<=cK q):(dN q&&decide (q.2.2.2.2.1<(q.2.2.2.1.length:Int) - 1))=(dN q&& !fT q):=by
 obtain ⟨i,j,h1,h2,h3,h4,h5⟩:=gL hh
 have hlt:=(bUg.1 h3).1
 unfold fT aEu
 rw [zX (p:=cK q>=0) h0,h1]
 have key:decide ((i:Int)<(q.2.2.2.1.length:Int) - 1)= !((i:Int)==(q.2.2.2.1.length:Int) - 1):=by
  rw [bU1]
  simp only [zR,bVf,beq_eq_false_iff_ne,ne_eq]
  omega
 rw [key]
 cases dN q<;>simp

theorem bAe {t:den tTo} {r now dead inn:Int} {p:den tPk} (ht:t.1.length<=68719476736) (ht2:t.2.length<=68719476736) (h:tot tPk p<=34359738368) (hpp:tot tPt p.2.2.2.1<=1073741824):lR t r now dead inn p=some (fwS (fwd t r now dead inn p)):=by
 unfold lR fwd ixb aI aL3 uZ pj2 pj4 aG zz4 zz5 zz6 zz7 zz8 zz9
 simp only [aO,aUc (fQ h),aQ7 ht ht2 hpp,aAq (fQ h),aA,aEa,bK6 h]
 cases cv:gM p
 ·simp only [bUn,bWf,zZ,aA,zV];rfl
 ·cases cs:wF t p.2.2.2.1
  ·simp only [bUc,bUn,bWf,bWg,zZ,zY,aA,zV];rfl
  ·cases cr:cK p==r
   ·simp only [bUc,bUn,bWf,bWg,zZ,zY,aA,zV];rfl
   ·simp only [bUc,bV0,zY,aA,bUh,zU]
    obtain ⟨i,j,h1,h2,h3,h4,h5⟩:=gL (aNc cv)
    have hl:=xL (fQ h) h3
    have hw:(@Option.bind Bool Int (cond (p.2.2.2.2.1==(0:Int)) (some (p.2.2.2.2.2.1==(0:Int))) (some false)) fun (s8:Bool)=>cond s8 (some (0:Int)) (some (pIn (bN p) (cV p))))=some (aH9 p):=by
     unfold aH9
     cases p.2.2.2.2.1==0<;>cases p.2.2.2.2.2.1==0<;>rfl
    have hp1:idx p.2.2.2.1 p.2.2.2.2.1=some (bN p):=by rw [h1,aF];exact h3
    have hp2:eO (bN p) p.2.2.2.2.2.1=some (pIn (bN p) (cV p)):=by rw [h2];exact bCq h4 hl
    rw [hp1,aA,hp2,aA,hw,aA]
    cases ci:inn==aH9 p
    ·simp only [bUn,zZ,zV,aA];rfl
    ·simp only [bUc,zY,bUh,zU,bLg ht h,aA]
     obtain ⟨q,hq1,hq2⟩:=aXn (t:=t) (now:=now) aJg id (step:=fun s17=> @Option.bind Bool _ (cond (s17.1==(0:Int)) (cond (decide ((0:Int)<=s17.2.2.2.2.1)) (cond (decide (s17.2.2.2.2.1<(s17.2.2.2.2.2.2.2.2.2.1.length:Int))) (Option.bind s17.2.2.2.2.2.2.2.2.2.1[s17.2.2.2.2.1.toNat]? fun x18=>cond (s17.2.2.2.2.2.1==(wr ((x18.2.2.2.length:Int) - (1:Int)))) (some (decide (s17.2.2.2.2.1<(wr ((s17.2.2.2.2.2.2.2.2.2.1.length:Int) - (1:Int)))))) (some false)) none) none) (some false)) fun (s19:Bool)=>cond s19 (Option.bind (gK (s17.2.1,s17.2.2.1,s17.2.2.2.1,s17.2.2.2.2.2.2.2.2.2.1,s17.2.2.2.2.1,s17.2.2.2.2.2.1,s17.2.2.2.2.2.2.1,s17.2.2.2.2.2.2.2.1,s17.2.2.2.2.2.2.2.2.1,s17.2.2.2.2.2.2.2.2.2.2)) fun y20=>Option.bind (mV t now (y20.1,y20.2.1,y20.2.2.1,y20.2.2.2.2.2.2.2.2.1,y20.2.2.2.1,y20.2.2.2.2.1,y20.2.2.2.2.2.1,y20.2.2.2.2.2.2.1,y20.2.2.2.2.2.2.2.1,y20.2.2.2.2.2.2.2.2.2)) fun y21=>some (bT5 (y21.2.2.2.2.2.2.2.2.1,y21.1,y21.2.1,y21.2.2.1,y21.2.2.2.1,y21.2.2.2.2.1,y21.2.2.2.2.2.1,y21.2.2.2.2.2.2.1,y21.2.2.2.2.2.2.2.1,y21.2.2.2.2.2.2.2.2.2.1,y21.2.2.2.2.2.2.2.2.2.2))) (some (bT4 s17))) (bA t) (fun p hp=>rfl) (fun c p hc=>by
       have :(c==0)=false:=by simpa using hc
       simp only [aJg,this,zY,aA,id]) (fun q hq hh h0=>by
       have e:mV t now ((pkR (adv q)).1,(pkR (adv q)).2.1,(pkR (adv q)).2.2.1,(pkR (adv q)).2.2.2.2.2.2.2.2.1,(pkR (adv q)).2.2.2.1,(pkR (adv q)).2.2.2.2.1,(pkR (adv q)).2.2.2.2.2.1,(pkR (adv q)).2.2.2.2.2.2.1,(pkR (adv q)).2.2.2.2.2.2.2.1,(pkR (adv q)).2.2.2.2.2.2.2.2.2)=some (aB6 (bA t (adv q)) (dF t now (adv q))):=bLg (p:=adv q) ht (by rw [aDo];exact hq)
       obtain ⟨i',j',k1,k2,k3,k4,k5⟩:=gL hh
       have hlt:=(bUg.1 k3).1
       have l1:bUk q.2.2.2.1<=68719476736:=(fQ hq).2.2.2.1.1
       have hm:=aTc hh h0
       simp only [aJg,beq_self_eq_true,zZ,aO,bAd (fQ hq),aA,e]
       rw [← hm]
       have hd:decide ((i':Int)<(q.2.2.2.1.length:Int))=true:=zX (by omega)
       simp only [k1,fS,hd,zZ,bUf,k3,aA,nB (xL (fQ hq) k3),nB l1]
       unfold dN
       cases q.2.2.2.2.2.1==((bN q).2.2.2.length:Int) - 1<;>cases decide ((i':Int)<(q.2.2.2.1.length:Int) - 1)<;>rfl) _ p h (bUo _)
     have hq1:aC _ (aJg (dF t now p) (bA t p))=some (aJg (bP t now p).1 q):=hq1
     have hq2:(bP t now p).1=0→q=(bP t now p).2:=hq2
     have e0:(((aB6 (bA t p) (dF t now p)).2.2.2.2.2.2.2.2.1,(aB6 (bA t p) (dF t now p)).1,(aB6 (bA t p) (dF t now p)).2.1,(aB6 (bA t p) (dF t now p)).2.2.1,(aB6 (bA t p) (dF t now p)).2.2.2.1,(aB6 (bA t p) (dF t now p)).2.2.2.2.1,(aB6 (bA t p) (dF t now p)).2.2.2.2.2.1,(aB6 (bA t p) (dF t now p)).2.2.2.2.2.2.1,(aB6 (bA t p) (dF t now p)).2.2.2.2.2.2.2.1,(aB6 (bA t p) (dF t now p)).2.2.2.2.2.2.2.2.2.1,(aB6 (bA t p) (dF t now p)).2.2.2.2.2.2.2.2.2.2))=aJg (dF t now p) (bA t p):=rfl
     rw [e0,hq1,aA]
     by_cases hz:(bP t now p).1=0
     ·have hqq:=hq2 hz
      subst hqq
      obtain ⟨g1,g2,g3⟩:=aDk _ p hz
      have g1:cB (bP t now p).2=true:=g1
      have g2:0<=cK (bP t now p).2:=g2
      have g3:tot tPk (bP t now p).2=tot tPk p:=g3
      have hg:tot tPk (bP t now p).2<=34359738368:=by rw [g3];exact h
      obtain ⟨i',j',k1,k2,k3,k4,k5⟩:=gL g1
      have hlt:=(bUg.1 k3).1
      have hl':=xL (fQ hg) k3
      have q2:dH (bN (bP t now p).2) (bP t now p).2.2.2.2.2.2.1=some (pEg (bN (bP t now p).2) (cV (bP t now p).2)):=by rw [k2];exact aSn k4 hl'
      simp only [aJg,aO,hz,beq_self_eq_true,bUc,zY,bUh,zU,aTz (fQ hg),aA]
      cases ca:fT (bP t now p).2
      ·simp only [zY,aA,bUh,zU]
       have hd:decide ((i':Int)<((bP t now p).2.2.2.2.1.length:Int))=true:=zX (by omega)
       simp only [k1,fS,hd,zZ,bUf,k3,aA,q2,bMs ht2,bM2]
       cases aHb t (r,inn,pEg (bN (bP t now p).2) (cV (bP t now p).2))
       ·simp only [bUn,zZ,zV];rfl
       ·simp only [bUc,zY,bUh,zU]
        cases aG4 dead (pEg (bN (bP t now p).2) (cV (bP t now p).2))
        ·simp only [zY,bUh,zU,bAd (fQ hg),aA];rfl
        ·simp only [zZ,zV];rfl
      ·simp only [zZ,aA]
       cases (bP t now p).2.2.2.1==r
       ·simp only [zY,zZ,bUh,zU,zV];rfl
       ·simp only [zZ,zV];rfl
     ·have hz':((bP t now p).1==0)=false:=by simpa using hz
      simp only [aJg,hz',bUn,zZ,zV,bK6 h,aA];rfl

theorem aKg (t:den tTo) (r now dead inn:Int) (p:den tPk):tot tPk (fwd t r now dead inn p).2.2.1=tot tPk p:=by
 unfold fwd
 split
 ·rfl
 ·split
  ·rfl
  ·split
   ·rfl
   ·rename_i hz
    have hz:(bP t now p).1=0:=by simpa using hz
    obtain ⟨_,_,g3⟩:=aDk _ p hz
    have g3:tot tPk (bP t now p).2=tot tPk p:=g3
    split
    ·split
     ·exact g3
     ·rfl
    ·split
     ·rfl
     ·split
      ·rfl
      ·show tot tPk (adv (bP t now p).2)=_
       rw [aDo];exact g3

def bL (t:den tTo) (now:Int) (dead:List Int) (r inn:Int) (p:den tPk):Int×Int×den tPk×Int:=fwd t r now (oE t dead r) inn p

abbrev nT (w:den tNw):den tTo:=w.1

abbrev nK (w:den tNw):den tDb:=w.2.1

abbrev nG (w:den tNw):den tSc:=w.2.2.1

abbrev aM (w:den tNw):Int:=w.2.2.2.1

abbrev aJ (w:den tNw):List Int:=w.2.2.2.2.1

abbrev aN (w:den tNw):lFy:=w.2.2.2.2.2.1

abbrev aD (w:den tNw):lFl:=w.2.2.2.2.2.2.1

abbrev bG (w:den tNw):lIb:=w.2.2.2.2.2.2.2.1

abbrev dB (w:den tNw):Int:=w.2.2.2.2.2.2.2.2


def kI (w:den tNw):q38:=
 ((nG w).1,aM w,dB w,(nT w).1,(nT w).2,(nK w).1,(nK w).2,(nG w).2.1,(nG w).2.2,aJ w,aN w,aD w,bG w)

theorem bF7 {l:lRs} (h:l.length<=68719476736):eG l=some l:=by
 unfold eG
 rw [aE (n:=([]:lRs).length) (by decide) (by simpa using h)]
 rfl

theorem bBb {g:den tSc} (h:SmB 68719476736 tSc g):eP g=some g:=by
 unfold eP
 rw [bF7 h.2.1.1,aA,aE (n:=([]:lUs).length) (by decide) (by simpa using h.2.2.1)]
 rfl

theorem bBq {g:den tSc} (h:SmB 68719476736 tSc g):gW g=some g:=by
 unfold gW pj3
 rw [aE (b:=40) (n:=([]:lRs).length) (by decide) (by simpa using h.2.1.1),aE (b:=32) (n:=([]:lUs).length) (by decide) (by simpa using h.2.2.1)]
 simp only [aP,bD,aW,aV,aX,zZ,aA,bUz]

theorem aIs (f:den tFl):(((oU f).1,(oU f).2.1,(oU f).2.2.1,(oU f).2.2.2.1,(oU f).2.2.2.2.2.2.1,(oU f).2.2.2.2.2.2.2.1,(oU f).2.2.2.2.1,(oU f).2.2.2.2.2.1,(oU f).2.2.2.2.2.2.2.2):den tFl)=f:=rfl

theorem aYm (p:den tPk):(((pkR p).1,(pkR p).2.1,(pkR p).2.2.1,(pkR p).2.2.2.2.2.2.2.2.1,(pkR p).2.2.2.1,(pkR p).2.2.2.2.1,(pkR p).2.2.2.2.2.1,(pkR p).2.2.2.2.2.2.1,(pkR p).2.2.2.2.2.2.2.1,(pkR p).2.2.2.2.2.2.2.2.2):den tPk)=p:=rfl

theorem bDe {x:den tFy} (h:SmB 68719476736 tFy x):SmB 68719476736 tPk x.2.2:=h.2.2

theorem aW4 {w:den tNw} (h:SmB 68719476736 tNw w):jP w=some (kI w):=by
 obtain ⟨hT,hK,hG,_,hD,hY,hF,hX,_⟩:=h
 unfold jP nW aI pj2 pj3 pj4 pj9 zz4 zz5 zz6 zz7 zz8 zz9
 simp only [aO,bOl hT,aVl hK.1,aVl hK.2,bBb hG,aX4 hD.1,aA]
 rw [(sK (fun k (a:lFy)=>((k:Int),(nG w).1,aM w,dB w,a)) ((0:Int),(nG w).1,aM w,dB w,[]) [] (aN w) (fun _ x a=>a++[x]) bUk (fun _=>1) 68719476736 (fun a=>((nG w).1,aM w,dB w,a)) rfl (bT7 hY.1 (by decide)) (by rw [eS];simpa using hY.1) (fun k x a hi hx hd hw hk hb=>by
  have e:=bDe (hY.2 x (bUi hx))
  simp only [hd,hi,hw,zZ,aA,aO,aGg e,aYm,aE (b:=128) (n:=a.length) (m:=1) (by decide) hb]
  exact ⟨rfl,by simp⟩) (fun a=>by simp)).1,iS (fun x=>x)]
 simp only [aA]
 rw [(sK (fun k (a:lFl)=>((k:Int),(nG w).1,aM w,dB w,a)) ((0:Int),(nG w).1,aM w,dB w,[]) [] (aD w) (fun _ x a=>a++[x]) bUk (fun _=>1) 68719476736 (fun a=>((nG w).1,aM w,dB w,a)) rfl (bT7 hF.1 (by decide)) (by rw [eS];simpa using hF.1) (fun k x a hi hx hd hw hk hb=>by
  have e:=hF.2 x (bUi hx)
  simp only [hd,hi,hw,zZ,aA,aO,aPw e,aIs,aE (b:=120) (n:=a.length) (m:=1) (by decide) hb]
  exact ⟨rfl,by simp⟩) (fun a=>by simp)).1,iS (fun x=>x)]
 simp only [aA]
 rw [(sK (fun k (a:lIb)=>((k:Int),(nG w).1,aM w,dB w,a)) ((0:Int),(nG w).1,aM w,dB w,[]) [] (bG w) (fun _ x a=>a++[x]) bUk (fun _=>1) 68719476736 (fun a=>((nG w).1,aM w,dB w,a)) rfl (bT7 hX.1 (by decide)) (by rw [eS];simpa using hX.1) (fun k x a hi hx hd hw hk hb=>by
  have e:=hX.2 x (bUi hx)
  simp only [hd,hi,hw,zZ,aA,aO,aYb e,aE (b:=48) (n:=a.length) (m:=1) (by decide) hb]
  simp) (fun a=>by simp)).1,iS (fun x=>x)]
 simp only [aA,bUz,List.map_id']
 rfl

theorem bSs {l:lFy} (h:SmB 68719476736 (.sl tFy) l):sB l=some l:=by
 unfold sB aI zz4 zz5 zz6 zz7 zz8 zz9
 rw [(sK (fun k (a:lFy)=>((k:Int),a)) ((0:Int),[]) [] l (fun _ x a=>a++[x]) bUk (fun _=>1) 68719476736 id rfl (bT7 h.1 (by decide)) (by rw [eS];simpa using h.1) (fun k x a hi hx hd hw hk hb=>by
  have e:=bDe (h.2 x (bUi hx))
  simp only [hd,hi,hw,zZ,aA,aO,aB3 e,aYm,aE (b:=128) (n:=a.length) (m:=1) (by decide) hb]
  exact ⟨rfl,by simp⟩) (fun a=>by simp)).1,iS (fun x=>x)]
 simp

theorem bOe {l:lFl} (h:SmB 68719476736 (.sl tFl) l):mX l=some l:=by
 unfold mX pj9 zz4 zz5 zz6 zz7 zz8
 rw [(sK (fun k (a:lFl)=>((k:Int),a)) ((0:Int),[]) [] l (fun _ x a=>a++[x]) bUk (fun _=>1) 68719476736 id rfl (bT7 h.1 (by decide)) (by rw [eS];simpa using h.1) (fun k x a hi hx hd hw hk hb=>by
  have e:=h.2 x (bUi hx)
  simp only [hd,hi,hw,zZ,aA,aO,aBz e,aIs,aE (b:=120) (n:=a.length) (m:=1) (by decide) hb]
  exact ⟨rfl,by simp⟩) (fun a=>by simp)).1,iS (fun x=>x)]
 simp

theorem bM5 {l:lIb} (h:SmB 68719476736 (.sl tIb) l):mY l=some l:=by
 unfold mY pj4
 rw [(sK (fun k (a:lIb)=>((k:Int),a)) ((0:Int),[]) [] l (fun _ x a=>a++[x]) bUk (fun _=>1) 68719476736 id rfl (bT7 h.1 (by decide)) (by rw [eS];simpa using h.1) (fun k x a hi hx hd hw hk hb=>by
  have e:=h.2 x (bUi hx)
  simp only [hd,hi,hw,zZ,aA,aO,aYd e,aE (b:=48) (n:=a.length) (m:=1) (by decide) hb]
  simp) (fun a=>by simp)).1,iS (fun x=>x)]
 simp

theorem aOs {w:den tNw} (h:SmB 68719476736 tNw w):lZ w=some (kI w):=by
 obtain ⟨hT,hK,hG,_,hD,hY,hF,hX,_⟩:=h
 unfold lZ pj2 pj3 aG zz4 zz5 zz6 zz7 zz8 zz9
 simp only [aO,aXr hT,aBg hK.1,aBg hK.2,bBq hG,bSs hY,bOe hF,bM5 hX,aA,aE (b:=8) (n:=([]:List Int).length) (m:=w.2.2.2.2.1.length) (by decide) (by simpa using hD.1),zZ,aP,bD,aW,aV,aX,bUz]
 rfl


def cI (w:den tNw):q1:=
 (aN w,aD w,bG w,(nT w).1,(nT w).2,(nK w).1,(nK w).2,(nG w).1,(nG w).2.1,(nG w).2.2,aM w,aJ w,dB w)

def eQ (w:den tNw) (l:lFl):den tNw:=(nT w,nK w,nG w,aM w,aJ w,aN w,l,bG w,dB w)

def qB (r:Int) (p:den tPk) (f:den tFl):den tFl:=if f.1==r then (if p.1==2 then tO f p else wQ f p) else f

def uQ (w:den tNw) (r:Int) (p:den tPk):den tNw:=eQ w ((aD w).map (qB r p))

def dE (p:den tPk):Prop:= ∀ x∈p.2.2.2.2.2.2.2.2.2,0<=x∧x<=255


theorem aPn {α S R:Type} (enc:Nat→List α→S) (l:List α) (g:α→α) (out:List α→R) {step:S→Option (S⊕R)} (hl:l.length<=4611686018427387904)
  (h: ∀ (k:Nat) (x:α) (a:List α),a.length=l.length→a[k]? =some x→x∈l→k<l.length→decide ((k:Int)<(l.length:Int))=true→IntKind.i64.wrap ((k:Int)+1)=((k+1:Nat):Int)→step (enc k a)=some (.inl (enc (k+1) (a.set k (g x)))))
  (he: ∀ a,a.length=l.length→step (enc l.length a)=some (.inr (out a))):aC step (enc 0 l)=some (out (l.map g)):=by
 have key: ∀ (rest pre:List α),pre++rest=l→aC step (enc pre.length (pre.map g++rest))=some (out (l.map g)):=by
  intro rest
  induction rest with
  | nil=>
   intro pre hp
   rw [bVg] at hp
   subst hp
   rw [bVg]
   exact bU (he _ (by simp))
  | cons x rest ih=>
   intro pre hp
   have hlt:pre.length<l.length:=by rw [← hp];simp
   have hx:(pre.map g++x::rest)[pre.length]? =some x:=by simp
   have hlen:(pre.map g++x::rest).length=l.length:=by rw [← hp];simp
   rw [eE (h pre.length x _ hlen hx (by rw [← hp];simp) hlt (by simpa using hlt) (by rw [wri (by omega) (by omega)];omega))]
   have hs:(pre.map g++x::rest).set pre.length (g x)=(pre++[x]).map g++rest:=by
    rw [List.set_append_right _ _ (by simp)]
    simp
   rw [hs]
   have :=ih (pre++[x]) (by simpa using hp)
   simpa using this
 exact key l [] rfl

theorem aHq {α:Type} {a:List α} {k:Nat} {x:α} (h:a[k]? =some x):a.set k x=a:=by
 obtain ⟨hlt,hx⟩:=bUg.1 h
 rw [← hx]
 exact List.set_getElem_self hlt

theorem aPx {f:den tFl} (h:tot tFl f<=1073741824):SmB 68719476736 tFl f:=(bF h).mono (by decide)

theorem aJ8 {α:Type} {a:List α} {k n:Nat} (h:a.length=n) (hk:k<n):decide ((k:Int)<(a.length:Int))=true∧decide (k<a.length)=true:=by
 constructor<;>simp<;>omega

theorem aQg {w:den tNw} {r:Int} {p:den tPk} (hF: ∀ f∈aD w,tot tFl f<=1073741824) (hl:(aD w).length<=1073741824) (hp:tot tPk p<=1073741824) (hb:dE p):gJ w r p=some (cI (uQ w r p)):=by
 unfold gJ ixb aI pj9 zz4 zz5 zz6 zz7 zz8
 refine aPn (fun k (a:lFl)=>((k:Int),a)) (aD w) (qB r p) (fun l=>cI (eQ w l)) (bT7 hl (by decide)) (fun k f a ha hx hm hk hd hw=> ?_) (fun a ha=> ?_)
 ·obtain ⟨d1,d2⟩:=aJ8 ha hk
  have hd:decide ((k:Int)<(w.2.2.2.2.2.2.1.length:Int))=true:=hd
  simp only [hd,d1,d2,fS,bUf,hx,zZ,aA,aO,aEa,bNa (aPx (hF f hm)),bOj (hF f hm) hp hb,aIs,hw]
  unfold qB
  cases f.1==r
  ·simp only [bUn,zZ,bUh,zU,aA,aHq hx]
  ·simp only [bUc,zY,zV]
   cases p.1==2<;>rfl
 ·simp;rfl

theorem aPm {w:den tNw} {r:Int} {p:den tPk} (hk3:(p.1==2)=false) (hF: ∀ f∈aD w,tot tFl f<=1073741824) (hl:(aD w).length<=1073741824) (hp:tot tPk p<=1073741824) (hb:dE p):lS w r p=some (cI (uQ w r p)):=by
 unfold lS ixb aI pj9 zz4 zz5 zz6 zz7 zz8
 refine aPn (fun k (a:lFl)=>((k:Int),a)) (aD w) (qB r p) (fun l=>cI (eQ w l)) (bT7 hl (by decide)) (fun k f a ha hx hm hk hd hw=> ?_) (fun a ha=> ?_)
 ·obtain ⟨d1,d2⟩:=aJ8 ha hk
  simp only [d1,d2,fS,bUf,hx,zZ,aA,aO,bOm (hF f hm) hp hb,aP,bD,aW,aV,aX,hw]
  unfold qB
  rw [hk3]
  cases f.1==r
  ·simp only [zY,bUh,zU,aA,aHq hx]
  ·simp only [zZ,zV,aA,bUh,zU]
   rfl
 ·show cond (decide ((((aD w).length:Nat):Int)<(a.length:Int))) _ _=_
  rw [ha,zW (by omega)]
  rfl

theorem bDg {w:den tNw} {r:Int} {p:den tPk} (hk2:(p.1==2)=true) (hF: ∀ f∈aD w,tot tFl f<=1073741824) (hl:(aD w).length<=1073741824) {step:Int×lFl→Option ((Int×lFl)⊕_)}
  (hs: ∀ (k:Nat) (f:den tFl) (a:lFl),a.length=(aD w).length→a[k]? =some f→f∈aD w→k<(aD w).length→step ((k:Int),a)=some (.inl (((k+1:Nat):Int),a.set k (qB r p f)))) (he: ∀ a,a.length=(aD w).length→step (((aD w).length:Int),a)=some (.inr (cI (eQ w a)))):aC step ((0:Int),aD w)=some (cI (uQ w r p)):=
 aPn (fun k (a:lFl)=>((k:Int),a)) (aD w) (qB r p) (fun l=>cI (eQ w l)) (bT7 hl (by decide)) (fun k f a ha hx hm hk hd hw=>hs k f a ha hx hm hk) (fun a ha=>he a ha)

theorem aIi (p:den tPk):goTo p p.2.2.2.2.1 p.2.2.2.2.2.1 p.2.2.2.2.2.2.1=p:=rfl

theorem aF2 (t:den tTo) (p:den tPk): ∃ b,bA t p=goTo p p.2.2.2.2.1 p.2.2.2.2.2.1 b:=by
 unfold bA
 split
 ·exact ⟨_,rfl⟩
 ·exact ⟨_,(aIi p).symm⟩

theorem aTx (p:den tPk): ∃ i j b,adv p=goTo p i j b:=by
 unfold adv
 split
 ·exact ⟨_,_,_,(aIi p).symm⟩
 ·split<;>exact ⟨_,_,_,rfl⟩

theorem aUf {t:den tTo} {now:Int}: ∀ (n:Nat) (p:den tPk),∃ i j b,(goC t now n p).2=goTo p i j b
 | 0,p=>by obtain ⟨b,hb⟩:=aF2 t p;exact ⟨_,_,_,hb⟩
 | n+1,p=>by
  obtain ⟨b,hb⟩:=aF2 t p
  unfold goC
  split
  ·obtain ⟨i,j,c,h1⟩:=aUf (t:=t) (now:=now) n (adv (bA t p))
   obtain ⟨i',j',c',h2⟩:=aTx (bA t p)
   rw [h1,h2,hb]
   exact ⟨_,_,_,rfl⟩
  ·exact ⟨_,_,_,hb⟩

theorem aHg (t:den tTo) (r now dead inn:Int) (p:den tPk): ∃ i j b,(fwd t r now dead inn p).2.2.1=goTo p i j b:=by
 obtain ⟨i,j,b,h⟩: ∃ i j b,(bP t now p).2=goTo p i j b:=aUf _ p
 unfold fwd
 repeat' split
 all_goals first
  | exact ⟨_,_,_,(aIi p).symm⟩
  | exact ⟨_,_,_,h⟩
  | (obtain ⟨i',j',b',h'⟩:=aTx (bP t now p).2;exact ⟨_,_,_,by rw [show (0,pEg (bN (bP t now p).2) (cV (bP t now p).2),adv (bP t now p).2,pEg (bN (bP t now p).2) (cV (bP t now p).2)).2.2.1=adv (bP t now p).2 from rfl,h',h];rfl⟩)


theorem aCv (t:den tTo) (r now dead inn:Int) (p:den tPk):(fwd t r now dead inn p).2.2.1.1=p.1∧(fwd t r now dead inn p).2.2.1.2.1=p.2.1∧(fwd t r now dead inn p).2.2.1.2.2.2.2.2.2.2.1=p.2.2.2.2.2.2.2.1∧(fwd t r now dead inn p).2.2.1.2.2.2.2.2.2.2.2.2=p.2.2.2.2.2.2.2.2.2:=by
 obtain ⟨i,j,b,h⟩:=aHg t r now dead inn p
 rw [h]
 exact ⟨rfl,rfl,rfl,rfl⟩

theorem aIm {t:den tTo} {r now dead inn:Int} {p:den tPk} (h:((fwd t r now dead inn p).1==2)=false):gM p=true:=by
 cases hv:gM p with
 | true=>rfl
 | false=>
  unfold fwd at h
  rw [hv] at h
  cases h

def vW (w:den tNw):den tNw:=(nT w,nK w,nG w,aM w,aJ w,aN w,aD w,bG w,wr (dB w+1))

def lM (w:den tNw) (r eg:Int) (p:den tPk):den tNw:=
 if (jJ (nG w) p.2.2.2.2.2.2.2.1 r eg (aM w)).2.1&&decide ((aN w).length<150) then
  (nT w,nK w,((jJ (nG w) p.2.2.2.2.2.2.2.1 r eg (aM w)).1,(jJ (nG w) p.2.2.2.2.2.2.2.1 r eg (aM w)).2.2.1,(jJ (nG w) p.2.2.2.2.2.2.2.1 r eg (aM w)).2.2.2),aM w,aJ w,aN w++[((remote (nT w) r eg).1,(remote (nT w) r eg).2,p)],aD w,bG w,dB w)
 else vW w


structure zD (w:den tNw):Prop where
 as:(nT w).1.length<=68719476736
 links:(nT w).2.length<=1073741824
 dead:(aJ w).length<=68719476736
 res:(nG w).2.1.length<=1073741824
 use:(nG w).2.2.length<=1073741824
 flowsN:(aD w).length<=1073741824
 flows: ∀ f∈aD w,tot tFl f<=1073741824

theorem aW0 {w:den tNw} {r:Int} {v:den aUv} (h:zD w):kB w r v=some (cI (lM w r v.2.1 v.2.2)):=by
 unfold kB lM aI pj2 pj3 zz4 zz5 zz6 zz7 zz8 zz9
 simp only [aO,bNs h.res h.use,aA,aP,bD,aW,aV,aX]
 have key: ∀ n:Nat,decide ((n:Int)>=150)= !decide (n<150):=fun n=>by rw [bU1];simp only [zR,bVf,decide_eq_false_iff_not];omega
 have h150:decide ((w.2.2.2.2.2.1.length:Int)>=150)= !decide ((aN w).length<150):=key _
 rw [h150]
 cases ct:(jJ (nG w) v.2.2.2.2.2.2.2.2.2.1 r v.2.1 (aM w)).2.1
 ·simp only [bUn,zZ,aA,bVb,bUh,zU]
  rfl
 ·by_cases hl:(aN w).length<150
  ·rw [zX hl]
   simp only [bUc,zY,aA,bWh,zV,aLr (t:=w.1) (bT7 h.links (by decide)),aE (b:=128) (n:=w.2.2.2.2.2.1.length) (m:=1) (by decide) (show (aN w).length+1<=_ by omega),zZ]
   rfl
  ·rw [zW hl]
   simp only [bUc,bUn,zZ,zY,aA,bV1,bUh,zU]
   rfl

def proc0 (w:den tNw) (r inn:Int) (p:den tPk):den tNw:=
 if (bL (nT w) (aM w) (aJ w) r inn p).1==0 then lM w r (bL (nT w) (aM w) (aJ w) r inn p).2.1 (bL (nT w) (aM w) (aJ w) r inn p).2.2.1
 else if (bL (nT w) (aM w) (aJ w) r inn p).1==1 then uQ w r (bL (nT w) (aM w) (aJ w) r inn p).2.2.1
 else vW w


structure zJ (p:den tPk):Prop where
 sz:tot tPk p<=1073741824
 by_:dE p

theorem zJ.step {p:den tPk} (h:zJ p) (t:den tTo) (now:Int) (dead:List Int) (r inn:Int):zJ (bL t now dead r inn p).2.2.1 where
 sz:=by unfold bL;rw [aKg];exact h.sz
 by_:=fun x hx=>h.by_ x (by unfold bL at hx;rwa [(aCv t r now _ inn p).2.2.2] at hx)

theorem aPh {w:den tNw} {r inn:Int} {p:den tPk} (h:zD w) (hp:zJ p) (hk:(p.1==1)=false):dW w r inn p=some (cI (proc0 w r inn p)):=by
 have hp2:tot tPt p.2.2.2.1<=1073741824:=aF7 hp.sz
 have hs:=hp.step (nT w) (aM w) (aJ w) r inn
 unfold dW cS.b ixb aI nP pj2 pj3 pj4 fZ aG aU bC zz4 zz5 zz6 zz7 zz8 zz9
 simp only [aO,aQb h.links h.dead,aY6 h.as (bT7 h.links (by decide)) (bT7 hp.sz (by decide)) hp2,aA,aP,bD,aW,aV,aX,hk]
 rw [show fwd w.1 r w.2.2.2.1 (oE w.1 w.2.2.2.2.1 r) inn p=bL (nT w) (aM w) (aJ w) r inn p from rfl]
 unfold proc0
 generalize bL (nT w) (aM w) (aJ w) r inn p=v at hs
 simp only [fwI,aO]
 cases c0:v.1==0
 ·cases c1:v.1==1
  ·cases v.1==7
   ·simp only [zY,aA,bUh,zU];rfl
   ·simp only [zZ,zY,aA,bUh,zU];rfl
  ·simp only [zZ,zY,aA,bUh,zU,zV,aQg h.flows h.flowsN hs.sz hs.by_]
 ·simp only [zZ,zV,aW0 h,aA]

theorem aT0: ∀ (k n:Nat),n<128 ^ (k+1)→ ∀ x∈vi k n,0<=x∧x<=255
 | 0,n,h,x,hx=>by
  have :x=(n:Int):=by simpa [vi] using hx
  subst this
  have :128 ^ (0+1)=128:=rfl
  omega
 | k+1,n,h,x,hx=>by
  unfold vi at hx
  split at hx
  ·have :x=(n:Int):=by simpa using hx
   subst this
   omega
  ·rcases List.mem_cons.1 hx with rfl | hx
   ·omega
   ·refine aT0 k (n / 128) ?_ x hx
    rw [Nat.div_lt_iff_lt_mul (by decide)]
    rwa [← Nat.pow_succ]

def qN (l:List Int):Prop:= ∀ x∈l,0<=x∧x<=255

theorem bAo {b:List Int} {n:Int} (h:qN b):qN (zM b n):=by
 unfold zM
 split
 ·rename_i hr
  have :=bS.1 hr
  intro x hx
  rcases bUe.1 hx with hx | hx
  ·exact h x hx
  ·exact aT0 5 n.toNat (by have :128 ^ (5+1)=4398046511104:=rfl;omega) x hx
 ·exact h

theorem aOj: ∀ (l b:List Int),qN b→qN (aH7 b l)
 | [],b,h=>h
 | x::xs,b,h=>aOj xs (zM b x) (bAo h)

theorem aM6 (x:den tRv):qN (aD2 x):=by
 unfold aD2
 split
 ·exact aOj _ _ (fun x hx=>by cases hx)
 ·exact fun x hx=>by cases hx

theorem aYu {r now d:Int} {p:den tPk} (h:tot tPk p<=536870912):zJ (bQ r now d p) where
 sz:=by have :=aJm r now d p;omega
 by_:=aM6 _

theorem aOk {x:den tIb} {p:den tPk} (h:zJ p):zJ (mZ x p) where
 sz:=bT7 (aQw x p) h.sz
 by_:=by
  unfold mZ
  split
  ·exact fun x hx=>by cases hx
  ·exact fun x hx=>by cases hx

theorem bNn {l:lIb} {a b:Int} (h:l.length<=68719476736):oP l a b=some (lK l a b):=by
 unfold oP lK
 rw [cA (l:=l) (fun k x=>if uX a b x then some (k:Int) else none) (by omega) (fun k x hi hd hw hm hk=>by
  simp only [hd,hi,hw,zZ,aA]
  unfold uX
  cases x.1==a<;>cases x.2.1==b<;>rfl) (by simp),aJv (uX a b)]
 cases l.findIdx? (uX a b)<;>rfl

theorem aGn (l:lIb) (a b:Int):lK l a b= -1∨ ∃ (k:Nat) (x:den tIb),lK l a b=(k:Int)∧l[k]? =some x:=by
 unfold lK
 cases h:l.findIdx? (uX a b) with
 | none=>exact .inl rfl
 | some i=>
  have hlt:i<l.length:=by
   have :=List.findIdx?_eq_some_iff_findIdx_eq.1 h
   exact this.1
  exact .inr ⟨i,l[i],by simp,bT6 hlt⟩

def qM (w:den tNw) (i:Nat) (x:den tIb):den tNw:=(nT w,nK w,nG w,aM w,aJ w,aN w,aD w,(bG w).set i x,dB w)

def wP (w:den tNw) (i:Nat):den tIb:=((bG w)[i]?).getD (0,0,0,[])


def xV (w:den tNw) (r:Int) (p:den tPk):den tNw:=
 if lK (bG w) r p.2.1<0 then w
 else if aA6 (eA (wP w (lK (bG w) r p.2.1).toNat) p) p then
  proc0 (qM w (lK (bG w) r p.2.1).toNat (eA (wP w (lK (bG w) r p.2.1).toNat) p)) r 0 (mZ (eA (wP w (lK (bG w) r p.2.1).toNat) p) p)
 else qM w (lK (bG w) r p.2.1).toNat (eA (wP w (lK (bG w) r p.2.1).toNat) p)

def aAs (w:den tNw) (r d:Int) (p:den tPk):den tNw:=
 vW (if (gO (kT p)).length>1 then proc0 w r 0 (bQ r (aM w) d p) else uQ w r (bQ r (aM w) d p))

def bX (w:den tNw) (r inn:Int) (p:den tPk):den tNw:=
 if (bL (nT w) (aM w) (aJ w) r inn p).1==0 then lM w r (bL (nT w) (aM w) (aJ w) r inn p).2.1 (bL (nT w) (aM w) (aJ w) r inn p).2.2.1
 else if (bL (nT w) (aM w) (aJ w) r inn p).1==1 then
  (if p.1==1 then xV w r (bL (nT w) (aM w) (aJ w) r inn p).2.2.1 else uQ w r (bL (nT w) (aM w) (aJ w) r inn p).2.2.1)
 else if (bL (nT w) (aM w) (aJ w) r inn p).1==7&&p.1==1 then aAs w r (bL (nT w) (aM w) (aJ w) r inn p).2.2.2 p
 else vW w

theorem aE2 {w:den tNw} (h:zD w) {i:Nat} {x:den tIb}:zD (qM w i x):=⟨h.as,h.links,h.dead,h.res,h.use,h.flowsN,h.flows⟩

theorem aMy {x:den tIb} {p:den tPk} (h:aA6 x p=true):((mZ x p).1==1)=false:=by
 unfold mZ
 rw [h]
 rfl

theorem bNm {w:den tNw} {r inn:Int} {p:den tPk} (h:zD w) (hbn:(bG w).length<=68719476736) (hbx: ∀ x∈bG w,tot tIb x<=1073741824) (hz:tot tPk p<=536870912) (hb:dE p):cS w r inn p=some (cI (bX w r inn p)):=by
 have hp:zJ p:=⟨by omega,hb⟩
 have hp2:tot tPt p.2.2.2.1<=1073741824:=aF7 hp.sz
 have hs:=hp.step (nT w) (aM w) (aJ w) r inn
 have hkeep:=aCv w.1 r w.2.2.2.1 (oE w.1 w.2.2.2.2.1 r) inn p
 unfold cS cS.b ixb aI nP pj2 pj3 pj4 fZ aG aU bC zz4 zz5 zz6 zz7 zz8 zz9
 simp only [aO,aQb h.links h.dead,aY6 h.as (bT7 h.links (by decide)) (bT7 hp.sz (by decide)) hp2,aA,aP,bD,aW,aV,aX]
 rw [show fwd w.1 r w.2.2.2.1 (oE w.1 w.2.2.2.2.1 r) inn p=bL (nT w) (aM w) (aJ w) r inn p from rfl] at hkeep ⊢
 unfold bX
 generalize bL (nT w) (aM w) (aJ w) r inn p=v at hs hkeep
 simp only [fwI,aO]
 cases c0:v.1==0
 ·cases c1:v.1==1
  ·cases c7:v.1==7
   ·simp only [zY,aA,bUh,zU,bVb];rfl
   ·cases ck:p.1==1
    ·simp only [zZ,zY,aA,bUh,zU,bV1];rfl
    ·have hn:zJ (bQ r (aM w) v.2.2.2 p):=aYu hz
     have ht1:tot tPt (kT p)<=34359738368:=bT7 (xU p) (bT7 hp2 (by decide))
     have hlen:decide (((gO (kT p)).length:Int)>1)=decide ((gO (kT p)).length>1):=by rw [bU1];simp only [zR,gt_iff_lt];omega
     have e1:dW w r 0 ((pkR (bQ r w.2.2.2.1 v.2.2.2 p)).1,(pkR (bQ r w.2.2.2.1 v.2.2.2 p)).2.1,(pkR (bQ r w.2.2.2.1 v.2.2.2 p)).2.2.1,(pkR (bQ r w.2.2.2.1 v.2.2.2 p)).2.2.2.2.2.2.2.2.1,(pkR (bQ r w.2.2.2.1 v.2.2.2 p)).2.2.2.1,(pkR (bQ r w.2.2.2.1 v.2.2.2 p)).2.2.2.2.1,(pkR (bQ r w.2.2.2.1 v.2.2.2 p)).2.2.2.2.2.1,(pkR (bQ r w.2.2.2.1 v.2.2.2 p)).2.2.2.2.2.2.1,(pkR (bQ r w.2.2.2.1 v.2.2.2 p)).2.2.2.2.2.2.2.1,(pkR (bQ r w.2.2.2.1 v.2.2.2 p)).2.2.2.2.2.2.2.2.2)=some (cI (proc0 w r 0 (bQ r (aM w) v.2.2.2 p))):=aPh h hn rfl
     have e2:gJ w r ((pkR (bQ r w.2.2.2.1 v.2.2.2 p)).1,(pkR (bQ r w.2.2.2.1 v.2.2.2 p)).2.1,(pkR (bQ r w.2.2.2.1 v.2.2.2 p)).2.2.1,(pkR (bQ r w.2.2.2.1 v.2.2.2 p)).2.2.2.2.2.2.2.2.1,(pkR (bQ r w.2.2.2.1 v.2.2.2 p)).2.2.2.1,(pkR (bQ r w.2.2.2.1 v.2.2.2 p)).2.2.2.2.1,(pkR (bQ r w.2.2.2.1 v.2.2.2 p)).2.2.2.2.2.1,(pkR (bQ r w.2.2.2.1 v.2.2.2 p)).2.2.2.2.2.2.1,(pkR (bQ r w.2.2.2.1 v.2.2.2 p)).2.2.2.2.2.2.2.1,(pkR (bQ r w.2.2.2.1 v.2.2.2 p)).2.2.2.2.2.2.2.2.2)=some (cI (uQ w r (bQ r (aM w) v.2.2.2 p))):=aQg h.flows h.flowsN hn.sz hn.by_
     simp only [zZ,zY,aA,bUh,zU,bWh,zV,aYs (t:=w.1) (r:=r) (now:=w.2.2.2.1) (d:=v.2.2.2) (bT7 hp.sz (by decide)),aL6 (fQ (p:=p) (by omega)),aP,bD,aW,aV,aX]
     unfold pQ
     simp only [aPy ht1,aA,hlen,e1,e2]
     unfold aAs
     cases hd:decide ((gO (kT p)).length>1)
     ·rw [zS (of_decide_eq_false hd)];rfl
     ·rw [zT (of_decide_eq_true hd)];rfl
  ·cases ck:p.1==1
   ·simp only [zZ,zY,aA,bUh,zU,zV,aQg h.flows h.flowsN hs.sz hs.by_]
   ·simp only [zZ,zY,aA,bUh,zU,zV,bNn hbn]
    unfold xV
    rw [hkeep.2.1]
    rcases aGn (bG w) r p.2.1 with hf | ⟨k,x,hf,hx⟩
    ·rw [show lK w.2.2.2.2.2.2.2.1 r p.2.1= -1 from hf]
     rfl
    ·have hlt:=(bUg.1 hx).1
     have hx0:w.2.2.2.2.2.2.2.1[k]? =some x:=hx
     have hxm:=hbx x (bUi hx)
     have hxs:SmB 4294967296 tIb x:=(bF hxm).mono (by decide)
     have hvs:SmB 4294967296 tPk v.2.2.1:=(bF hs.sz).mono (by decide)
     have hd1:decide ((k:Int)<(w.2.2.2.2.2.2.2.1.length:Int))=true:=zX (by have :k<w.2.2.2.2.2.2.2.1.length:=hlt;omega)
     have hd2:decide (k<w.2.2.2.2.2.2.2.1.length)=true:=zX hlt
     have hset:(w.2.2.2.2.2.2.2.1.set k (eA x v.2.2.1))[k]? =some (eA x v.2.2.1):=List.getElem?_set_self hlt
     have hba:wP w k=x:=by unfold wP;rw [hx];rfl
     rw [show lK w.2.2.2.2.2.2.2.1 r p.2.1=(k:Int) from hf,zW (show ¬ (k:Int)<0 by omega),zS (show ¬ (k:Int)<0 by omega),bUf,hba]
     have e1:dW (w.1,w.2.1,w.2.2.1,w.2.2.2.1,w.2.2.2.2.1,w.2.2.2.2.2.1,w.2.2.2.2.2.2.1,w.2.2.2.2.2.2.2.1.set k (eA x v.2.2.1),w.2.2.2.2.2.2.2.2) r 0 (mZ (eA x v.2.2.1) v.2.2.1)=some (cI (proc0 (qM w k (eA x v.2.2.1)) r 0 (mZ (eA x v.2.2.1) v.2.2.1))):=by
      cases ca:aA6 (eA x v.2.2.1) v.2.2.1 with
      | true=>exact aPh (aE2 h) (aOk hs) (aMy ca)
      | false=>exact aPh (aE2 h) (aOk hs) (by unfold mZ;rw [ca];rfl)
     simp only [zY,fS,hd1,hd2,zZ,hx0,aA,bMo hxs hvs,bVu,hset,bMk (x:=eA x v.2.2.1) (p:=v.2.2.1) (bT7 (aF7 hs.sz) (by decide)),aP,bD,aW,aV,aX,pkB,aO,e1]
     cases aA6 (eA x v.2.2.1) v.2.2.1<;>rfl
 ·simp only [zZ,zV,aW0 h,aA]

def yD (p q:den tPk):Prop:=p.2.2.2.1=q.2.2.2.1∧p.2.2.2.2.1=q.2.2.2.2.1∧p.2.2.2.2.2.1=q.2.2.2.2.2.1

theorem yD.cur {p q:den tPk} (h:yD p q):cB p=cB q∧cK p=cK q∧bN p=bN q∧cV p=cV q∧dN p=dN q∧fT p=fT q:=by
 obtain ⟨h1,h2,h3⟩:=h
 have a1:cB p=cB q:=by unfold cB;rw [h1,h2,h3]
 have a2:cK p=cK q:=by unfold cK;rw [a1,h1,h2,h3]
 have a3:bN p=bN q:=by unfold bN;rw [h1,h2]
 have a4:cV p=cV q:=by unfold cV;rw [a3,h3]
 have a5:dN p=dN q:=by unfold dN;rw [a3,h3]
 exact ⟨a1,a2,a3,a4,a5,by unfold fT aEu;rw [a2,a5,h1,h2]⟩

theorem yD.adv {p q:den tPk} (h:yD p q):yD (adv p) (adv q):=by
 obtain ⟨a1,a2,a3,a4,a5,a6⟩:=h.cur
 obtain ⟨h1,h2,h3⟩:=id h
 unfold Go.Proofs.YtecighmpdcffcaaGreat.adv
 rw [a2,a5,a6]
 split
 ·exact h
 ·split
  ·exact ⟨h1,by show p.2.2.2.2.1+1=q.2.2.2.2.1+1;rw [h2],rfl⟩
  ·exact ⟨h1,h2,by show p.2.2.2.2.2.1+1=q.2.2.2.2.2.1+1;rw [h3]⟩

theorem rJ (t:den tTo) (p:den tPk):yD (bA t p) p:=by
 obtain ⟨b,hb⟩:=aF2 t p
 rw [hb]
 exact ⟨rfl,rfl,rfl⟩

theorem yD.trans {p q r:den tPk} (h:yD p q) (k:yD q r):yD p r:=⟨h.1.trans k.1,h.2.1.trans k.2.1,h.2.2.trans k.2.2⟩

theorem aJ2 {t:den tTo} {now:Int} {n:Nat} {p:den tPk} (h:(goC t now n p).1=0):dF t now p=0:=by
 cases n with
 | zero=>exact h
 | succ n=>
  unfold goC at h
  split at h
  ·rename_i hc
   rw [bT8] at hc
   simpa using hc.1
  ·exact h

theorem bF8 {t:den tTo} {now:Int} {step:den tPk→Option (den tPk⊕den tPk)}
  (H: ∀ q,tot tPk q<=34359738368→cB q=true→step q=some (if dN q&&decide (q.2.2.2.2.1<(q.2.2.2.1.length:Int) - 1) then .inl (adv q) else .inr q)):
  ∀ (n:Nat) (p q:den tPk),yD p q→tot tPk q<=34359738368→(goC t now n p).1=0→p.2.2.2.1.length - p.2.2.2.2.1.toNat<=n→ ∃ r,aC step q=some r∧yD (goC t now n p).2 r∧tot tPk r<=34359738368:=by
 intro n
 induction n with
 | zero=>
  intro p q hs hq hc hm
  obtain ⟨hh,h0⟩:=xT (aJ2 hc)
  obtain ⟨i,j,h1,h2,h3,h4,h5⟩:=gL hh
  have hlt:=(bUg.1 h3).1
  rw [h1,bUf] at hm
  exact absurd hlt (by omega)
 | succ n ih=>
  intro p q hs hq hc hm
  have hz:=aJ2 hc
  obtain ⟨hh,h0⟩:=xT hz
  obtain ⟨a1,a2,a3,a4,a5,a6⟩:=hs.cur
  obtain ⟨b1,b2,b3,b4,b5,b6⟩:=(rJ t p).cur
  have hstep:=H q hq (a1▸hh)
  rw [aTc (a1▸hh) (a2▸h0)] at hstep
  cases hb:dN q&& !fT q with
  | false=>
   rw [hb] at hstep
   have hg:goC t now (n+1) p=(dF t now p,bA t p):=by
    show (if _ then _ else _)=_
    rw [b5,b6,a5,a6,hb,bV1];rfl
   rw [hg]
   exact ⟨q,bU hstep,(rJ t p).trans hs,hq⟩
  | true=>
   rw [hb,zT rfl] at hstep
   have hg:goC t now (n+1) p=goC t now n (adv (bA t p)):=by
    show (if _ then _ else _)=_
    rw [b5,b6,a5,a6,hb,hz];rfl
   rw [hg] at hc ⊢
   rw [eE hstep]
   obtain ⟨e1,e2⟩:=aTw (p:=bA t p) (by rw [b2];exact h0) (by rw [b5,b6,a5,a6];exact hb)
   obtain ⟨i,j,h1,h2,h3,h4,h5⟩:=gL hh
   refine ih _ _ ((rJ t p).trans hs).adv (by rw [aDo];exact hq) hc ?_
   rw [e1,e2,(rJ t p).1,(rJ t p).2.1,h1]
   rw [h1,bUf] at hm
   have :((i:Int)+1).toNat=i+1:=by omega
   rw [this]
   omega

def aYz (t:den tTo) (now:Int) (p:den tPk):Int:=pEg (bN (bP t now p).2) (cV (bP t now p).2)

theorem bQn {t:den tTo} {now:Int} {p:den tPk} (h:tot tPk p<=34359738368) (hz:(bP t now p).1=0):rM p=some (aYz t now p):=by
 unfold rM aI pj4 zz4 zz5 zz6 zz7 zz8 zz9
 obtain ⟨r,hr,hs,ht⟩:=bF8 (t:=t) (now:=now) (step:=fun s5=> @Option.bind Bool _ (Option.bind (idx s5.2.2.2.1 s5.2.2.2.2.1) fun x6=>cond (s5.2.2.2.2.2.1==(wr ((x6.2.2.2.length:Int) - (1:Int)))) (some (decide (s5.2.2.2.2.1<(wr ((s5.2.2.2.1.length:Int) - (1:Int)))))) (some false)) fun (s7:Bool)=>cond s7 (Option.bind (gK (s5.1,s5.2.1,s5.2.2.1,s5.2.2.2.1,s5.2.2.2.2.1,s5.2.2.2.2.2.1,s5.2.2.2.2.2.2.1,s5.2.2.2.2.2.2.2.1,s5.2.2.2.2.2.2.2.2.1,s5.2.2.2.2.2.2.2.2.2)) fun y8=>some (bT5 (y8.1,y8.2.1,y8.2.2.1,y8.2.2.2.2.2.2.2.2.1,y8.2.2.2.1,y8.2.2.2.2.1,y8.2.2.2.2.2.1,y8.2.2.2.2.2.2.1,y8.2.2.2.2.2.2.2.1,y8.2.2.2.2.2.2.2.2.2))) (some (bT4 (s5.1,s5.2.1,s5.2.2.1,s5.2.2.2.1,s5.2.2.2.2.1,s5.2.2.2.2.2.1,s5.2.2.2.2.2.2.1,s5.2.2.2.2.2.2.2.1,s5.2.2.2.2.2.2.2.2.1,s5.2.2.2.2.2.2.2.2.2)))) (fun q hq hh=>by
   obtain ⟨i,j,k1,k2,k3,k4,k5⟩:=gL hh
   have l1:bUk q.2.2.2.1<=68719476736:=(fQ hq).2.2.2.1.1
   have hp1:idx q.2.2.2.1 q.2.2.2.2.1=some (bN q):=by rw [k1,aF];exact k3
   simp only [hp1,aA,nB (xL (fQ hq) k3),nB l1,aO,bAd (fQ hq)]
   unfold dN
   cases q.2.2.2.2.2.1==((bN q).2.2.2.length:Int) - 1<;>cases decide (q.2.2.2.2.1<(q.2.2.2.1.length:Int) - 1)<;>rfl) _ p p ⟨rfl,rfl,rfl⟩ h hz (bUo _)
 have hs:yD (bP t now p).2 r:=hs
 have hr':aC _ (p.1,p.2.1,p.2.2.1,p.2.2.2.1,p.2.2.2.2.1,p.2.2.2.2.2.1,p.2.2.2.2.2.2.1,p.2.2.2.2.2.2.2.1,p.2.2.2.2.2.2.2.2.1,p.2.2.2.2.2.2.2.2.2)=some r:=hr
 rw [hr',aA]
 obtain ⟨a1,a2,a3,a4,a5,a6⟩:=hs.cur
 obtain ⟨g1,g2,g3⟩:=aDk _ p hz
 have g1:cB r=true:=a1▸g1
 obtain ⟨i,j,k1,k2,k3,k4,k5⟩:=gL g1
 have hp1:idx r.2.2.2.1 r.2.2.2.2.1=some (bN r):=by rw [k1,aF];exact k3
 have hp2:dH (bN r) r.2.2.2.2.2.1=some (pEg (bN r) (cV r)):=by rw [k2];exact aSn k4 (xL (fQ ht) k3)
 rw [hp1,aA]
 simp only [aO,hp2,aA]
 unfold aYz
 rw [a3,a4]

theorem bDp {t:den tTo} {now:Int}: ∀ (n:Nat) (p:den tPk),(goC t now n p).1<=5
 | 0,p=>by
  show dF t now p<=5
  unfold dF
  repeat' split
  all_goals decide
 | n+1,p=>by
  unfold goC
  split
  ·exact bDp n _
  ·show dF t now p<=5
   unfold dF
   repeat' split
   all_goals decide

theorem bEn {t:den tTo} {r now dead inn:Int} {p:den tPk} (h:(fwd t r now dead inn p).1=7):(bP t now p).1=0∧(fwd t r now dead inn p).2.2.2=aYz t now p:=by
 have hg:(bP t now p).1<=5:=bDp _ p
 unfold fwd at h ⊢
 split at h
 ·cases h
 ·rename_i c1
  rw [zS c1]
  split at h
  ·cases h
  ·rename_i c2
   rw [zS c2]
   split at h
   ·simp only at h;omega
   ·rename_i c3
    rw [zS c3]
    refine ⟨by simpa using c3,?_⟩
    split at h
    ·split at h<;>cases h
    ·rename_i c4
     rw [zS c4]
     split at h
     ·cases h
     ·rename_i c5
      rw [zS c5]
      split at h
      ·rename_i c6
       rw [zT c6]
       rfl
      ·cases h

theorem kinds {p:den tPk} (h:gM p=true) (h1:(p.1==1)=false) (h2:(p.1==2)=false):(p.1==3)=true:=by
 unfold gM at h
 rw [bT8] at h
 have hr:=bS.1 h.1
 have h1: ¬ p.1=(1:Int):=by simpa using h1
 have h2: ¬ p.1=(2:Int):=by simpa using h2
 have key: ∀ c:Int,1<=c→c<=3→ ¬ c=1→ ¬ c=2→c=3:=by intro c;omega
 have :p.1=(3:Int):=key p.1 hr.1 hr.2 h1 h2
 rw [this];rfl

theorem bMf {w:den tNw} {r:Int} {p:den tPk} (h:zD w) (hp:zJ p) (hk:(p.1==1)=false) (hv:(p.1==2)=false→(p.1==3)=true):rO w r p=some (cI (uQ w r p)):=by
 unfold rO iO.b ixb aI nP pj2 pj3 pj4 pj9 fZ aG zz4 zz5 zz6 zz7 zz8 zz9
 rw [hk,zY]
 cases h2:p.1==2 with
 | true=>
  rw [zZ]
  refine bDg (w:=w) (r:=r) (p:=p) h2 h.flows h.flowsN (fun k f a ha hx hm hk'=> ?_) (fun a ha=> ?_)
  ·obtain ⟨d1,d2⟩:=aJ8 ha hk'
   have hw:wr ((k:Int)+1)=((k+1:Nat):Int):=(wri (by have :=h.flowsN;omega) (by have :=h.flowsN;omega)).trans (by omega)
   simp only [d1,d2,fS,bUf,hx,zZ,aA,aO,aYa (aPx (h.flows f hm)),aP,bD,aW,aV,aX,hw]
   unfold qB
   rw [h2]
   cases f.1==r
   ·simp only [zY,bUh,zU,aA,aHq hx]
   ·simp only [zZ,zV,aA]
    rfl
  ·show cond (decide ((((aD w).length:Nat):Int)<(a.length:Int))) _ _=_
   rw [ha,zW (by omega)]
   rfl
 | false=>
  rw [zY,hv h2,zZ]
  simp only [aO,aPm h2 h.flows h.flowsN hp.sz hp.by_,aA]

theorem bRn {w:den tNw} {r:Int} {p:den tPk} (h:zD w) (hp:zJ p) (hk:(p.1==1)=false) (hv:(p.1==2)=false→(p.1==3)=true):iO w r p=some (cI (uQ w r p)):=by
 unfold iO iO.b ixb aI nP pj2 pj3 pj4 pj9 fZ aG zz4 zz5 zz6 zz7 zz8 zz9
 rw [hk,zY]
 cases h2:p.1==2 with
 | true=>
  rw [zZ]
  refine bDg (w:=w) (r:=r) (p:=p) h2 h.flows h.flowsN (fun k f a ha hx hm hk'=> ?_) (fun a ha=> ?_)
  ·obtain ⟨d1,d2⟩:=aJ8 ha hk'
   have hw:wr ((k:Int)+1)=((k+1:Nat):Int):=(wri (by have :=h.flowsN;omega) (by have :=h.flowsN;omega)).trans (by omega)
   simp only [d1,d2,fS,bUf,hx,zZ,aA,aO,aYa (aPx (h.flows f hm)),aP,bD,aW,aV,aX,hw]
   unfold qB
   rw [h2]
   cases f.1==r
   ·simp only [zY,bUh,zU,aA,aHq hx]
   ·simp only [zZ,zV,aA]
    rfl
  ·show cond (decide ((((aD w).length:Nat):Int)<(a.length:Int))) _ _=_
   rw [ha,zW (by omega)]
   rfl
 | false=>
  rw [zY,hv h2,zZ]
  simp only [aO,aPm h2 h.flows h.flowsN hp.sz hp.by_,aA]

theorem aO5 {w:den tNw} {r inn:Int} {p:den tPk} (h:zD w) (hp:zJ p) (hk:(p.1==1)=false):gD w r inn p=some (cI (proc0 w r inn p)):=by
 have hp2:tot tPt p.2.2.2.1<=1073741824:=aF7 hp.sz
 have hs:=hp.step (nT w) (aM w) (aJ w) r inn
 have hkeep:=aCv w.1 r w.2.2.2.1 (oE w.1 w.2.2.2.2.1 r) inn p
 have hval:=aIm (t:=w.1) (r:=r) (now:=w.2.2.2.1) (dead:=oE w.1 w.2.2.2.2.1 r) (inn:=inn) (p:=p)
 unfold gD cY.b aI uZ nP pj2 pj3 fZ aG aU bC zz4 zz5 zz6 zz7 zz8 zz9
 simp only [aO,aWw h.links h.dead,bAe h.as (bT7 h.links (by decide)) (bT7 hp.sz (by decide)) hp2,aA,aP,bD,aW,aV,aX,hk]
 rw [show fwd w.1 r w.2.2.2.1 (oE w.1 w.2.2.2.2.1 r) inn p=bL (nT w) (aM w) (aJ w) r inn p from rfl] at hkeep hval ⊢
 unfold proc0
 generalize bL (nT w) (aM w) (aJ w) r inn p=v at hs hkeep hval
 have hback:(((fwS v).2.2.1,(fwS v).2.2.2.1,(fwS v).2.2.2.2.1,(fwS v).2.2.2.2.2.2.2.2.2.2.1,(fwS v).2.2.2.2.2.1,(fwS v).2.2.2.2.2.2.1,(fwS v).2.2.2.2.2.2.2.1,(fwS v).2.2.2.2.2.2.2.2.1,(fwS v).2.2.2.2.2.2.2.2.2.1,(fwS v).2.2.2.2.2.2.2.2.2.2.2):den tPk)=v.2.2.1:=rfl
 rw [show (fwS v).1=v.1 from rfl,show (fwS v).2.1=v.2.1 from rfl]
 cases c1:v.1==1
 ·cases c0:v.1==0
  ·cases c7:v.1==7
   ·simp only [zY,aA,bUh,zU,bVe];rfl
   ·simp only [zZ,zY,aA,bUh,zU,bVe];rfl
  ·unfold lM
   rw [hkeep.2.2.1]
   simp only [zZ,zY,zV,aB1 (t:=w.1) (bT7 h.links (by decide)),aP1 h.res h.use,aA]
   cases ct:(jJ w.2.2.1 p.2.2.2.2.2.2.2.1 r v.2.1 w.2.2.2.1).2.1
   ·simp only [zY,aA,bVb,bUh,zU,bVe];rfl
   ·by_cases hl:(aN w).length<150
    ·have h150:decide ((w.2.2.2.2.2.1.length:Int)<150)=true:=zX (by have :w.2.2.2.2.2.1.length<150:=hl;omega)
     rw [zX hl]
     simp only [zZ,aA,h150,bWh,zV,aE (b:=128) (n:=w.2.2.2.2.2.1.length) (m:=1) (by decide) (show (aN w).length+1<=_ by omega),Sum.elim_inr]
     rfl
    ·have h150:decide ((w.2.2.2.2.2.1.length:Int)<150)=false:=zW (by have : ¬ w.2.2.2.2.2.1.length<150:=hl;omega)
     rw [zW hl]
     simp only [zZ,zY,aA,h150,bV1,bUh,zU,bVe]
     rfl
 ·have c0:(v.1==0)=false:=by
   have :v.1=1:=by simpa using c1
   rw [this];rfl
  have hv:gM p=true:=hval (by rw [show v.1=1 from by simpa using c1];rfl)
  have hq1:(v.2.2.1.1==1)=false:=by rw [hkeep.1];exact hk
  have hq2:(v.2.2.1.1==2)=false→(v.2.2.1.1==3)=true:=by rw [hkeep.1];exact kinds hv hk
  rw [hback,bMf h hs hq1 hq2]
  simp only [c0,zZ,aA,bUh,zU,zV,Sum.elim_inr]

theorem bRf {w:den tNw} {r:Int} {p:den tPk} (h:zD w) (hbn:(bG w).length<=68719476736) (hbx: ∀ x∈bG w,tot tIb x<=1073741824) (hp:zJ p) (hk:(p.1==1)=true):iO w r p=some (cI (xV w r p)):=by
 unfold iO iO.b xV ixb aI nP pj2 pj3 pj4 pj9 fZ aG zz4 zz5 zz6 zz7 zz8 zz9
 simp only [hk,zZ,aXu hbn,aA]
 rcases aGn (bG w) r p.2.1 with hf | ⟨k,x,hf,hx⟩
 ·rw [show lK w.2.2.2.2.2.2.2.1 r p.2.1= -1 from hf]
  rfl
 ·have hlt:=(bUg.1 hx).1
  have hx0:w.2.2.2.2.2.2.2.1[k]? =some x:=hx
  have hxm:=hbx x (bUi hx)
  have hxs:SmB 4294967296 tIb x:=(bF hxm).mono (by decide)
  have hvs:SmB 4294967296 tPk p:=(bF hp.sz).mono (by decide)
  have hd1:decide ((k:Int)<(w.2.2.2.2.2.2.2.1.length:Int))=true:=zX (by have :k<w.2.2.2.2.2.2.2.1.length:=hlt;omega)
  have hd2:decide (k<w.2.2.2.2.2.2.2.1.length)=true:=zX hlt
  have hba:wP w k=x:=by unfold wP;rw [hx];rfl
  rw [show lK w.2.2.2.2.2.2.2.1 r p.2.1=(k:Int) from hf,zW (show ¬ (k:Int)<0 by omega),zS (show ¬ (k:Int)<0 by omega),bUf,hba]
  have e1:gD (w.1,w.2.1,w.2.2.1,w.2.2.2.1,w.2.2.2.2.1,w.2.2.2.2.2.1,w.2.2.2.2.2.2.1,w.2.2.2.2.2.2.2.1.set k (eA x p),w.2.2.2.2.2.2.2.2) r 0 (mZ (eA x p) p)=some (cI (proc0 (qM w k (eA x p)) r 0 (mZ (eA x p) p))):=by
   cases ca:aA6 (eA x p) p with
   | true=>exact aO5 (aE2 h) (aOk hp) (aMy ca)
   | false=>exact aO5 (aE2 h) (aOk hp) (by unfold mZ;rw [ca];rfl)
  simp only [zY,fS,hd1,hd2,zZ,hx0,aA,aO,bOd hxs hvs,bM4 (x:=eA x p) (p:=p) (bT7 (aF7 hp.sz) (by decide)),aP,bD,aW,aV,aX,pkB,e1]
  cases aA6 (eA x p) p<;>rfl

theorem aPu {w:den tNw} {r inn:Int} {p:den tPk} (h:zD w) (hbn:(bG w).length<=68719476736) (hbx: ∀ x∈bG w,tot tIb x<=1073741824) (hz:tot tPk p<=536870912) (hb:dE p):cY w r inn p=some (cI (bX w r inn p)):=by
 have hp:zJ p:=⟨by omega,hb⟩
 have hp2:tot tPt p.2.2.2.1<=1073741824:=aF7 hp.sz
 have hs:=hp.step (nT w) (aM w) (aJ w) r inn
 have hkeep:=aCv w.1 r w.2.2.2.1 (oE w.1 w.2.2.2.2.1 r) inn p
 have hval:=aIm (t:=w.1) (r:=r) (now:=w.2.2.2.1) (dead:=oE w.1 w.2.2.2.2.1 r) (inn:=inn) (p:=p)
 have hsev:=bEn (t:=w.1) (r:=r) (now:=w.2.2.2.1) (dead:=oE w.1 w.2.2.2.2.1 r) (inn:=inn) (p:=p)
 unfold cY cY.b aI uZ nP pj2 pj3 fZ aG aU bC zz4 zz5 zz6 zz7 zz8 zz9
 simp only [aO,aWw h.links h.dead,bAe h.as (bT7 h.links (by decide)) (bT7 hp.sz (by decide)) hp2,aA,aP,bD,aW,aV,aX]
 rw [show fwd w.1 r w.2.2.2.1 (oE w.1 w.2.2.2.2.1 r) inn p=bL (nT w) (aM w) (aJ w) r inn p from rfl] at hkeep hval hsev ⊢
 unfold bX
 generalize bL (nT w) (aM w) (aJ w) r inn p=v at hs hkeep hval hsev
 have hback:(((fwS v).2.2.1,(fwS v).2.2.2.1,(fwS v).2.2.2.2.1,(fwS v).2.2.2.2.2.2.2.2.2.2.1,(fwS v).2.2.2.2.2.1,(fwS v).2.2.2.2.2.2.1,(fwS v).2.2.2.2.2.2.2.1,(fwS v).2.2.2.2.2.2.2.2.1,(fwS v).2.2.2.2.2.2.2.2.2.1,(fwS v).2.2.2.2.2.2.2.2.2.2.2):den tPk)=v.2.2.1:=rfl
 rw [show (fwS v).1=v.1 from rfl,show (fwS v).2.1=v.2.1 from rfl]
 cases c1:v.1==1
 ·cases c0:v.1==0
  ·cases c7:v.1==7
   ·simp only [zY,aA,bUh,zU,bVe,bVb];rfl
   ·cases ck:p.1==1
    ·simp only [zZ,zY,aA,bUh,zU,bVe,bV1];rfl
    ·obtain ⟨hz0,hd0⟩:=hsev (by simpa using c7)
     have hn:zJ (bQ r (aM w) v.2.2.2 p):=aYu hz
     have ht1:tot tPt (kT p)<=34359738368:=bT7 (xU p) (bT7 hp2 (by decide))
     have hlen:decide (((gO (kT p)).length:Int)>1)=decide ((gO (kT p)).length>1):=by rw [bU1];simp only [zR,gt_iff_lt];omega
     have e1:gD w r 0 ((pkR (bQ r w.2.2.2.1 v.2.2.2 p)).1,(pkR (bQ r w.2.2.2.1 v.2.2.2 p)).2.1,(pkR (bQ r w.2.2.2.1 v.2.2.2 p)).2.2.1,(pkR (bQ r w.2.2.2.1 v.2.2.2 p)).2.2.2.2.2.2.2.2.1,(pkR (bQ r w.2.2.2.1 v.2.2.2 p)).2.2.2.1,(pkR (bQ r w.2.2.2.1 v.2.2.2 p)).2.2.2.2.1,(pkR (bQ r w.2.2.2.1 v.2.2.2 p)).2.2.2.2.2.1,(pkR (bQ r w.2.2.2.1 v.2.2.2 p)).2.2.2.2.2.2.1,(pkR (bQ r w.2.2.2.1 v.2.2.2 p)).2.2.2.2.2.2.2.1,(pkR (bQ r w.2.2.2.1 v.2.2.2 p)).2.2.2.2.2.2.2.2.2)=some (cI (proc0 w r 0 (bQ r (aM w) v.2.2.2 p))):=aO5 h hn rfl
     have e2:lS w r ((pkR (bQ r w.2.2.2.1 v.2.2.2 p)).1,(pkR (bQ r w.2.2.2.1 v.2.2.2 p)).2.1,(pkR (bQ r w.2.2.2.1 v.2.2.2 p)).2.2.1,(pkR (bQ r w.2.2.2.1 v.2.2.2 p)).2.2.2.2.2.2.2.2.1,(pkR (bQ r w.2.2.2.1 v.2.2.2 p)).2.2.2.1,(pkR (bQ r w.2.2.2.1 v.2.2.2 p)).2.2.2.2.1,(pkR (bQ r w.2.2.2.1 v.2.2.2 p)).2.2.2.2.2.1,(pkR (bQ r w.2.2.2.1 v.2.2.2 p)).2.2.2.2.2.2.1,(pkR (bQ r w.2.2.2.1 v.2.2.2 p)).2.2.2.2.2.2.2.1,(pkR (bQ r w.2.2.2.1 v.2.2.2 p)).2.2.2.2.2.2.2.2.2)=some (cI (uQ w r (bQ r (aM w) v.2.2.2 p))):=aPm rfl h.flows h.flowsN hn.sz hn.by_
     simp only [zZ,zY,aA,bUh,zU,bWh,zV,bQn (t:=w.1) (now:=w.2.2.2.1) (p:=p) (bT7 hp.sz (by decide)) hz0,← hd0,aXm (t:=w.1) (r:=r) (now:=w.2.2.2.1) (d:=v.2.2.2) (bT7 hp.sz (by decide)),aLn (fQ (p:=p) (by omega)),aP,bD,aW,aV,aX,aDn ht1,hlen,e1,e2]
     unfold aAs
     cases hd:decide ((gO (kT p)).length>1)
     ·rw [zS (of_decide_eq_false hd)];rfl
     ·rw [zT (of_decide_eq_true hd)];rfl
  ·unfold lM
   rw [hkeep.2.2.1]
   simp only [zZ,zY,zV,aB1 (t:=w.1) (bT7 h.links (by decide)),aP1 h.res h.use,aA]
   cases ct:(jJ w.2.2.1 p.2.2.2.2.2.2.2.1 r v.2.1 w.2.2.2.1).2.1
   ·simp only [zY,aA,bVb,bUh,zU,bVe];rfl
   ·by_cases hl:(aN w).length<150
    ·have h150:decide ((w.2.2.2.2.2.1.length:Int)<150)=true:=zX (by have :w.2.2.2.2.2.1.length<150:=hl;omega)
     rw [zX hl]
     simp only [zZ,aA,h150,bWh,zV,aE (b:=128) (n:=w.2.2.2.2.2.1.length) (m:=1) (by decide) (show (aN w).length+1<=_ by omega),Sum.elim_inr]
     rfl
    ·have h150:decide ((w.2.2.2.2.2.1.length:Int)<150)=false:=zW (by have : ¬ w.2.2.2.2.2.1.length<150:=hl;omega)
     rw [zW hl]
     simp only [zZ,zY,aA,h150,bV1,bUh,zU,bVe]
     rfl
 ·have c0:(v.1==0)=false:=by
   have :v.1=1:=by simpa using c1
   rw [this];rfl
  have hv:gM p=true:=hval (by rw [show v.1=1 from by simpa using c1];rfl)
  rw [hback]
  cases ck:p.1==1 with
  | true=>
   rw [bRf h hbn hbx hs (by rw [hkeep.1];exact ck)]
   simp only [c0,zZ,aA,bUh,zU,zV,Sum.elim_inr]
  | false=>
   have hq1:(v.2.2.1.1==1)=false:=by rw [hkeep.1];exact ck
   have hq2:(v.2.2.1.1==2)=false→(v.2.2.1.1==3)=true:=by rw [hkeep.1];exact kinds hv ck
   rw [bRn h hs hq1 hq2]
   simp only [c0,zZ,aA,bUh,zU,zV,Sum.elim_inr]

theorem eT (w:den tNw):tot tNw w=(tot (.sl tAS) (nT w).1+tot (.sl tLk) (nT w).2)+((tot (.sl tSg) (nK w).1+tot (.sl tSg) (nK w).2)+((0+(tot (.sl tRs) (nG w).2.1+tot (.sl tUs) (nG w).2.2))+(0+(tot (.sl ti) (aJ w)+(tot (.sl tFy) (aN w)+(tot (.sl tFl) (aD w)+(tot (.sl tIb) (bG w)+0))))))):=rfl

theorem aEm {w:den tNw} (h:tot tNw w<=1073741824):zD w where
 as:=by have :=eT w;have :=eU (t:=tAS) (nT w).1;omega
 links:=by have :=eT w;have :=eU (t:=tLk) (nT w).2;omega
 dead:=by have :=eT w;have :=eU (t:=ti) (aJ w);omega
 res:=by have :=eT w;have :=eU (t:=tRs) (nG w).2.1;omega
 use:=by have :=eT w;have :=eU (t:=tUs) (nG w).2.2;omega
 flowsN:=by have :=eT w;have :=eU (t:=tFl) (aD w);omega
 flows:=fun f hf=>by have :=eT w;have :=aAk (t:=tFl) hf;omega

theorem aJk {w:den tNw} (h:tot tNw w<=1073741824):(bG w).length<=68719476736∧ ∀ x∈bG w,tot tIb x<=1073741824:=
 ⟨by have :=eT w;have :=eU (t:=tIb) (bG w);omega,fun x hx=>by have :=eT w;have :=aAk (t:=tIb) hx;omega⟩

theorem aCt (w:den tNw):tot tNw (vW w)=tot tNw w:=rfl

theorem aW8 (l:lUs):tot (.sl tUs) l=l.length:=dD rfl

theorem bC0 (g:den tSc) (id s d now:Int):tot (.sl tRs) (jJ g id s d now).2.2.1=tot (.sl tRs) g.2.1∧tot (.sl tUs) (jJ g id s d now).2.2.2<=tot (.sl tUs) g.2.2+1:=by
 have m1:=aE3 g.2.2 id s d
 have m2:=aE3 g.2.2 0 s d
 rw [aW8,aW8]
 unfold jJ
 split
 ·exact ⟨rfl,by simpa using m1⟩
 ·split
  ·exact ⟨rfl,by simpa using m2⟩
  ·exact ⟨rfl,by simp⟩

theorem aQn (w:den tNw) (r eg:Int) (p:den tPk):tot tNw (lM w r eg p)<=tot tNw w+(2+tot tPk p):=by
 unfold lM
 split
 ·obtain ⟨e1,e2⟩:=bC0 (nG w) p.2.2.2.2.2.2.2.1 r eg (aM w)
  rw [eT,eT w]
  simp only [nT,nK,nG,aJ,aN,aD,bG] at e1 e2 ⊢
  rw [pU,aBq]
  have e3:tot tFy ((remote w.1 r eg).1,(remote w.1 r eg).2,p)=tot tPk p:=by simp [sE,uV]
  rw [e3]
  omega
 ·rw [aCt];omega

theorem bC7 (f:den tFl) (p:den tPk):tot tFl (tO f p)=tot tFl f:=by
 unfold tO
 split<;>rfl

theorem bDf (r:Int) (p:den tPk) (f:den tFl):tot tFl (qB r p f)<=tot tFl f+1:=by
 unfold qB
 split
 ·split
  ·rw [bC7];omega
  ·exact bCx f p
 ·omega

theorem aXp (r:Int) (p:den tPk): ∀ l:lFl,tot (.sl tFl) (l.map (qB r p))<=tot (.sl tFl) l+l.length
 | []=>by simp
 | f::l=>by
  have h1:=bDf r p f
  have h2:=aXp r p l
  rw [bUs,kH,kH,bU7]
  omega

theorem aEf (w:den tNw) (l:lFl):tot tNw (eQ w l)=(tot (.sl tAS) (nT w).1+tot (.sl tLk) (nT w).2)+((tot (.sl tSg) (nK w).1+tot (.sl tSg) (nK w).2)+((0+(tot (.sl tRs) (nG w).2.1+tot (.sl tUs) (nG w).2.2))+(0+(tot (.sl ti) (aJ w)+(tot (.sl tFy) (aN w)+(tot (.sl tFl) l+(tot (.sl tIb) (bG w)+0))))))):=rfl

theorem bBs (w:den tNw) (k:Nat) (x:den tIb):tot tNw (qM w k x)=(tot (.sl tAS) (nT w).1+tot (.sl tLk) (nT w).2)+((tot (.sl tSg) (nK w).1+tot (.sl tSg) (nK w).2)+((0+(tot (.sl tRs) (nG w).2.1+tot (.sl tUs) (nG w).2.2))+(0+(tot (.sl ti) (aJ w)+(tot (.sl tFy) (aN w)+(tot (.sl tFl) (aD w)+(tot (.sl tIb) ((bG w).set k x)+0))))))):=rfl

theorem aJu (w:den tNw) (r:Int) (p:den tPk):tot tNw (uQ w r p)<=tot tNw w+(aD w).length:=by
 have h:=aXp r p (aD w)
 unfold uQ
 rw [aEf,eT w]
 omega

theorem aRm (w:den tNw) (r inn:Int) (p:den tPk):tot tNw (proc0 w r inn p)<=tot tNw w+(2+tot tPk p+(aD w).length):=by
 unfold proc0
 split
 ·have :=aQn w r (bL (nT w) (aM w) (aJ w) r inn p).2.1 (bL (nT w) (aM w) (aJ w) r inn p).2.2.1
  have e:tot tPk (bL (nT w) (aM w) (aJ w) r inn p).2.2.1=tot tPk p:=aKg _ _ _ _ _ _
  omega
 ·split
  ·have :=aJu w r (bL (nT w) (aM w) (aJ w) r inn p).2.2.1
   omega
  ·rw [aCt];omega

theorem aKn {t:Ty} {l:List (den t)} {k:Nat} {x y:den t} (h:l[k]? =some x):tot (.sl t) (l.set k y)+tot t x=tot (.sl t) l+tot t y:=by
 induction l generalizing k with
 | nil=>cases h
 | cons z l ih=>
  cases k with
  | zero=>
   have :z=x:=by simpa using h
   subst this
   rw [List.set_cons_zero,kH,kH];omega
  | succ k=>
   have :=ih (k:=k) (by simpa using h)
   rw [List.set_cons_succ,kH,kH];omega

theorem bGd (x:den tIb) (p:den tPk):tot tIb (eA x p)<=tot tIb x+(1+tot tPk p):=by
 have h1:=bF5 x p
 have h2:=(aKl (p:=p) (bUo _)).2
 have e: ∀ y:den tIb,tot tIb y=tot (.sl tMs) y.2.2.2:=fun y=>by simp [sE,uV]
 rw [e,e]
 omega

theorem bEl (w:den tNw) (r:Int) (p:den tPk):tot tNw (xV w r p)<=tot tNw w+(3+2 * tot tPk p+(aD w).length):=by
 unfold xV
 split
 ·omega
 ·rcases aGn (bG w) r p.2.1 with hf | ⟨k,x,hf,hx⟩
  ·rename_i hc;rw [hf] at hc;exact absurd (by decide) hc
  ·have hba:wP w k=x:=by unfold wP;rw [hx];rfl
   rw [hf,bUf,hba]
   have h1:=aKn (t:=tIb) (y:=eA x p) hx
   have h2:=bGd x p
   have h3:tot tNw (qM w k (eA x p))<=tot tNw w+(1+tot tPk p):=by
    rw [bBs,eT w]
    omega
   split
   ·have h4:=aRm (qM w k (eA x p)) r 0 (mZ (eA x p) p)
    have h5:=aQw (eA x p) p
    have h6:(aD (qM w k (eA x p))).length=(aD w).length:=rfl
    omega
   ·omega

theorem bEk (w:den tNw) (r d:Int) (p:den tPk):tot tNw (aAs w r d p)<=tot tNw w+(20+tot tPk p+(aD w).length):=by
 unfold aAs
 rw [aCt]
 split
 ·have h1:=aRm w r 0 (bQ r (aM w) d p)
  have h2:=aJm r (aM w) d p
  omega
 ·have :=aJu w r (bQ r (aM w) d p)
  omega

theorem aJ1 (w:den tNw) (r inn:Int) (p:den tPk):tot tNw (bX w r inn p)<=tot tNw w+(20+2 * tot tPk p+(aD w).length):=by
 have e:tot tPk (bL (nT w) (aM w) (aJ w) r inn p).2.2.1=tot tPk p:=aKg _ _ _ _ _ _
 unfold bX
 split
 ·have :=aQn w r (bL (nT w) (aM w) (aJ w) r inn p).2.1 (bL (nT w) (aM w) (aJ w) r inn p).2.2.1
  omega
 ·split
  ·split
   ·have :=bEl w r (bL (nT w) (aM w) (aJ w) r inn p).2.2.1
    omega
   ·have :=aJu w r (bL (nT w) (aM w) (aJ w) r inn p).2.2.1
    omega
  ·split
   ·have :=bEk w r (bL (nT w) (aM w) (aJ w) r inn p).2.2.2 p
    omega
   ·rw [aCt];omega

theorem aU7 {w:den tNw} (h:tot tNw w<=68719476736):SmB 68719476736 tNw w:=bF h


def bRz (w:den tNw):lAS×lLk×lSg×lSg×Int×lRs×lUs×Int×lI×Int×lFy×lFl×lIb:=
 ((nT w).1,(nT w).2,(nK w).1,(nK w).2,(nG w).1,(nG w).2.1,(nG w).2.2,aM w,aJ w,dB w,aN w,aD w,bG w)

theorem bN8 {w:den tNw} {r inn:Int} {p:den tPk} (h:tot tNw w<=1073741824) (hz:tot tPk p<=536870912) (hb:dE p):kJ w r inn p=some (kI (bX w r inn p)):=by
 have hg:=aJ1 w r inn p
 have hF:(aD w).length<=1073741824:=(aEm h).flowsN
 unfold kJ aI nP fZ aG aU bC zz4 zz5 zz6 zz7 zz8 zz9
 simp only [aO,aW4 (aU7 (w:=w) (by omega)),aA]
 have e1:cS (((kI w).2.2.2.1,(kI w).2.2.2.2.1),((kI w).2.2.2.2.2.1,(kI w).2.2.2.2.2.2.1),((kI w).1,(kI w).2.2.2.2.2.2.2.1,(kI w).2.2.2.2.2.2.2.2.1),(kI w).2.1,(kI w).2.2.2.2.2.2.2.2.2.1,(kI w).2.2.2.2.2.2.2.2.2.2.1,(kI w).2.2.2.2.2.2.2.2.2.2.2.1,(kI w).2.2.2.2.2.2.2.2.2.2.2.2,(kI w).2.2.1) r inn p=some (cI (bX w r inn p)):=bNm (aEm h) (aJk h).1 (aJk h).2 hz hb
 rw [e1,aA]
 have e2:jP (((cI (bX w r inn p)).2.2.2.1,(cI (bX w r inn p)).2.2.2.2.1),((cI (bX w r inn p)).2.2.2.2.2.1,(cI (bX w r inn p)).2.2.2.2.2.2.1),((cI (bX w r inn p)).2.2.2.2.2.2.2.1,(cI (bX w r inn p)).2.2.2.2.2.2.2.2.1,(cI (bX w r inn p)).2.2.2.2.2.2.2.2.2.1),(cI (bX w r inn p)).2.2.2.2.2.2.2.2.2.2.1,(cI (bX w r inn p)).2.2.2.2.2.2.2.2.2.2.2.1,(cI (bX w r inn p)).1,(cI (bX w r inn p)).2.1,(cI (bX w r inn p)).2.2.1,(cI (bX w r inn p)).2.2.2.2.2.2.2.2.2.2.2.2)=some (kI (bX w r inn p)):=aW4 (w:=bX w r inn p) (aU7 (by omega))
 rw [e2]
 rfl

theorem bN2 {w:den tNw} {r inn:Int} {p:den tPk} (h:tot tNw w<=1073741824) (hz:tot tPk p<=536870912) (hb:dE p):kO w r inn p=some (bRz (bX w r inn p)):=by
 unfold kO aI fZ aG aU bC zz4 zz5 zz6 zz7 zz8 zz9
 simp only [aO,aOs (aU7 (w:=w) (by omega)),aA]
 have e1:cY (((kI w).2.2.2.1,(kI w).2.2.2.2.1),((kI w).2.2.2.2.2.1,(kI w).2.2.2.2.2.2.1),((kI w).1,(kI w).2.2.2.2.2.2.2.1,(kI w).2.2.2.2.2.2.2.2.1),(kI w).2.1,(kI w).2.2.2.2.2.2.2.2.2.1,(kI w).2.2.2.2.2.2.2.2.2.2.1,(kI w).2.2.2.2.2.2.2.2.2.2.2.1,(kI w).2.2.2.2.2.2.2.2.2.2.2.2,(kI w).2.2.1) r inn p=some (cI (bX w r inn p)):=aPu (aEm h) (aJk h).1 (aJk h).2 hz hb
 rw [e1,aA]
 rfl

theorem bD9 {p:den tPp} (h:yE p=true):tot tPp p<=8:=by
 unfold yE aDa at h
 simp only [bT8,zR] at h
 have e:tot tPp p=tot (.sl bZ) p.2.2.2:=by simp [sE,uV]
 rw [e,dD rfl]
 exact h.2.2.2.1

theorem bIr {p:den tPt} (h:aEc p=true):tot tPt p<=27:=by
 unfold aEc at h
 rw [bT8,zR] at h
 have key: ∀ l:lPp,l.all yE=true→tot (.sl tPp) l<=9 * l.length:=by
  intro l
  induction l with
  | nil=>intro _;exact bUo _
  | cons x l ih=>
   intro hl
   rw [bV8,bT8] at hl
   have h1:=bD9 hl.1
   have h2:=ih hl.2
   rw [kH,bU7]
   omega
 have :=key p h.2
 have h1:bUk p<=3:=h.1
 show tot (.sl tPp) p<=27
 omega

theorem aN4 {p:den tPk} (h:gM p=true):tot tPk p<=67:=by
 have h':=h
 unfold gM at h'
 simp only [bT8,zR] at h'
 have h1:=bIr h'.2.1
 have h2:p.2.2.2.2.2.2.2.2.2.length<=40:=by have :=h'.2.2.2.2.2.2.2.2.2;omega
 have e:tot tPk p=tot tPt p.2.2.2.1+tot (.sl tb) p.2.2.2.2.2.2.2.2.2:=by simp [sE,uV]
 rw [e,dD (t:=tb) rfl]
 omega

theorem aRf {w:den tNw} {r inn:Int} {p:den tPk} (h:gM p=false):bX w r inn p=vW w:=by
 have hv:bL (nT w) (aM w) (aJ w) r inn p=(2,0,p,0):=by
  unfold bL fwd
  rw [h];rfl
 unfold bX
 rw [hv]
 rfl

theorem aOl (w:den tNw) (r inn:Int) (p:den tPk):tot tNw (bX w r inn p)<=tot tNw w+(160+(aD w).length):=by
 cases h:gM p with
 | true=>
  have h1:=aJ1 w r inn p
  have h2:=aN4 h
  omega
 | false=>rw [aRf h,aCt];omega


structure tB (w:den tNw):Prop where
 fly: ∀ x∈aN w,dE x.2.2
 msg: ∀ f∈aD w,∀ m∈f.2.2.2.2.1,qN m

theorem aOn {w:den tNw} (h:tB w) {r eg:Int} {p:den tPk} (hp:dE p):tB (lM w r eg p)∧(aD (lM w r eg p)).length=(aD w).length:=by
 unfold lM
 split
 ·refine ⟨⟨fun x hx=> ?_,h.msg⟩,rfl⟩
  rcases bUe.1 (show x∈aN w++_ from hx) with hx | hx
  ·exact h.fly x hx
  ·have :x=_:=bUd.1 hx
   subst this
   exact hp
 ·exact ⟨⟨h.fly,h.msg⟩,rfl⟩

theorem bD1 (r:Int) (p:den tPk) (f:den tFl):(qB r p f).2.2.2.2.1=f.2.2.2.2.1:=by
 unfold qB
 split
 ·split
  ·exact (aV6 f p).1
  ·unfold wQ
   cases p.1==3&&(uY p.2.2.2.2.2.2.2.2.2).2.2.2<;>rfl
 ·rfl

theorem aHc {w:den tNw} (h:tB w) (r:Int) (p:den tPk):tB (uQ w r p)∧(aD (uQ w r p)).length=(aD w).length:=by
 refine ⟨⟨h.fly,fun f hf m hm=> ?_⟩,by show ((aD w).map _).length=_;simp⟩
 obtain ⟨g,hg,rfl⟩:=List.mem_map.1 (show f∈(aD w).map (qB r p) from hf)
 rw [bD1] at hm
 exact h.msg g hg m hm

theorem aDh {w:den tNw} (h:tB w):tB (vW w)∧(aD (vW w)).length=(aD w).length:=⟨⟨h.fly,h.msg⟩,rfl⟩

theorem aK5 {w:den tNw} (h:tB w) (k:Nat) (x:den tIb):tB (qM w k x)∧(aD (qM w k x)).length=(aD w).length:=⟨⟨h.fly,h.msg⟩,rfl⟩

theorem aLe {t:den tTo} {now:Int} {dead:List Int} {r inn:Int} {p:den tPk} (hp:dE p):dE (bL t now dead r inn p).2.2.1:=fun x hx=>hp x (by unfold bL at hx;rwa [(aCv t r now _ inn p).2.2.2] at hx)

theorem aNv {w:den tNw} (h:tB w) {r inn:Int} {p:den tPk} (hp:dE p):tB (proc0 w r inn p)∧(aD (proc0 w r inn p)).length=(aD w).length:=by
 unfold proc0
 split
 ·exact aOn h (aLe hp)
 ·split
  ·exact aHc h _ _
  ·exact aDh h

theorem aGy {w:den tNw} (h:tB w) {r inn:Int} {p:den tPk} (hp:dE p):tB (bX w r inn p)∧(aD (bX w r inn p)).length=(aD w).length:=by
 unfold bX
 split
 ·exact aOn h (aLe hp)
 ·split
  ·split
   ·unfold xV
    split
    ·exact ⟨h,rfl⟩
    ·split
     ·obtain ⟨h1,h2⟩:=aK5 h (lK (bG w) r (bL (nT w) (aM w) (aJ w) r inn p).2.2.1.2.1).toNat (eA (wP w (lK (bG w) r (bL (nT w) (aM w) (aJ w) r inn p).2.2.1.2.1).toNat) (bL (nT w) (aM w) (aJ w) r inn p).2.2.1)
      obtain ⟨h3,h4⟩:=aNv h1 (r:=r) (inn:=0) (p:=mZ (eA (wP w (lK (bG w) r (bL (nT w) (aM w) (aJ w) r inn p).2.2.1.2.1).toNat) (bL (nT w) (aM w) (aJ w) r inn p).2.2.1) (bL (nT w) (aM w) (aJ w) r inn p).2.2.1) (by
       unfold mZ
       split
       ·exact fun x hx=>by cases hx
       ·exact fun x hx=>by cases hx)
      exact ⟨h3,h4.trans h2⟩
     ·exact aK5 h _ _
   ·exact aHc h _ _
  ·split
   ·unfold aAs
    split
    ·obtain ⟨h1,h2⟩:=aNv h (r:=r) (inn:=0) (p:=bQ r (aM w) (bL (nT w) (aM w) (aJ w) r inn p).2.2.2 p) (aM6 _)
     obtain ⟨h3,h4⟩:=aDh h1
     exact ⟨h3,h4.trans h2⟩
    ·obtain ⟨h1,h2⟩:=aHc h r (bQ r (aM w) (bL (nT w) (aM w) (aJ w) r inn p).2.2.2 p)
     obtain ⟨h3,h4⟩:=aDh h1
     exact ⟨h3,h4.trans h2⟩
   ·exact aDh h

def aAu (w:den tNw) (l:lFy):den tNw:=(nT w,nK w,nG w,aM w,aJ w,l,aD w,bG w,dB w)

def bR9 (x:den tFy) (w:den tNw):Int×Int×Int×Int×Int×lPp×Int×Int×Int×Int×Int×lI×q1:=
 (x.1,x.2.1,x.2.2.1,x.2.2.2.1,x.2.2.2.2.1,x.2.2.2.2.2.1,x.2.2.2.2.2.2.1,x.2.2.2.2.2.2.2.1,x.2.2.2.2.2.2.2.2.1,x.2.2.2.2.2.2.2.2.2.1,x.2.2.2.2.2.2.2.2.2.2.1,x.2.2.2.2.2.2.2.2.2.2.2,cI w)

theorem aMp (w:den tNw) (l:lFy):tot tNw (aAu w l)+tot (.sl tFy) (aN w)=tot tNw w+tot (.sl tFy) l:=by
 have e:tot tNw (aAu w l)=(tot (.sl tAS) (nT w).1+tot (.sl tLk) (nT w).2)+((tot (.sl tSg) (nK w).1+tot (.sl tSg) (nK w).2)+((0+(tot (.sl tRs) (nG w).2.1+tot (.sl tUs) (nG w).2.2))+(0+(tot (.sl ti) (aJ w)+(tot (.sl tFy) l+(tot (.sl tFl) (aD w)+(tot (.sl tIb) (bG w)+0))))))):=rfl
 rw [e,eT w]
 omega


structure mP (B F:Nat) (w:den tNw):Prop where
 tot:Go.V.tot tNw w<=B
 flows:(aD w).length<=F
 bytes:tB w

theorem mP.mono {B C F:Nat} {w:den tNw} (h:mP B F w) (hb:B<=C):mP C F w:=⟨bT7 h.tot hb,h.flows,h.bytes⟩

theorem bBk {B F:Nat} {w:den tNw} (hk:mP B F w) {r inn:Int} {p:den tPk} (hp:dE p):mP (B+(160+F)) F (bX w r inn p):=by
 obtain ⟨h1,h2⟩:=aGy hk.bytes (r:=r) (inn:=inn) hp
 have h3:=aOl w r inn p
 have h4:=hk.tot
 have h5:=hk.flows
 exact ⟨by omega,by omega,h1⟩

theorem aPb {B F:Nat} {w:den tNw} (h:mP B F w) (hB:B<=1073741824):zD w∧(bG w).length<=68719476736∧ ∀ x∈bG w,tot tIb x<=1073741824:=
 ⟨aEm (bT7 h.tot hB),aJk (bT7 h.tot hB)⟩

theorem bM6 {B F:Nat} {w:den tNw} (h:mP B F w) (hB:B<=1073741824):(aN w).length<=1073741824:=by
 have :=eT w
 have :=eU (t:=tFy) (aN w)
 have :=h.tot
 omega

theorem bFe (f:den tFl):(aT f).1.2.2.2.2.1=f.2.2.2.2.1:=by
 unfold aT
 repeat' split
 all_goals rfl

theorem aWu {f:den tFl} (h: ∀ m∈f.2.2.2.2.1,qN m):dE (yK f):=by
 unfold yK
 split
 ·intro x hx
  have hx:x∈(f.2.2.2.2.1[f.2.2.2.1.toNat]?).getD []:=hx
  cases hm:f.2.2.2.2.1[f.2.2.2.1.toNat]? with
  | none=>rw [hm] at hx;cases hx
  | some m=>rw [hm] at hx;exact h m (bUi hm) x hx
 ·intro x hx;cases hx

theorem aWk {f:den tFl} (h: ∀ m∈f.2.2.2.2.1,qN m):dE (aT f).2.1:=by
 unfold aT
 repeat' split
 all_goals first
  | exact aWu h
  | (intro x hx;cases hx)


def stepT (k:Nat) (w:den tNw):den tNw:=match (aD w)[k]? with
 | some f=>if (aT f).2.2 then bX (eQ w ((aD w).set k (aT f).1)) (aT f).1.1 0 (aT f).2.1 else eQ w ((aD w).set k (aT f).1)
 | none=>w

def tickL:Nat→Nat→den tNw→den tNw
 | _,0,w=>w
 | k,n+1,w=>tickL (k+1) n (stepT k w)

def aHa (w:den tNw):den tNw:=(nT w,nK w,((nG w).1,aD9 (nG w).2.1 (wr (aM w+1)),[]),wr (aM w+1),aJ w,aN w,aD w,bG w,dB w)

def wT (w:den tNw):den tNw:=if aM w>=1000000 then w else tickL 0 (aD w).length (aHa w)

theorem aQv {B F:Nat} {w:den tNw} {k:Nat} {f:den tFl} (hk:mP B F w) (hf:(aD w)[k]? =some f):mP B F (eQ w ((aD w).set k (aT f).1))∧tot tPk (aT f).2.1<=B∧dE (aT f).2.1:=by
 have hm:=bUi hf
 have h1:=aKn (t:=tFl) (y:=(aT f).1) hf
 have h2:=(aR0 f).1
 have h3:=(aR0 f).2
 have h4:=aAk (t:=tFl) hm
 have h5:=aEf w ((aD w).set k (aT f).1)
 have h6:=eT w
 have h7:=hk.tot
 refine ⟨⟨by omega,?_,⟨hk.bytes.fly,fun g hg m hmm=> ?_⟩⟩,by omega,aWk (hk.bytes.msg f hm)⟩
 ·show ((aD w).set k _).length<=F
  rw [bVu];exact hk.flows
 ·rcases List.mem_or_eq_of_mem_set (show g∈(aD w).set k (aT f).1 from hg) with hg | rfl
  ·exact hk.bytes.msg g hg m hmm
  ·rw [bFe] at hmm
   exact hk.bytes.msg f hm m hmm

theorem aNq {B F:Nat} {w:den tNw} (k:Nat) (hk:mP B F w):mP (B+(160+F)) F (stepT k w)∧(aD (stepT k w)).length=(aD w).length:=by
 unfold stepT
 split
 ·rename_i f hf
  obtain ⟨h1,h2,h3⟩:=aQv hk hf
  have hl:(aD (eQ w ((aD w).set k (aT f).1))).length=(aD w).length:=by show ((aD w).set k _).length=_;rw [bVu]
  split
  ·exact ⟨bBk h1 h3,(aGy h1.bytes h3).2.trans hl⟩
  ·exact ⟨h1.mono (by omega),hl⟩
 ·exact ⟨hk.mono (by omega),rfl⟩

theorem aNr {F:Nat}: ∀ (n k:Nat) {B:Nat} {w:den tNw},mP B F w→mP (B+n * (160+F)) F (tickL k n w)∧(aD (tickL k n w)).length=(aD w).length
 | 0,k,B,w,hk=>⟨hk.mono (by omega),rfl⟩
 | n+1,k,B,w,hk=>by
  obtain ⟨h1,h2⟩:=aNq k hk
  obtain ⟨h3,h4⟩:=aNr n (k+1) h1
  unfold tickL
  exact ⟨h3.mono (by rw [Nat.succ_mul];omega),h4.trans h2⟩

theorem bD5 (l:lRs) (now:Int):(aD9 l now).length<=l.length:=bWv _ _

theorem aGz {B F:Nat} {w:den tNw} (hk:mP B F w):mP B F (aHa w):=by
 refine ⟨?_,hk.flows,⟨hk.bytes.fly,hk.bytes.msg⟩⟩
 have h1:=hk.tot
 have h2:=eT w
 have h3:=bD5 (nG w).2.1 (wr (aM w+1))
 have e:tot tNw (aHa w)=(tot (.sl tAS) (nT w).1+tot (.sl tLk) (nT w).2)+((tot (.sl tSg) (nK w).1+tot (.sl tSg) (nK w).2)+((0+(tot (.sl tRs) (aD9 (nG w).2.1 (wr (aM w+1)))+tot (.sl tUs) []))+(0+(tot (.sl ti) (aJ w)+(tot (.sl tFy) (aN w)+(tot (.sl tFl) (aD w)+(tot (.sl tIb) (bG w)+0))))))):=rfl
 have r1: ∀ l:lRs,tot (.sl tRs) l=l.length:=fun l=>dD rfl
 have r2:=r1 (aD9 (nG w).2.1 (wr (aM w+1)))
 have r3:=r1 (nG w).2.1
 rw [aB4] at e
 omega

theorem aYy {B F:Nat} {w:den tNw} (hk:mP B F w):mP (B+F * (160+F)) F (wT w):=by
 unfold wT
 split
 ·exact hk.mono (by omega)
 ·have :=(aNr (aD w).length 0 (aGz hk)).1
  refine this.mono ?_
  have h1:(aD w).length * (160+F)<=F * (160+F):=bVm _ hk.flows
  omega

theorem bGf {F:Nat} {S R:Type} (enc:Nat→den tNw→S) (out:den tNw→R) (N:Nat) {step:S→Option (S⊕R)}
  (H1: ∀ (k:Nat) (w:den tNw),k<N→(aD w).length=N→mP 536870912 F w→step (enc k w)=some (.inl (enc (k+1) (stepT k w))))
  (H2: ∀ (w:den tNw),(aD w).length=N→step (enc N w)=some (.inr (out w))):
  ∀ (m k B:Nat) (w:den tNw),k+m=N→(aD w).length=N→mP B F w→B+m * (160+F)<=536870912→aC step (enc k w)=some (out (tickL k m w)):=by
 intro m
 induction m with
 | zero=>
  intro k B w hk hn hw hB
  have :k=N:=by omega
  subst this
  exact bU (H2 w hn)
 | succ m ih=>
  intro k B w hk hn hw hB
  rw [Nat.succ_mul] at hB
  obtain ⟨h1,h2⟩:=aNq k hw
  rw [eE (H1 k w (by omega) hn (hw.mono (by omega)))]
  exact ih (k+1) _ _ (by omega) (h2.trans hn) h1 (by omega)

theorem bM3 {B F:Nat} {w0:den tNw} (hF:F<=1000) (hk:mP B F w0) (hB:B+F * (160+F)<=536870912):sU w0=some (!decide (aM w0>=1000000),cI (wT w0)):=by
 have hres:(nG w0).2.1.length<=1073741824:=(aEm (bT7 hk.tot (by omega))).res
 unfold sU wT ixb aL3 nP pj3 pj9 aG aU bC cU iE kZ qL xR yO yN zz4 zz5 zz6 zz7 zz8 zz9
 by_cases hnow:aM w0>=1000000
 ·rw [zT hnow,zX (p:=w0.2.2.2.1>=1000000) hnow]
  rfl
 ·rw [zS hnow,zW (p:=w0.2.2.2.1>=1000000) hnow,zY]
  unfold uE
  simp only [bJk hres,aA]
  refine Eq.trans (congrArg (fun o=>Option.bind o _) (bGf (F:=F) (fun k w=>((k:Int),cI w)) cI (aD w0).length (fun k w hk' hn hw=> ?_) (fun w hn=> ?_) (aD w0).length 0 B (aHa w0) (Nat.zero_add _) rfl (aGz hk) (by have :(aD w0).length * (160+F)<=F * (160+F):=bVm _ hk.flows;omega))) ?_
  ·obtain ⟨f,hf⟩: ∃ f,(aD w)[k]? =some f:=⟨_,bT6 (show k<(aD w).length by omega)⟩
   obtain ⟨k1,k2,k3⟩:=aQv hw hf
   obtain ⟨n1,n2,n3⟩:=aPb k1 (by decide)
   have hft:tot tFl f<=34359738368:=by have :=aAk (t:=tFl) (bUi hf);have :=eT w;have :=hw.tot;omega
   have hd:decide ((k:Int)<((cI w).2.1.length:Int))=true:=zX (by have :k<(cI w).2.1.length:=(by show k<(aD w).length;omega);omega)
   have hd1:decide ((k:Int)<((cI w).2.1.length:Int))=true:=zX (by have :k<(cI w).2.1.length:=(show k<(aD w).length by omega);omega)
   have hd2:decide (k<(cI w).2.1.length)=true:=zX (show k<(aD w).length by omega)
   have hf':(cI w).2.1[k]? =some f:=hf
   have hwr:wr ((k:Int)+1)=((k+1:Nat):Int):=(wri (by have :=hk.flows;omega) (by have :=hk.flows;omega)).trans (by omega)
   have e:stepT k w=if (aT f).2.2 then bX (eQ w ((aD w).set k (aT f).1)) (aT f).1.1 0 (aT f).2.1 else eQ w ((aD w).set k (aT f).1):=by unfold stepT;rw [hf]
   have e1:cY (((cI w).2.2.2.1,(cI w).2.2.2.2.1),((cI w).2.2.2.2.2.1,(cI w).2.2.2.2.2.2.1),((cI w).2.2.2.2.2.2.2.1,(cI w).2.2.2.2.2.2.2.2.1,(cI w).2.2.2.2.2.2.2.2.2.1),(cI w).2.2.2.2.2.2.2.2.2.2.1,(cI w).2.2.2.2.2.2.2.2.2.2.2.1,(cI w).1,((cI w).2.1.set k ((oO (aT f).1 (aT f).2.1 (aT f).2.2).1,(oO (aT f).1 (aT f).2.1 (aT f).2.2).2.1,(oO (aT f).1 (aT f).2.1 (aT f).2.2).2.2.1,(oO (aT f).1 (aT f).2.1 (aT f).2.2).2.2.2.1,(oO (aT f).1 (aT f).2.1 (aT f).2.2).2.2.2.2.2.2.2.2.2.2.2.2.2.2.2.1,(oO (aT f).1 (aT f).2.1 (aT f).2.2).2.2.2.2.2.2.2.2.2.2.2.2.2.2.2.2.1,(oO (aT f).1 (aT f).2.1 (aT f).2.2).2.2.2.2.1,(oO (aT f).1 (aT f).2.1 (aT f).2.2).2.2.2.2.2.1,(oO (aT f).1 (aT f).2.1 (aT f).2.2).2.2.2.2.2.2.2.2.2.2.2.2.2.2.2.2.2.1)),(cI w).2.2.1,(cI w).2.2.2.2.2.2.2.2.2.2.2.2) (oO (aT f).1 (aT f).2.1 (aT f).2.2).1 0 ((oO (aT f).1 (aT f).2.1 (aT f).2.2).2.2.2.2.2.2.1,(oO (aT f).1 (aT f).2.1 (aT f).2.2).2.2.2.2.2.2.2.1,(oO (aT f).1 (aT f).2.1 (aT f).2.2).2.2.2.2.2.2.2.2.1,(oO (aT f).1 (aT f).2.1 (aT f).2.2).2.2.2.2.2.2.2.2.2.2.2.2.2.2.2.2.2.2.1,(oO (aT f).1 (aT f).2.1 (aT f).2.2).2.2.2.2.2.2.2.2.2.1,(oO (aT f).1 (aT f).2.1 (aT f).2.2).2.2.2.2.2.2.2.2.2.2.1,(oO (aT f).1 (aT f).2.1 (aT f).2.2).2.2.2.2.2.2.2.2.2.2.2.1,(oO (aT f).1 (aT f).2.1 (aT f).2.2).2.2.2.2.2.2.2.2.2.2.2.2.1,(oO (aT f).1 (aT f).2.1 (aT f).2.2).2.2.2.2.2.2.2.2.2.2.2.2.2.1,(oO (aT f).1 (aT f).2.1 (aT f).2.2).2.2.2.2.2.2.2.2.2.2.2.2.2.2.2.2.2.2.2)=some (cI (bX (eQ w ((aD w).set k (aT f).1)) (aT f).1.1 0 (aT f).2.1)):=aPu (w:=eQ w ((aD w).set k (aT f).1)) n1 n2 n3 k2 k3
   rw [e]
   simp only [hd,hd1,hd2,fS,bUf,hf',zZ,aA,aO,bNg hft,hwr]
   cases hb:(aT f).2.2
   ·rfl
   ·rw [hb] at e1
    rw [zT rfl]
    show Option.bind (cond true _ _) _=_
    rw [zZ]
    show Option.bind (Option.bind (cY _ _ 0 _) fun y12=>_) _=_
    rw [e1]
    rfl
  ·have hd:decide ((((aD w0).length:Nat):Int)<((cI w).2.1.length:Int))=false:=zW (by have :(cI w).2.1.length=(aD w0).length:=hn;omega)
   simp only [hd,zY]
  ·rfl


def Ans {α:Type} (o:Option α) (P:α→Prop):Prop:= ∃ y,o=some y∧P y

theorem bJ8 {S R:Type} {step:S→Option (S⊕R)} (I:Nat→S→Prop) (Q:R→Prop) (h: ∀ n s,I n s→(∃ r,step s=some (.inr r)∧Q r)∨ ∃ m s',m<n∧step s=some (.inl s')∧I m s') (n:Nat): ∀ s,I n s→Ans (aC step s) Q:=by
 induction n using Nat.strongRecOn with
 | ind n ih=>
  intro s hs
  rcases h n s hs with ⟨r,h1,h2⟩ | ⟨m,s',h1,h2,h3⟩
  ·exact ⟨r,bU h1,h2⟩
  ·obtain ⟨r,h4,h5⟩:=ih m h1 s' h3
   exact ⟨r,(eE h2).trans h4,h5⟩

theorem fY {S R T:Type} {step:S→Option (S⊕R)} (I:Nat→S→Prop) (Q:R→Prop) {k:R→Option T} {G:Option T→Prop} (h: ∀ n s,I n s→(∃ r,step s=some (.inr r)∧Q r)∨ ∃ m s',m<n∧step s=some (.inl s')∧I m s') (n:Nat) (s:S) (hs:I n s) (hk: ∀ r,Q r→G (k r)):G (Option.bind (aC step s) k):=by
 obtain ⟨r,h1,h2⟩:=bJ8 I Q h n s hs
 rw [h1]
 exact hk r h2


theorem bV {S R T:Type} {step:S→Option (S⊕R)} (len:Nat) (pos:S→Int) (J:Nat→S→Prop) (Q:R→Prop) {k:R→Option T} {G:Option T→Prop}
  (h: ∀ (i:Nat) (s:S),i<len→pos s=(i:Int)→J i s→(∃ r,step s=some (.inr r)∧Q r)∨ ∃ s',step s=some (.inl s')∧pos s'=((i+1:Nat):Int)∧J (i+1) s')
  (he: ∀ s:S,pos s=(len:Int)→J len s→ ∃ r,step s=some (.inr r)∧Q r) (i0:Nat) (s0:S) (hi:i0<=len) (hp:pos s0=(i0:Int)) (hJ:J i0 s0) (hk: ∀ r,Q r→G (k r)):G (Option.bind (aC step s0) k):=by
 refine fY (fun n s=> ∃ i:Nat,pos s=(i:Int)∧i+n=len∧J i s) Q ?_ (len - i0) s0 ⟨i0,hp,by omega,hJ⟩ hk
 rintro n s ⟨i,h1,h2,h3⟩
 cases n with
 | zero=>
  have e:i=len:=by omega
  subst e
  exact .inl (he s h1 h3)
 | succ n=>
  rcases h i s (by omega) h1 h3 with h4 | ⟨s',h4,h5,h6⟩
  ·exact .inl h4
  ·exact .inr ⟨n,s',by omega,h4,i+1,h5,by omega,h6⟩

theorem bK {n:Int} (h0: -1000000000000<=n) (h1:n<=1000000000000):wr n=n:=wri (by omega) (by omega)

theorem bE {n:Nat} (h:n<=1000000000):wr ((n:Int)+1)=((n+1:Nat):Int):=by rw [bK (by omega) (by omega)];omega

end Go.Proofs.YtecighmpdcffcaaGreat
