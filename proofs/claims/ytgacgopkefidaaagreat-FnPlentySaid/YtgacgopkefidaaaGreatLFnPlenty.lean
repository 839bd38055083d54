/-
  The plain part of: Law FnPlenty: for every code no more packets leave through an interface than its capacity, whatever happens. Conditions: none.
-/
import Derived.Test.YtgacgopkefidaaaGreatQ1FnPlenty
set_option linter.unusedVariables false
set_option linter.unusedSimpArgs false
set_option maxRecDepth 100000
namespace Go.Proofs.YtgacgopkefidaaaGreat.fnPlenty
open Go.Ab Go.V
theorem law (code:den (.sl tb)) (w0:Wf (.sl tb) code):l_FnPlenty code=some true:=by
 by_cases hbig:(code.length:Int)>1048576
 ·unfold l_FnPlenty l_big
  rw [decide_eq_true hbig];rfl
 have hl:code.length≤1048576:=by omega
 obtain ⟨v,l,w,e1,hv,hr,hn⟩:=drawN2_ans hl
 have hrun:=hr.run hv (by omega)
 have htop:=hrun.top
 have ha:(nT w).1.length≤8:=by rw [htop];exact hv.top.len
 have hk:(nT w).2.length≤100:=by rw [htop];exact hv.top.links
 have hg:=hrun.gate
 obtain ⟨⟨as,ls⟩,⟨dn,co⟩,⟨cap,res,us⟩,now,dead,fly,flows,box,drop⟩:=w
 have ha:as.length≤8:=ha
 have hk:ls.length≤100:=hk
 have hg:OkS (cap,res,us) now:=hg
 have hus:us.length≤1000000:=by
  have h1:=hrun.keep.tot
  have h2:=net_tot ((as,ls),(dn,co),(cap,res,us),now,dead,fly,flows,box,drop)
  have h3:tot (.sl tUs) us=us.length:=tot_flatL rfl
  have h4:tot (.sl tUs) (nG ((as,ls),(dn,co),(cap,res,us),now,dead,fly,flows,box,drop)).2.2=tot (.sl tUs) us:=rfl
  omega
 have hrl:=hg.res.len
 have hrl:res.length≤40:=hrl
 unfold l_FnPlenty l_big
 simp only [e1,obind_some,decide_eq_false hbig,cond_false,netQ]
 refine loop_up (G:=fun o=>o=some true) as.length (fun s:Int=>s) (fun _ _=>True) (fun r:Unit⊕Bool=>r= .inl ()) ?_ ?_ 0 (0:Int) (Nat.zero_le _) rfl trivial ?_
 ·rintro i _ hi rfl _
  right
  simp only [decide_eq_true (show (i:Int)<(as.length:Int) by omega),cond_true,i_doors (t:=(as,ls)) (r:=(i:Int)) (show ls.length≤_ by omega),obind_some,Option.bind_assoc]
  have hdl:=doors_len (as,ls) (i:Int)
  have hdl:(doors (as,ls) (i:Int)).length≤2 * ls.length:=hdl
  refine loop_up (G:=fun o=> ∃ s',o=some (Sum.inl s')∧s'=((i+1:Nat):Int)∧True) (doors (as,ls) (i:Int)).length (fun s:Int=>s) (fun _ _=>True) (fun r:Unit⊕(Int⊕(Unit⊕Bool))=>r= .inl ()) ?_ ?_ 0 (0:Int) (Nat.zero_le _) rfl trivial ?_
  ·rintro j _ hj rfl _
   right
   have hs:=hg.sent (show us.length≤1000000 from hus) (i:Int) (doors (as,ls) (i:Int))[j]
   have hs:sentU us (i:Int) (doors (as,ls) (i:Int))[j]≤cap:=hs
   have ed:decide (sentU us (i:Int) (doors (as,ls) (i:Int))[j]>cap)=false:=decide_eq_false (by omega)
   simp only [decide_eq_true (show (j:Int)<((doors (as,ls) (i:Int)).length:Int) by omega),cond_true,idx_nat,List.getElem?_eq_getElem hj,obind_some,i_sent (g:=(cap,res,us)) (show us.length≤_ by omega),ed,cond_false]
   exact ⟨_,rfl,wr_succ (by omega),trivial⟩
  ·rintro _ rfl _
   exact ⟨.inl (),by simp only [decide_eq_false (Int.lt_irrefl _),cond_false],rfl⟩
  ·rintro r rfl
   exact ⟨_,rfl,wr_succ (by omega),trivial⟩
 ·rintro _ rfl _
  exact ⟨.inl (),by simp only [decide_eq_false (Int.lt_irrefl _),cond_false],rfl⟩
 ·rintro r rfl
  simp only [Sum.elim_inl,i_validS (g:=(cap,res,us)) (show res.length≤_ by omega) (show us.length≤_ by omega),obind_some]
  rw [okS_iff.2 hg]
end Go.Proofs.YtgacgopkefidaaaGreat.fnPlenty
