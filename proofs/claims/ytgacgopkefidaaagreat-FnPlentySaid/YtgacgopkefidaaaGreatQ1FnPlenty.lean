/-
  Facts and plain laws: what the functions compute, in plain words. Conditions: as each says.
-/
import Derived.Test.YtgacgopkefidaaaGreatQ0FnPlenty
set_option linter.unusedVariables false
set_option linter.unusedSimpArgs false
set_option maxRecDepth 100000
namespace Go.Proofs.YtgacgopkefidaaaGreat
open Go.Ab Go.V
theorem grow_in {code:List Int} (hl:code.length≤1048576) {as:List (den tAS)} {ls:List (den tLk)} (ht:TopD as ls) (k:Int) {c:List Int} {p h:Int} (hc:Cur code (c,p,h)):SegN (as.length:Int) code (s_l9Grow (c,p,h) (as,ls) k):=by
 have hlen:=ht.len
 have hlk:=ht.links
 unfold s_l9Grow
 simp only [both_self,dup_self,dup3_self,dup4_self,dup5_self]
 refine loop_up (G:=SegN (as.length:Int) code) as.length (fun s:Int×List Int=>s.1) (fun i t=>t.2.length≤i∧ ∀ x∈t.2,0≤x∧x<(as.length:Int)) (fun r:List Int=>r.length≤8∧ ∀ x∈r,0≤x∧x<(as.length:Int)) ?_ ?_ 0 ((0:Int),[]) (by omega) rfl ⟨by simp,fun d hd=>(List.not_mem_nil hd).elim⟩ ?_
 ·rintro i ⟨_,l⟩ hi rfl ⟨g1,g2⟩
  simp only at g1 g2
  right
  simp only [decide_eq_true (show (i:Int)<(as.length:Int) by omega),cond_true,idx_nat,List.getElem?_eq_getElem hi,obind_some,apOk_le (b:=8) (n:=l.length) (m:=1) (by decide) (by omega),wr_succ (show i≤1000000000 by omega)]
  cases as[i].2.1 with
  | true=>exact ⟨_,rfl,rfl,by simp;omega,fun x hx=>by
    rcases List.mem_append.1 hx with hx | hx
    ·exact g2 x hx
    ·rw [List.mem_singleton.1 hx];omega⟩
  | false=>exact ⟨_,rfl,rfl,by show l.length≤i+1;omega,g2⟩
 ·rintro ⟨_,l⟩ rfl ⟨g1,g2⟩
  exact ⟨l,by simp only [decide_eq_false (Int.lt_irrefl _),cond_false],by simp only at g1;omega,g2⟩
 rintro cores ⟨g1,g2⟩
 obtain ⟨v1,c1,p1,h1,e1,r1,k1⟩:=below_ans hl (n:=50) (by decide) (by decide) hc
 obtain ⟨v2,c2,p2,h2,e2,r2,k2⟩:=below_big hl (n:=1000000) (by decide) k1
 simp only [e1,e2,obind_some]
 by_cases h0:cores.length=0
 ·rw [show ((cores.length:Int)==0)=true by rw [beq_iff_eq];omega,cond_true]
  exact ⟨_,_,_,_,_,_,rfl,⟨by simp,fun x hx=>(List.not_mem_nil hx).elim⟩,k2⟩
 rw [show ((cores.length:Int)==0)=false by rw [beq_eq_false_iff_ne];omega,cond_false]
 obtain ⟨v3,c3,p3,h3,e3,r3,k3⟩:=below_ans hl (n:=(cores.length:Int)) (by omega) (by omega) k2
 obtain ⟨m3,rfl⟩:=Int.eq_ofNat_of_zero_le r3.1
 have hm3:m3<cores.length:=by omega
 have hr:=g2 cores[m3] (List.getElem_mem hm3)
 simp only [e3,obind_some,decide_eq_true (show (0:Int)≤(m3:Int) by omega),decide_eq_true (show (m3:Int)<(cores.length:Int) by omega),cond_true,Int.toNat_natCast,List.getElem?_eq_getElem hm3]
 generalize cores[m3]=r at hr
 refine loop_up (G:=SegN (as.length:Int) code) 5 (fun s:GrS=>s.2.2.1) (fun i s=>(0≤s.1∧s.1<(as.length:Int))∧(s.2.2.2.2.2.1.length=i∧InN (as.length:Int) s.2.2.2.2.2.1)∧Cur code s.2.2.2.2.2.2) (fun z:((Int×Int×List (den tHop)×List Int×Int×Int)⊕(Int×Int×List (den tHop)×List Int×Int×Int))=> ∃ a b hs c p h,(z= .inl (a,b,hs,c,p,h)∨z= .inr (a,b,hs,c,p,h))∧(hs.length≤5∧InN (as.length:Int) hs)∧Cur code (c,p,h)) ?_ ?_ 0 (r,(0:Int),(0:Int),v1,v2,[],c3,p3,h3) (by omega) rfl ⟨hr,⟨rfl,fun x hx=>(List.not_mem_nil hx).elim⟩,k3⟩ ?_
 ·rintro i ⟨r,inn,_,ts,be,hs,c4,p4,h4⟩ hi rfl ⟨b1,⟨b2,b2'⟩,b3⟩
  simp only at b1 b2 b2' b3
  obtain ⟨rn,rfl⟩:=Int.eq_ofNat_of_zero_le b1.1
  have hrn:rn<as.length:=by omega
  obtain ⟨ds,ek,dl,dm⟩:=kinds_ans (t:=(as,ls)) (r:=(rn:Int)) (k:=k) (by show ls.length≤_;omega)
  have dl:ds.length≤2 * ls.length:=dl
  have hout: ∃ out c5 p5 h5,(Option.bind (cond (decide ((ds.length:Int)>(0:Int))) (Option.bind (s_l1Once (c4,p4,h4) (5:Int)) fun y35=>some (!y35.1,y35.2.1,y35.2.2.1,y35.2.2.2)) (some (false,c4,p4,h4))) fun (s36:Bool×List Int×Int×Int)=>cond s36.1 (Option.bind (s_l1Below (s36.2.1,s36.2.2.1,s36.2.2.2) (ds.length:Int)) fun y37=>cond (decide ((0:Int)≤y37.1)) (cond (decide (y37.1<(ds.length:Int))) (Option.bind ds[y37.1.toNat]? fun x38=>some (x38,y37.2.1,y37.2.2.1,y37.2.2.2)) none) none) (some ((0:Int),s36.2.1,s36.2.2.1,s36.2.2.2)):Option (Int×List Int×Int×Int))=some (out,c5,p5,h5)∧(out=0∨out∈doors (as,ls) (rn:Int))∧Cur code (c5,p5,h5):=by
   by_cases hd:(ds.length:Int)>0
   ·obtain ⟨v5,c5,p5,h5,e5,k5⟩:=once_ans hl (n:=5) (by decide) (by decide) b3
    simp only [decide_eq_true hd,cond_true,e5,obind_some]
    cases v5 with
    | true=>exact ⟨0,c5,p5,h5,rfl,.inl rfl,k5⟩
    | false=>
     obtain ⟨v6,c6,p6,h6,e6,r6,k6⟩:=below_ans hl (n:=(ds.length:Int)) hd (by omega) k5
     obtain ⟨m6,rfl⟩:=Int.eq_ofNat_of_zero_le r6.1
     have hm6:m6<ds.length:=by omega
     exact ⟨ds[m6],c6,p6,h6,by simp only [Bool.not_false,cond_true,e6,obind_some,decide_eq_true (show (0:Int)≤(m6:Int) by omega),decide_eq_true (show (m6:Int)<(ds.length:Int) by omega),Int.toNat_natCast,List.getElem?_eq_getElem hm6],.inr (dm _ (List.getElem_mem hm6)),k6⟩
   ·exact ⟨0,c4,p4,h4,by simp only [decide_eq_false hd,cond_false,obind_some],.inl rfl,b3⟩
  obtain ⟨out,c5,p5,h5,eo,ho,k5⟩:=hout
  obtain ⟨al,ea,hal⟩:=segA_ans (s:=(ts,be,hs)) (by show hs.length≤_;omega)
  have hal:al.length=hs.length:=hal
  have er:=s_remote (t:=(as,ls)) (r:=(rn:Int)) (d:=out) (show ls.length≤68719476736 by omega)
  have hfar:out∈doors (as,ls) (rn:Int)→0≤(remote (as,ls) (rn:Int) out).1∧(remote (as,ls) (rn:Int) out).1<(as.length:Int):=fun hd=>by
   have :=remote_as (t:=(as,ls)) ht.val hd
   unfold asOk at this
   obtain ⟨h0,h1⟩:=inR_iff.1 this
   exact ⟨h0,by simp only at h1;omega⟩
  generalize remote (as,ls) (rn:Int) out=fd at er hfar
  obtain ⟨far,door⟩:=fd
  simp only at hfar
  obtain ⟨bb,eb⟩: ∃ b:Bool,(cond (out != (0:Int)) (Option.bind (s_SegmentASes (ts,be,hs)) fun y41=>Option.bind (s_l9Has y41 far) fun y42=>cond y42 (some true) (cond (far==(rn:Int)) (some true) (some (inn==out)))) (some (inn==out)))=some b:=by
   rw [ea,obind_some,s_hasI (by omega),obind_some]
   cases out != 0<;>cases hasI al far<;>cases far==(rn:Int)<;>exact ⟨_,rfl⟩
  obtain ⟨v6,c6,p6,h6,e6,r6,k6⟩:=below_ans hl (n:=50) (by decide) (by decide) k5
  obtain ⟨bt,et⟩:=beta_ans (s:=(ts,be,hs)) (hs.length:Int) (by show hs.length≤_;omega)
  have ix:as[rn]? =some as[rn]:=List.getElem?_eq_getElem hrn
  have hap:apOk 40 hs.length 1=true:=apOk_le (by decide) (by omega)
  simp only [decide_eq_true (show (i:Int)<5 by omega),cond_true,ek,obind_some]
  rw [eo,obind_some]
  simp only [er,obind_some]
  rw [eb,obind_some]
  have body: ∀ o:Int,o=0∨o=out→(∃ r,(cond (o==(0:Int)) (some (Sum.inr (Sum.inr (ts,be,hs++[(((rn:Int),inn,o,wr ((wr (ts+(50:Int)))+v6),macH as[rn].2.2 ts bt ((rn:Int),inn,o,wr ((wr (ts+(50:Int)))+v6),0)):den tHop)],c6,p6,h6)))) (some (Sum.inl (far,door,wr ((i:Int)+(1:Int)),ts,be,hs++[(((rn:Int),inn,o,wr ((wr (ts+(50:Int)))+v6),macH as[rn].2.2 ts bt ((rn:Int),inn,o,wr ((wr (ts+(50:Int)))+v6),0)):den tHop)],c6,p6,h6))):Option (GrS⊕((Int×Int×List (den tHop)×List Int×Int×Int)⊕(Int×Int×List (den tHop)×List Int×Int×Int))))=some (.inr r)∧(∃ a b hs c p h,(r= .inl (a,b,hs,c,p,h)∨r= .inr (a,b,hs,c,p,h))∧(hs.length≤5∧InN (as.length:Int) hs)∧Cur code (c,p,h)))∨
    ∃ s':GrS,(cond (o==(0:Int)) (some (Sum.inr (Sum.inr (ts,be,hs++[(((rn:Int),inn,o,wr ((wr (ts+(50:Int)))+v6),macH as[rn].2.2 ts bt ((rn:Int),inn,o,wr ((wr (ts+(50:Int)))+v6),0)):den tHop)],c6,p6,h6)))) (some (Sum.inl (far,door,wr ((i:Int)+(1:Int)),ts,be,hs++[(((rn:Int),inn,o,wr ((wr (ts+(50:Int)))+v6),macH as[rn].2.2 ts bt ((rn:Int),inn,o,wr ((wr (ts+(50:Int)))+v6),0)):den tHop)],c6,p6,h6))):Option (GrS⊕((Int×Int×List (den tHop)×List Int×Int×Int)⊕(Int×Int×List (den tHop)×List Int×Int×Int))))=some (.inl s')∧s'.2.2.1=((i+1:Nat):Int)∧(0≤s'.1∧s'.1<(as.length:Int))∧(s'.2.2.2.2.2.1.length=i+1∧InN (as.length:Int) s'.2.2.2.2.2.1)∧Cur code s'.2.2.2.2.2.2:=by
   intro o hoo
   cases hz:(o==(0:Int)) with
   | true=>exact .inl ⟨_,rfl,ts,be,_,c6,p6,h6,.inr rfl,⟨by simp;omega,b2'.snoc ⟨by simp only;omega,by simp only;omega⟩⟩,k6⟩
   | false=>
    refine .inr ⟨_,rfl,wr_succ (show i≤1000000000 by omega),?_,⟨by simp [b2],b2'.snoc ⟨by simp only;omega,by simp only;omega⟩⟩,k6⟩
    have hne:o≠0:=by simpa using hz
    rcases hoo with h | rfl
    ·exact absurd h hne
    ·rcases ho with h | h
     ·exact absurd h hne
     ·exact hfar h
  cases bb with
  | true=>
   cases inn==(0:Int) with
   | true=>exact .inl ⟨_,rfl,ts,be,hs,c5,p5,h5,.inr rfl,⟨by omega,b2'⟩,k5⟩
   | false=>
    have :=body 0 (.inl rfl)
    simpa only [cond_true,cond_false,obind_some,Sum.elim_inl,e6,idx_nat,ix,et,auth_s,hap] using this
  | false=>
   have :=body out (.inr rfl)
   simpa only [cond_true,cond_false,obind_some,Sum.elim_inl,e6,idx_nat,ix,et,auth_s,hap] using this
 ·rintro ⟨r,inn,_,ts,be,hs,c4,p4,h4⟩ rfl ⟨b1,⟨b2,b2'⟩,b3⟩
  simp only at b1 b2 b2' b3
  exact ⟨.inl (ts,be,hs,c4,p4,h4),by simp only [show decide ((((5:Nat):Int))<(5:Int))=false from rfl,cond_false],ts,be,hs,c4,p4,h4,.inl rfl,⟨by omega,b2'⟩,b3⟩
 ·rintro z ⟨a,b,hs,c,p,h,hz,h5,k5⟩
  rcases hz with rfl | rfl
  ·exact ⟨a,b,hs,c,p,h,rfl,h5,k5⟩
  ·exact ⟨a,b,hs,c,p,h,rfl,h5,k5⟩

theorem grow_as {code:List Int} (hl:code.length≤1048576) {as:List (den tAS)} {ls:List (den tLk)} (ht:TopD as ls) (k:Int) {c:List Int} {p h:Int} (hc:Cur code (c,p,h)):SegQ code (s_l9Grow (c,p,h) (as,ls) k):=by
 obtain ⟨a,b,hs,c1,p1,h1,e,⟨l,m⟩,k1⟩:=grow_in hl ht k hc
 exact ⟨a,b,hs,c1,p1,h1,e,⟨l,m.as (by have :=ht.len;omega)⟩,k1⟩

theorem grow_ans {code:List Int} (hl:code.length≤1048576) {as:List (den tAS)} {ls:List (den tLk)} (ht:TopD as ls) (k:Int) {c:List Int} {p h:Int} (hc:Cur code (c,p,h)):SegP code (s_l9Grow (c,p,h) (as,ls) k):=by
 obtain ⟨a,b,hs,c1,p1,h1,e,⟨l,_⟩,k1⟩:=grow_as hl ht k hc
 exact ⟨a,b,hs,c1,p1,h1,e,l,k1⟩

theorem wfS_ans {as:List (den tAS)} {ls:List (den tLk)} (ht:TopD as ls) {s:den tSg} (h:s.2.2.length≤1000): ∃ b,s_WellFormed (as,ls) s=some b∧(b=true→ ∃ x,s.2.2[0]? =some x∧asOk (as,ls) x.1=true):=by
 obtain ⟨al,ea,hal⟩:=segA_ans (s:=s) (by omega)
 have hlen:=ht.len
 have hlk:=ht.links
 unfold s_WellFormed
 rw [s_in,obind_some]
 cases hc:inR (s.2.2.length:Int) 1 8 with
 | false=>exact ⟨false,rfl,fun e=>by cases e⟩
 | true=>
  obtain ⟨h0,h1⟩:=inR_iff.1 hc
  have h00:0<s.2.2.length:=by omega
  have i0:idx s.2.2 (0:Int)=some s.2.2[0]:=by rw [show (0:Int)=((0:Nat):Int) from rfl,idx_nat,List.getElem?_eq_getElem h00]
  simp only [Bool.not_true,cond_false,i0,obind_some]
  cases s.2.2[0].2.1 != (0:Int) with
  | true=>exact ⟨false,rfl,fun e=>by cases e⟩
  | false=>
   simp only [cond_false]
   rw [show ((s.1,s.2.1,s.2.2):den tSg)=s from rfl,ea,obind_some]
   refine loop_up (G:=fun o=> ∃ b,o=some b∧(b=true→ ∃ x,s.2.2[0]? =some x∧asOk (as,ls) x.1=true)) s.2.2.length (fun s:List Int×Int=>s.2) (fun i t=>t.1=al∧(0<i→asOk (as,ls) s.2.2[0].1=true)) (fun r:Unit⊕Bool=>r= .inl ()∧asOk (as,ls) s.2.2[0].1=true∨r= .inr false) ?_ ?_ 0 (al,(0:Int)) (by omega) rfl ⟨rfl,fun h=>by omega⟩ ?_
   ·rintro i ⟨_,_⟩ hi rfl ⟨rfl,g2⟩
    rename_i al
    have ix:idx s.2.2 (i:Int)=some s.2.2[i]:=by rw [idx_nat,List.getElem?_eq_getElem hi]
    simp only [decide_eq_true (show (i:Int)<(s.2.2.length:Int) by omega),cond_true,ix,obind_some]
    rw [show ((s.2.2[i].1,s.2.2[i].2.1,s.2.2[i].2.2.1,s.2.2[i].2.2.2.1,s.2.2[i].2.2.2.2):den tHop)=s.2.2[i] from rfl,s_validH,obind_some,s_asOk (t:=(as,ls)) (show as.length≤_ by omega),obind_some]
    have e1:slOk (0:Int) (i:Int) (al.length:Int)=true:=slOk_take (by rw [hal];exact hi)
    have e2:s_l9Has (cut al (0:Int) (i:Int)) s.2.2[i].1=some (hasI (cut al (0:Int) (i:Int)) s.2.2[i].1):=s_hasI (by rw [cut_take];exact Nat.le_trans (List.length_take_le _ _) (by omega))
    obtain ⟨b,eb,hb⟩: ∃ b:Bool,(cond (!(validH s.2.2[i])) (some true) (cond (!(asOk (as,ls) s.2.2[i].1)) (some true) (cond (slOk (0:Int) (i:Int) (al.length:Int)) (Option.bind (s_l9Has (cut al (0:Int) (i:Int)) s.2.2[i].1) fun y20=>cond y20 (some true) (cond (s.2.2[i].2.2.1==(0:Int)) (some (decide ((i:Int)<(wr ((s.2.2.length:Int) - (1:Int)))))) (some false))) none)))=some b∧(b=false→asOk (as,ls) s.2.2[i].1=true):=by
     rw [e1,e2,obind_some]
     cases validH s.2.2[i]
     ·exact ⟨true,rfl,fun e=>by cases e⟩
     ·cases asOk (as,ls) s.2.2[i].1
      ·exact ⟨true,rfl,fun e=>by cases e⟩
      ·cases hasI (cut al (0:Int) (i:Int)) s.2.2[i].1
       ·cases s.2.2[i].2.2.1==(0:Int)
        ·exact ⟨false,rfl,fun _=>rfl⟩
        ·exact ⟨_,rfl,fun _=>rfl⟩
       ·exact ⟨true,rfl,fun _=>rfl⟩
    rw [eb,obind_some]
    cases b with
    | true=>exact .inl ⟨.inr false,rfl,.inr rfl⟩
    | false=>
     have hok:=hb rfl
     by_cases hp:i=0
     ·subst hp
      refine .inr ⟨(al,((1:Nat):Int)),?_,rfl,rfl,fun _=>hok⟩
      rfl
     ·have hi1:i - 1<s.2.2.length:=by omega
      have w1:wr ((i:Int) - 1)=((i - 1:Nat):Int):=by rw [wr_small (by omega) (by omega)];omega
      have er:=s_remote (t:=(as,ls)) (r:=s.2.2[i - 1].1) (d:=s.2.2[i - 1].2.2.1) (show ls.length≤68719476736 by omega)
      simp only [cond_false,decide_eq_true (show (i:Int)>0 by omega),cond_true,w1,idx_nat,List.getElem?_eq_getElem hi1,obind_some,er]
      obtain ⟨b2,eb2⟩: ∃ b:Bool,(cond ((remote (as,ls) s.2.2[i - 1].1 s.2.2[i - 1].2.2.1).1 != s.2.2[i].1) (some true) (some ((remote (as,ls) s.2.2[i - 1].1 s.2.2[i - 1].2.2.1).2 != s.2.2[i].2.1)))=some b:=by
       cases (remote (as,ls) s.2.2[i - 1].1 s.2.2[i - 1].2.2.1).1 != s.2.2[i].1<;>exact ⟨_,rfl⟩
      rw [eb2,obind_some]
      cases b2 with
      | true=>exact .inl ⟨.inr false,rfl,.inr rfl⟩
      | false=>
       refine .inr ⟨(al,((i+1:Nat):Int)),?_,rfl,rfl,fun _=>g2 (by omega)⟩
       simp only [cond_false,obind_some,Sum.elim_inl,wr_succ (show i≤1000000000 by omega)]
   ·rintro ⟨_,_⟩ rfl ⟨rfl,g2⟩
    exact ⟨.inl (),by simp only [decide_eq_false (Int.lt_irrefl _),cond_false],.inl ⟨rfl,g2 h00⟩⟩
   ·rintro r (⟨rfl,hr⟩ | rfl)
    ·exact ⟨true,rfl,fun _=>⟨s.2.2[0],List.getElem?_eq_getElem h00,hr⟩⟩
    ·exact ⟨false,rfl,fun e=>by cases e⟩

theorem bad_ans {as:List (den tAS)} {ls:List (den tLk)} (ht:TopD as ls) {s:den tSg} (h:s.2.2.length≤1000): ∃ v,s_FirstInvalidHop (as,ls) s=some v:=by
 have hlen:=ht.len
 unfold s_FirstInvalidHop
 refine loop_up (G:=fun o=> ∃ b,o=some b) s.2.2.length (fun s:Int=>s) (fun i t=>True) (fun r:Unit⊕Int=>True) ?_ ?_ 0 (0:Int) (by omega) rfl trivial ?_
 ·rintro i _ hi rfl _
  obtain ⟨bt,et⟩:=beta_ans (s:=s) (i:Int) (by omega)
  have et:s_BetaAt (s.1,s.2.1,s.2.2) (i:Int)=some bt:=et
  have ev:=s_verH (t:=(as,ls)) (ts:=s.1) (beta:=bt) (h:=s.2.2[i]) (show as.length≤68719476736 by omega)
  have ev:s_VerifyHop (as,ls) s.1 bt (s.2.2[i].1,s.2.2[i].2.1,s.2.2[i].2.2.1,s.2.2[i].2.2.2.1,s.2.2[i].2.2.2.2)=some _:=ev
  simp only [decide_eq_true (show (i:Int)<(s.2.2.length:Int) by omega),cond_true,idx_nat,List.getElem?_eq_getElem hi,obind_some,et,ev,wr_succ (show i≤1000000000 by omega)]
  cases verH (as,ls) s.1 bt s.2.2[i] with
  | true=>exact .inr ⟨_,rfl,rfl,trivial⟩
  | false=>exact .inl ⟨_,rfl,trivial⟩
 ·rintro _ rfl _
  exact ⟨.inl (),by simp only [decide_eq_false (Int.lt_irrefl _),cond_false],trivial⟩
 ·rintro r _
  cases r with
  | inl u=>exact ⟨_,rfl⟩
  | inr v=>exact ⟨_,rfl⟩

theorem kindS_ans {as:List (den tAS)} {ls:List (den tLk)} (ht:TopD as ls) {s:den tSg} (h:s.2.2.length≤1000): ∃ v,s_SegmentKind (as,ls) s=some v:=by
 have hlen:=ht.len
 have hlk:=ht.links
 obtain ⟨b,eb,hb⟩:=wfS_ans ht h
 unfold s_SegmentKind
 have eb:s_WellFormed (as,ls) (s.1,s.2.1,s.2.2)=some b:=eb
 rw [eb,obind_some]
 cases b with
 | false=>exact ⟨0,rfl⟩
 | true=>
  obtain ⟨x,hx,hok⟩:=hb rfl
  obtain ⟨h0,rfl⟩:=List.getElem?_eq_some_iff.1 hx
  obtain ⟨y,hy,iy⟩:=as_at hok
  have ef:s_FirstAS (s.1,s.2.1,s.2.2)=some s.2.2[0].1:=by
   unfold s_FirstAS
   rw [show ((s.2.2.length:Int)==0)=false by rw [beq_eq_false_iff_ne];omega,cond_false,show (0:Int)=((0:Nat):Int) from rfl,idx_nat,List.getElem?_eq_getElem h0,obind_some]
  have iy:idx as s.2.2[0].1=some y:=iy
  simp only [Bool.not_true,cond_false,ef,iy,obind_some]
  cases y.2.1 with
  | false=>exact ⟨0,rfl⟩
  | true=>
   simp only [Bool.not_true,cond_false]
   refine loop_up (G:=fun o=> ∃ b,o=some b) s.2.2.length (fun s:Int×Int=>s.2) (fun i t=>True) (fun r:Int⊕Int=>True) ?_ ?_ 0 ((0:Int),(0:Int)) (by omega) rfl trivial ?_
   ·rintro i ⟨k,_⟩ hi rfl _
    have ek:=s_kindI (t:=(as,ls)) (r:=s.2.2[i].1) (d:=s.2.2[i].2.2.1) (show ls.length≤68719476736 by omega)
    simp only [decide_eq_true (show (i:Int)<(s.2.2.length:Int) by omega),cond_true,idx_nat,List.getElem?_eq_getElem hi,obind_some,ek,wr_succ (show i≤1000000000 by omega)]
    cases s.2.2[i].2.2.1==(0:Int) with
    | true=>exact .inr ⟨_,rfl,rfl,trivial⟩
    | false=>
     cases k != (0:Int) with
     | false=>exact .inr ⟨_,rfl,rfl,trivial⟩
     | true=>
      simp only [cond_true,cond_false,obind_some]
      cases kindI (as,ls) s.2.2[i].1 s.2.2[i].2.2.1 != k with
      | true=>exact .inl ⟨_,rfl,trivial⟩
      | false=>exact .inr ⟨_,rfl,rfl,trivial⟩
   ·rintro ⟨k,_⟩ rfl _
    exact ⟨.inl k,by simp only [decide_eq_false (Int.lt_irrefl _),cond_false],trivial⟩
   ·rintro r _
    cases r with
    | inr v=>exact ⟨_,rfl⟩
    | inl v=>
     simp only [Sum.elim_inl]
     cases v==(1:Int)
     ·cases v==(2:Int)<;>exact ⟨_,rfl⟩
     ·exact ⟨_,rfl⟩

theorem validS_ans {as:List (den tAS)} {ls:List (den tLk)} (ht:TopD as ls) {s:den tSg} (h:s.2.2.length≤1000): ∃ b,s_ValidSegment (as,ls) s=some b∧(b=true→s.2.2≠[]):=by
 obtain ⟨b,eb,hb⟩:=wfS_ans ht h
 have hb:b=true→s.2.2≠[]:=fun e he=>by
  obtain ⟨x,hx,_⟩:=hb e
  rw [he] at hx
  cases hx
 obtain ⟨v,ev⟩:=bad_ans ht h
 obtain ⟨k,ek⟩:=kindS_ans ht h
 have eb:s_WellFormed (as,ls) (s.1,s.2.1,s.2.2)=some b:=eb
 have ev:s_FirstInvalidHop (as,ls) (s.1,s.2.1,s.2.2)=some v:=ev
 have ek:s_SegmentKind (as,ls) (s.1,s.2.1,s.2.2)=some k:=ek
 unfold s_ValidSegment
 simp only [eb,ev,ek,s_in,s_resid,obind_some]
 cases b
 ·exact ⟨_,rfl,fun e=>Bool.noConfusion e⟩
 ·have hb:=hb rfl
  cases decide (v<0)
  ·exact ⟨_,rfl,fun _=>hb⟩
  ·cases k != (0:Int)
   ·exact ⟨_,rfl,fun _=>hb⟩
   ·cases inR s.1 0 1000000<;>exact ⟨_,rfl,fun _=>hb⟩

theorem term_ans {s:den tSg} (h:s.2.2.length≤1000): ∃ b,s_IsTerminated s=some b:=by
 unfold s_IsTerminated
 by_cases h0:(s.2.2.length:Int)>0
 ·have w1:wr ((s.2.2.length:Int) - 1)=((s.2.2.length - 1:Nat):Int):=by rw [wr_small (by omega) (by omega)];omega
  rw [decide_eq_true h0,cond_true,w1,idx_nat,List.getElem?_eq_getElem (by omega),obind_some,obind_some]
  exact ⟨_,rfl⟩
 ·rw [decide_eq_false h0,cond_false]
  exact ⟨_,rfl⟩

theorem sameHs_ans {a b:List (den tHop)} (h:a.length≤1000000): ∃ v,s_l9SameHops a b=some v:=by
 unfold s_l9SameHops
 by_cases hn:a.length=b.length
 ·rw [hn,bne_self_eq_false,cond_false,← hn]
  refine loop_up (G:=fun o=> ∃ b,o=some b) a.length (fun s:Int=>s) (fun i t=>True) (fun r:Unit⊕Bool=>True) ?_ ?_ 0 (0:Int) (by omega) rfl trivial ?_
  ·rintro i _ hi rfl _
   have h2:i<b.length:=by omega
   simp only [decide_eq_true (show (i:Int)<(a.length:Int) by omega),cond_true,idx_nat,List.getElem?_eq_getElem hi,List.getElem?_eq_getElem h2,obind_some,wr_succ (show i≤1000000000 by omega)]
   cases ((a[i].1==b[i].1)&&((a[i].2.1==b[i].2.1)&&((a[i].2.2.1==b[i].2.2.1)&&((a[i].2.2.2.1==b[i].2.2.2.1)&&((a[i].2.2.2.2==b[i].2.2.2.2)&&true))))) with
   | true=>exact .inr ⟨_,rfl,rfl,trivial⟩
   | false=>exact .inl ⟨_,rfl,trivial⟩
  ·rintro _ rfl _
   exact ⟨.inl (),by simp only [decide_eq_false (Int.lt_irrefl _),cond_false],trivial⟩
  ·rintro r _
   cases r with
   | inl u=>exact ⟨_,rfl⟩
   | inr v=>exact ⟨_,rfl⟩
 ·rw [show ((a.length:Int) != (b.length:Int))=true by rw [bne_iff_ne];omega,cond_true]
  exact ⟨_,rfl⟩

theorem eqSeg_ans {a b:den tSg} (h:a.2.2.length≤1000000): ∃ v,s_EqualSegments a b=some v:=by
 obtain ⟨v,e⟩:=sameHs_ans (b:=b.2.2) h
 unfold s_EqualSegments
 rw [e,obind_some]
 cases a.1==b.1
 ·exact ⟨_,rfl⟩
 ·cases a.2.1==b.2.1<;>exact ⟨_,rfl⟩

theorem hasL_ans {l:List (den tSg)} {s:den tSg} (hl:l.length≤1000000) (h: ∀ x∈l,x.2.2.length≤1000): ∃ v,s_l16Has l s=some v:=by
 unfold s_l16Has
 refine loop_up (G:=fun o=> ∃ b,o=some b) l.length (fun s:Int=>s) (fun i t=>True) (fun r:Unit⊕Bool=>True) ?_ ?_ 0 (0:Int) (by omega) rfl trivial ?_
 ·rintro i _ hi rfl _
  obtain ⟨v,e⟩:=eqSeg_ans (a:=l[i]) (b:=s) (by have :=h l[i] (List.getElem_mem hi);omega)
  have e:s_EqualSegments (l[i].1,l[i].2.1,l[i].2.2) (s.1,s.2.1,s.2.2)=some v:=e
  simp only [decide_eq_true (show (i:Int)<(l.length:Int) by omega),cond_true,idx_nat,List.getElem?_eq_getElem hi,obind_some,e,wr_succ (show i≤1000000000 by omega)]
  cases v with
  | false=>exact .inr ⟨_,rfl,rfl,trivial⟩
  | true=>exact .inl ⟨_,rfl,trivial⟩
 ·rintro _ rfl _
  exact ⟨.inl (),by simp only [decide_eq_false (Int.lt_irrefl _),cond_false],trivial⟩
 ·rintro r _
  cases r with
  | inl u=>exact ⟨_,rfl⟩
  | inr v=>exact ⟨_,rfl⟩


structure DbD (n:Nat) (d c:List (den tSg)):Prop where
 down:d.length≤n
 core:c.length≤n
 hd: ∀ x∈d,x.2.2.length≤5
 hc: ∀ x∈c,x.2.2.length≤5
 ha: ∀ x∈d,x.2.2≠[]∧InAS x.2.2

theorem segs_sm {l:List (den tSg)} {n:Nat} (hn:n≤1000) (h:l.length≤n) (hh: ∀ x∈l,x.2.2.length≤5):SmB 68719476736 (.sl tSg) l:=by
 refine ⟨by omega,fun x hx=>⟨trivial,trivial,?_,fun e he=>⟨trivial,trivial,trivial,trivial,trivial⟩⟩⟩
 have :=hh x hx
 show x.2.2.length≤_
 omega

theorem addS_ans {as:List (den tAS)} {ls:List (den tLk)} (ht:TopD as ls) {n:Nat} (hn:n≤100) {d c:List (den tSg)} (hk:DbD n d c) {s:den tSg} (h:s.2.2.length≤5) (ha:InAS s.2.2): ∃ d' c',s_AddSegment (as,ls) (d,c) s=some (d',c')∧DbD (n+1) d' c':=by
 obtain ⟨b1,e1,hb1⟩:=validS_ans ht (s:=s) (by omega)
 obtain ⟨b2,e2⟩:=term_ans (s:=s) (by omega)
 obtain ⟨b3,e3⟩:=hasL_ans (l:=d) (s:=s) (by have :=hk.down;omega) (fun x hx=>by have :=hk.hd x hx;omega)
 obtain ⟨b4,e4⟩:=hasL_ans (l:=c) (s:=s) (by have :=hk.core;omega) (fun x hx=>by have :=hk.hc x hx;omega)
 obtain ⟨k,ek⟩:=kindS_ans ht (s:=s) (by omega)
 have c1:=s_copyGs (segs_sm (by omega) hk.down hk.hd)
 have c2:=s_copyGs (segs_sm (by omega) hk.core hk.hc)
 have c3:=s_copyG (x:=s) (by omega)
 have e5: ∃ b,s_HasSegment (d,c) s=some b:=by
  unfold s_HasSegment
  have e3:s_l16Has d (s.1,s.2.1,s.2.2)=some b3:=e3
  have e4:s_l16Has c (s.1,s.2.1,s.2.2)=some b4:=e4
  simp only [e3,e4,obind_some]
  cases b3<;>exact ⟨_,rfl⟩
 obtain ⟨b5,e5⟩:=e5
 have hdn:=hk.down
 have hcn:=hk.core
 have e1:s_ValidSegment (as,ls) (s.1,s.2.1,s.2.2)=some b1:=e1
 have e2:s_IsTerminated (s.1,s.2.1,s.2.2)=some b2:=e2
 have e5:s_HasSegment (d,c) (s.1,s.2.1,s.2.2)=some b5:=e5
 have ek:s_SegmentKind (as,ls) (s.1,s.2.1,s.2.2)=some k:=ek
 have c3:s_l9Copy (s.1,s.2.1,s.2.2)=some s:=c3
 have same:DbD (n+1) d c:=⟨by omega,by omega,hk.hd,hk.hc,hk.ha⟩
 unfold s_AddSegment
 simp only [c1,c2,obind_some,both_self,dup_self,dup3_self,dup4_self,dup5_self,e1,e2,e5,ek,c3,apOk_le (b:=40) (n:=d.length) (m:=1) (by decide) (by omega),apOk_le (b:=40) (n:=c.length) (m:=1) (by decide) (by omega),cond_true]
 obtain ⟨b6,e6,hb6⟩: ∃ b:Bool,(cond (!b1) (some true) (cond (!b2) (some true) (some b5)))=some b∧(b=false→b1=true):=by
  cases b1
  ·exact ⟨_,rfl,fun e=>Bool.noConfusion e⟩
  ·cases b2<;>exact ⟨_,rfl,fun _=>rfl⟩
 rw [e6,obind_some]
 cases b6 with
 | true=>exact ⟨d,c,rfl,same⟩
 | false=>
  have hne:=hb1 (hb6 rfl)
  cases k==(2:Int) with
  | true=>exact ⟨_,_,rfl,by simp;omega,by simp only;omega,fun x hx=>(List.mem_append.1 hx).elim (hk.hd x) fun hx=>by rw [List.mem_singleton.1 hx];exact h,hk.hc,fun x hx=>(List.mem_append.1 hx).elim (hk.ha x) fun hx=>by rw [List.mem_singleton.1 hx];exact ⟨hne,ha⟩⟩
  | false=>exact ⟨_,_,rfl,by simp only;omega,by simp;omega,hk.hd,fun x hx=>(List.mem_append.1 hx).elim (hk.hc x) fun hx=>by rw [List.mem_singleton.1 hx];exact h,hk.ha⟩

theorem DbD.mono {n m:Nat} {d c:List (den tSg)} (h:DbD n d c) (hm:n≤m):DbD m d c:=⟨Nat.le_trans h.down hm,Nat.le_trans h.core hm,h.hd,h.hc,h.ha⟩

theorem lastA_ans {s:den tSg} (h:s.2.2.length≤1000): ∃ v,s_LastAS s=some v:=by
 unfold s_LastAS
 by_cases h0:s.2.2.length=0
 ·rw [show ((s.2.2.length:Int)==0)=true by rw [beq_iff_eq];omega,cond_true]
  exact ⟨_,rfl⟩
 ·have w1:wr ((s.2.2.length:Int) - 1)=((s.2.2.length - 1:Nat):Int):=by rw [wr_small (by omega) (by omega)];omega
  rw [show ((s.2.2.length:Int)==0)=false by rw [beq_eq_false_iff_ne];omega,cond_false,w1,idx_nat,List.getElem?_eq_getElem (by omega),obind_some]
  exact ⟨_,rfl⟩

theorem lastA_in {s:den tSg} (h:s.2.2.length≤1000) (h0:s.2.2≠[]) (ha:InAS s.2.2): ∃ v,s_LastAS s=some v∧0≤v∧v<8:=by
 have hl:=List.length_pos_iff.2 h0
 unfold s_LastAS
 have w1:wr ((s.2.2.length:Int) - 1)=((s.2.2.length - 1:Nat):Int):=by rw [wr_small (by omega) (by omega)];omega
 rw [show ((s.2.2.length:Int)==0)=false by rw [beq_eq_false_iff_ne];omega,cond_false,w1,idx_nat,List.getElem?_eq_getElem (by omega),obind_some]
 have :=ha _ (List.getElem_mem (show s.2.2.length - 1<s.2.2.length by omega))
 exact ⟨_,rfl,this.1,this.2⟩

theorem firstA_ans {s:den tSg}: ∃ v,s_FirstAS s=some v:=by
 unfold s_FirstAS
 by_cases h0:s.2.2.length=0
 ·rw [show ((s.2.2.length:Int)==0)=true by rw [beq_iff_eq];omega,cond_true]
  exact ⟨_,rfl⟩
 ·rw [show ((s.2.2.length:Int)==0)=false by rw [beq_eq_false_iff_ne];omega,cond_false,show (0:Int)=((0:Nat):Int) from rfl,idx_nat,List.getElem?_eq_getElem (by omega),obind_some]
  exact ⟨_,rfl⟩

theorem pick_ans {code:List Int} (hl:code.length≤1048576) {d:List (den tSg)} (hd:d.length≤200) (h5: ∀ x∈d,x.2.2.length≤5) (ha: ∀ x∈d,x.2.2≠[]∧InAS x.2.2) (k:Int) (hk:0<k∧k≤256) (z:Int) (hz:0≤z∧z<8) {c:List Int} {p h:Int} (hc:Cur code (c,p,h)):
  ∃ v c' p' h',(Option.bind (cond (decide ((d.length:Int)>(0:Int))) (Option.bind (s_l1Once (c,p,h) k) fun y3=>some (!y3.1,y3.2.1,y3.2.2.1,y3.2.2.2)) (some (false,c,p,h))) fun (s4:Bool×List Int×Int×Int)=>cond s4.1 (Option.bind (s_l1Below (s4.2.1,s4.2.2.1,s4.2.2.2) (d.length:Int)) fun y5=>Option.bind (idx d y5.1) fun x6=>Option.bind (s_LastAS (x6.1,x6.2.1,x6.2.2)) fun y7=>some (y7,y5.2.1,y5.2.2.1,y5.2.2.2)) (some (z,s4.2.1,s4.2.2.1,s4.2.2.2)):Option (Int×List Int×Int×Int))=some (v,c',p',h')∧(0≤v∧v<8)∧Cur code (c',p',h'):=by
 by_cases h0:(d.length:Int)>0
 ·obtain ⟨v1,c1,p1,h1,e1,k1⟩:=once_ans hl (n:=k) hk.1 hk.2 hc
  simp only [decide_eq_true h0,cond_true,e1,obind_some]
  cases v1 with
  | true=>exact ⟨z,c1,p1,h1,rfl,hz,k1⟩
  | false=>
   obtain ⟨v2,c2,p2,h2,e2,r2,k2⟩:=below_ans hl (n:=(d.length:Int)) h0 (by omega) k1
   obtain ⟨m2,rfl⟩:=Int.eq_ofNat_of_zero_le r2.1
   have hm:m2<d.length:=by omega
   obtain ⟨v3,e3,r3⟩:=lastA_in (s:=d[m2]) (by have :=h5 d[m2] (List.getElem_mem hm);omega) (ha d[m2] (List.getElem_mem hm)).1 (ha d[m2] (List.getElem_mem hm)).2
   have e3:s_LastAS (d[m2].1,d[m2].2.1,d[m2].2.2)=some v3:=e3
   exact ⟨v3,c2,p2,h2,by simp only [Bool.not_false,cond_true,e2,obind_some,idx_nat,List.getElem?_eq_getElem hm,e3],r3,k2⟩
 ·exact ⟨z,c,p,h,by simp only [decide_eq_false h0,cond_false,obind_some],hz,hc⟩

theorem ends_as {code:List Int} (hl:code.length≤1048576) {n:Nat} (hn:n≤100) {d cc:List (den tSg)} (hk:DbD n d cc) {c:List Int} {p h:Int} (hc:Cur code (c,p,h)): ∃ a b c' p' h',s_l23Ends (c,p,h) (d,cc)=some (a,b,c',p',h')∧((0≤a∧a<8)∧(0≤b∧b<8))∧Cur code (c',p',h'):=by
 have hd:=hk.down
 obtain ⟨v1,c1,p1,h1,e1,r1,k1⟩:=below_ans hl (n:=8) (by decide) (by decide) hc
 obtain ⟨v2,c2,p2,h2,e2,r2,k2⟩:=below_ans hl (n:=8) (by decide) (by decide) k1
 obtain ⟨v3,c3,p3,h3,e3,r3,k3⟩:=pick_ans hl (d:=d) (by omega) hk.hd hk.ha 4 (by decide) v1 r1 k2
 obtain ⟨v4,c4,p4,h4,e4,r4,k4⟩:=pick_ans hl (d:=d) (by omega) hk.hd hk.ha 3 (by decide) v2 r2 k3
 refine ⟨v3,v4,c4,p4,h4,?_,⟨r3,r4⟩,k4⟩
 unfold s_l23Ends
 simp only [e1,e2,obind_some,both_self,dup_self,dup3_self,dup4_self,dup5_self]
 rw [e3,obind_some,e4,obind_some]


def SegsD (n:Nat) (l:List (den tSg)):Prop:=l.length≤n∧ ∀ x∈l,x.2.2.length≤5

theorem downs_ans {n:Nat} (hn:n≤100) {d cc:List (den tSg)} (hk:DbD n d cc) (r:Int): ∃ l,s_DownSegments (d,cc) r=some l∧SegsD n l:=by
 have hd:=hk.down
 unfold s_DownSegments
 refine loop_up (G:=fun o=> ∃ l,o=some l∧SegsD n l) d.length (fun s:Int×List (den tSg)=>s.1) (fun i s=>SegsD i s.2) (fun l:List (den tSg)=>SegsD n l) ?_ ?_ 0 ((0:Int),[]) (by omega) rfl ⟨by simp,fun x hx=>(List.not_mem_nil hx).elim⟩ (fun l hl=>⟨l,rfl,hl⟩)
 ·rintro i ⟨_,l⟩ hi rfl ⟨g1,g2⟩
  simp only at g1 g2
  right
  have h5:=hk.hd d[i] (List.getElem_mem hi)
  obtain ⟨v,ev⟩:=lastA_ans (s:=d[i]) (by omega)
  have ev:s_LastAS (d[i].1,d[i].2.1,d[i].2.2)=some v:=ev
  have ec:=s_copyG (x:=d[i]) (by omega)
  have ec:s_l9Copy (d[i].1,d[i].2.1,d[i].2.2)=some d[i]:=ec
  simp only [decide_eq_true (show (i:Int)<(d.length:Int) by omega),cond_true,idx_nat,List.getElem?_eq_getElem hi,obind_some,ev,ec,apOk_le (b:=40) (n:=l.length) (m:=1) (by decide) (by omega),wr_succ (show i≤1000000000 by omega)]
  cases v==r with
  | true=>exact ⟨_,rfl,rfl,by simp;omega,fun x hx=>(List.mem_append.1 hx).elim (g2 x) fun hx=>by rw [List.mem_singleton.1 hx];exact h5⟩
  | false=>exact ⟨_,rfl,rfl,by show l.length≤i+1;omega,g2⟩
 ·rintro ⟨_,l⟩ rfl ⟨g1,g2⟩
  exact ⟨l,by simp only [decide_eq_false (Int.lt_irrefl _),cond_false],by simp only at g1;omega,g2⟩

theorem betw_ans {n:Nat} (hn:n≤100) {d cc:List (den tSg)} (hk:DbD n d cc) (a b:Int): ∃ l,s_l16Between (d,cc) a b=some l∧SegsD n l:=by
 have hd:=hk.core
 unfold s_l16Between
 refine loop_up (G:=fun o=> ∃ l,o=some l∧SegsD n l) cc.length (fun s:Int×List (den tSg)=>s.1) (fun i s=>SegsD i s.2) (fun l:List (den tSg)=>SegsD n l) ?_ ?_ 0 ((0:Int),[]) (by omega) rfl ⟨by simp,fun x hx=>(List.not_mem_nil hx).elim⟩ (fun l hl=>⟨l,rfl,hl⟩)
 ·rintro i ⟨_,l⟩ hi rfl ⟨g1,g2⟩
  simp only at g1 g2
  right
  have h5:=hk.hc cc[i] (List.getElem_mem hi)
  obtain ⟨v,ev⟩:=lastA_ans (s:=cc[i]) (by omega)
  have ev:s_LastAS (cc[i].1,cc[i].2.1,cc[i].2.2)=some v:=ev
  obtain ⟨u,eu⟩:=firstA_ans (s:=cc[i])
  have eu:s_FirstAS (cc[i].1,cc[i].2.1,cc[i].2.2)=some u:=eu
  have ec:=s_copyG (x:=cc[i]) (by omega)
  have ec:s_l9Copy (cc[i].1,cc[i].2.1,cc[i].2.2)=some cc[i]:=ec
  simp only [decide_eq_true (show (i:Int)<(cc.length:Int) by omega),cond_true,idx_nat,List.getElem?_eq_getElem hi,obind_some,ev,eu,ec,apOk_le (b:=40) (n:=l.length) (m:=1) (by decide) (by omega),wr_succ (show i≤1000000000 by omega)]
  cases u==a with
  | true=>
   simp only [cond_true,obind_some]
   cases v==b with
   | true=>exact ⟨_,rfl,rfl,by simp;omega,fun x hx=>(List.mem_append.1 hx).elim (g2 x) fun hx=>by rw [List.mem_singleton.1 hx];exact h5⟩
   | false=>exact ⟨_,rfl,rfl,by show l.length≤i+1;omega,g2⟩
  | false=>exact ⟨_,rfl,rfl,by show l.length≤i+1;omega,g2⟩
 ·rintro ⟨_,l⟩ rfl ⟨g1,g2⟩
  exact ⟨l,by simp only [decide_eq_false (Int.lt_irrefl _),cond_false],by simp only at g1;omega,g2⟩

theorem index_ans {s:den tSg} (h:s.2.2.length≤1000) (r:Int): ∃ v,s_l23Index s r=some v∧v<(s.2.2.length:Int):=by
 unfold s_l23Index
 refine loop_up (G:=fun o=> ∃ v,o=some v∧v<(s.2.2.length:Int)) s.2.2.length (fun s:Int=>s) (fun i t=>True) (fun z:Unit⊕Int=> ∀ v,z= .inr v→v<(s.2.2.length:Int)) ?_ ?_ 0 (0:Int) (by omega) rfl trivial ?_
 ·rintro i _ hi rfl _
  simp only [decide_eq_true (show (i:Int)<(s.2.2.length:Int) by omega),cond_true,idx_nat,List.getElem?_eq_getElem hi,obind_some,wr_succ (show i≤1000000000 by omega)]
  cases s.2.2[i].1==r with
  | true=>exact .inl ⟨_,rfl,fun v hv=>by cases hv;omega⟩
  | false=>exact .inr ⟨_,rfl,rfl,trivial⟩
 ·rintro _ rfl _
  exact ⟨.inl (),by simp only [decide_eq_false (Int.lt_irrefl _),cond_false],fun v hv=>by cases hv⟩
 ·rintro z hz
  cases z with
  | inl u=>exact ⟨-1,rfl,by omega⟩
  | inr v=>exact ⟨v,rfl,hz v rfl⟩

theorem part_ans {s:den tSg} (h:s.2.2.length≤5) (k i:Int): ∃ q:den tPp,s_MakePart s k i=some q∧q.2.2.2.length≤5:=by
 unfold s_MakePart
 obtain ⟨b1,eb1⟩:=beta_ans (s:=s) i (by omega)
 obtain ⟨b2,eb2⟩:=beta_ans (s:=s) (s.2.2.length:Int) (by omega)
 have eb1:s_BetaAt (s.1,s.2.1,s.2.2) i=some b1:=eb1
 have eb2:s_BetaAt (s.1,s.2.1,s.2.2) (s.2.2.length:Int)=some b2:=eb2
 simp only [s_in,obind_some,both_self,dup_self,dup3_self,dup4_self,dup5_self,eb1,eb2,s_isRev]
 have w1:wr ((s.2.2.length:Int) - 1)=(s.2.2.length:Int) - 1:=wr_small (by omega) (by omega)
 rw [w1]
 cases c1:inR i 0 ((s.2.2.length:Int) - 1) with
 | false=>exact ⟨(0,0,0,[]),rfl,by simp⟩
 | true=>
  cases inR k 1 4 with
  | false=>exact ⟨(0,0,0,[]),rfl,by simp⟩
  | true=>
   obtain ⟨h0,h1⟩:=inR_iff.1 c1
   obtain ⟨m,rfl⟩:=Int.eq_ofNat_of_zero_le h0
   simp only [Bool.not_true,cond_false,obind_some]
   cases isRev k with
   | false=>
    have e1:slOk (m:Int) (s.2.2.length:Int) (s.2.2.length:Int)=true:=slOk_from (by omega)
    have l1:(cut s.2.2 (m:Int) (s.2.2.length:Int)).length≤5:=by unfold cut;rw [List.length_take,List.length_drop];omega
    rw [e1,apOk_le (b:=40) (by decide) (by simp;omega)]
    exact ⟨_,rfl,by simpa using l1⟩
   | true=>
    refine loop_bind (G:=fun o=> ∃ q:den tPp,o=some q∧q.2.2.2.length≤5) (fun (n:Nat) (t:Int×Int×Int×Int×List (den tHop))=>t.1=(n:Int) - 1∧n+t.2.2.2.2.length≤s.2.2.length) (fun q:den tPp=>q.2.2.2.length≤5) ?_ s.2.2.length ((s.2.2.length:Int) - 1,k,s.1,b2,[]) ⟨rfl,by simp⟩ (fun q hq=>⟨q,rfl,hq⟩)
    rintro n ⟨_,x,y,z,l⟩ ⟨rfl,g⟩
    simp only at g
    by_cases hn:(n:Int) - 1≥(m:Int)
    ·right
     have hn1:(n:Int) - 1=((n - 1:Nat):Int):=by omega
     have hi:n - 1<s.2.2.length:=by omega
     refine ⟨n - 1,(((n - 1:Nat):Int) - 1,x,y,z,l++[s.2.2[n - 1]]),by omega,?_,rfl,by simp;omega⟩
     simp only [decide_eq_true hn,cond_true,apOk_le (b:=40) (n:=l.length) (m:=1) (by decide) (by omega)]
     rw [hn1,idx_nat,List.getElem?_eq_getElem hi,obind_some,wr_small (n:=((n - 1:Nat):Int) - 1) (by omega) (by omega)]
    ·left
     exact ⟨(x,y,z,l),by simp only [decide_eq_false hn,cond_false],by show l.length≤5;omega⟩


def PathD (p:den tPt):Prop:=List.length (α:=den tPp) p≤3∧ ∀ x:den tPp,x∈(show List (den tPp) from p)→x.2.2.2.length≤5

def PathsD (n:Nat) (l:List (den tPt)):Prop:=l.length≤n∧ ∀ p∈l,PathD p

theorem path_nil:PathD []:=⟨by simp,fun x hx=>(List.not_mem_nil hx).elim⟩

theorem PathsD.add {n m:Nat} {a b:List (den tPt)} (ha:PathsD n a) (hb:PathsD m b):PathsD (n+m) (a++b):=⟨by rw [List.length_append];have :=ha.1;have :=hb.1;omega,fun p hp=>(List.mem_append.1 hp).elim (ha.2 p) (hb.2 p)⟩

theorem three_ans {up core down:den tSg} (h1:up.2.2.length≤5) (h2:core.2.2.length≤5) (h3:down.2.2.length≤5) (b:Bool): ∃ p,s_JoinThree up core b down=some p∧PathD p:=by
 obtain ⟨q1,e1,k1⟩:=part_ans h1 1 0
 obtain ⟨q2,e2,k2⟩:=part_ans h2 (cond b 3 2) 0
 obtain ⟨q3,e3,k3⟩:=part_ans h3 4 0
 have e1:s_MakePart (up.1,up.2.1,up.2.2) 1 0=some q1:=e1
 have e2:s_MakePart (core.1,core.2.1,core.2.2) (cond b 3 2) 0=some q2:=e2
 have e3:s_MakePart (down.1,down.2.1,down.2.2) 4 0=some q3:=e3
 have eb:(cond b (some (3:Int)) (some (2:Int)))=some (cond b 3 2):=by cases b<;>rfl
 unfold s_JoinThree
 rw [eb]
 simp only [e1,e2,e3,obind_some]
 rw [show apOk 48 0 1=true from by decide]
 have one: ∀ (l:List (den tPp)) (q:den tPp) (n:Nat),l.length≤n→q.2.2.2.length≤5→(∀ x∈l,x.2.2.2.length≤5)→(l++[q]).length≤n+1∧ ∀ x∈l++[q],x.2.2.2.length≤5:=fun l q n hl hq h=>⟨by simp;omega,fun x hx=>(List.mem_append.1 hx).elim (h x) fun hx=>by rw [List.mem_singleton.1 hx];exact hq⟩
 obtain ⟨l1,f1,g1,g2⟩: ∃ l:List (den tPp),(cond (decide ((up.2.2.length:Int)>(0:Int))) (cond true (some [q1]) none) (some []))=some l∧l.length≤1∧ ∀ x∈l,x.2.2.2.length≤5:=by
  cases decide ((up.2.2.length:Int)>(0:Int))
  ·exact ⟨[],rfl,by simp,fun x hx=>(List.not_mem_nil hx).elim⟩
  ·exact ⟨[q1],rfl,by simp,fun x hx=>by rw [List.mem_singleton.1 hx];exact k1⟩
 rw [f1,obind_some,apOk_le (b:=48) (n:=l1.length) (m:=1) (by decide) (by omega)]
 obtain ⟨l2,f2,g3,g4⟩: ∃ l:List (den tPp),(cond (decide ((core.2.2.length:Int)>(0:Int))) (cond true (some (l1++[q2])) none) (some l1))=some l∧l.length≤2∧ ∀ x∈l,x.2.2.2.length≤5:=by
  cases decide ((core.2.2.length:Int)>(0:Int))
  ·exact ⟨l1,rfl,by omega,g2⟩
  ·exact ⟨l1++[q2],rfl,one l1 q2 1 g1 k2 g2⟩
 rw [f2,obind_some,apOk_le (b:=48) (n:=l2.length) (m:=1) (by decide) (by omega)]
 cases decide ((down.2.2.length:Int)>(0:Int))
 ·exact ⟨l2,rfl,Nat.le_trans g3 (by decide),g4⟩
 ·exact ⟨l2++[q3],rfl,one l2 q3 2 g3 k3 g4⟩

theorem cores_ans {n:Nat} (hn:n≤100) {d cc:List (den tSg)} (hk:DbD n d cc) {up down:den tSg} (h1:up.2.2.length≤5) (h3:down.2.2.length≤5) (a b:Int): ∃ l,s_l23Cores (d,cc) up a b down=some l∧PathsD (2 * n) l:=by
 obtain ⟨y1,e1,f1,g1⟩:=betw_ans hn hk a b
 obtain ⟨y2,e2,f2,g2⟩:=betw_ans hn hk b a
 unfold s_l23Cores
 rw [e1,obind_some]
 refine loop_up (G:=fun o=> ∃ l,o=some l∧PathsD (2 * n) l) y1.length (fun s:Int×List (den tPt)=>s.1) (fun i s=>PathsD i s.2) (fun l:List (den tPt)=>PathsD n l) ?_ ?_ 0 ((0:Int),[]) (by omega) rfl ⟨by simp,fun x hx=>(List.not_mem_nil hx).elim⟩ ?_
 ·rintro i ⟨_,l⟩ hi rfl hp
  simp only at hp
  have hl:=hp.1
  right
  obtain ⟨p,ep,kp⟩:=three_ans h1 (g1 y1[i] (List.getElem_mem hi)) h3 false
  have ep:s_JoinThree (up.1,up.2.1,up.2.2) (y1[i].1,y1[i].2.1,y1[i].2.2) false (down.1,down.2.1,down.2.2)=some p:=ep
  refine ⟨(((i+1:Nat):Int),l++[p]),?_,rfl,hp.add (m:=1) ⟨by simp,fun q hq=>by rw [List.mem_singleton.1 hq];exact kp⟩⟩
  simp only [decide_eq_true (show (i:Int)<(y1.length:Int) by omega),decide_eq_true (show (0:Int)≤(i:Int) by omega),cond_true,Int.toNat_natCast,List.getElem?_eq_getElem hi,obind_some,ep,apOk_le (b:=24) (n:=l.length) (m:=1) (by decide) (by omega),wr_succ (show i≤1000000000 by omega)]
 ·rintro ⟨_,l⟩ rfl hp
  simp only at hp
  exact ⟨l,by simp only [decide_eq_false (Int.lt_irrefl _),cond_false],Nat.le_trans hp.1 f1,hp.2⟩
 rintro l1 hl1
 rw [e2,obind_some]
 refine loop_up (G:=fun o=> ∃ l,o=some l∧PathsD (2 * n) l) y2.length (fun s:Int×List (den tPt)=>s.1) (fun i s=>PathsD (n+i) s.2) (fun l:List (den tPt)=>PathsD (2 * n) l) ?_ ?_ 0 ((0:Int),l1) (by omega) rfl hl1 (fun l hl=>⟨l,rfl,hl⟩)
 ·rintro i ⟨_,l⟩ hi rfl hp
  simp only at hp
  have hl:=hp.1
  right
  obtain ⟨p,ep,kp⟩:=three_ans h1 (g2 y2[i] (List.getElem_mem hi)) h3 true
  have ep:s_JoinThree (up.1,up.2.1,up.2.2) (y2[i].1,y2[i].2.1,y2[i].2.2) true (down.1,down.2.1,down.2.2)=some p:=ep
  refine ⟨(((i+1:Nat):Int),l++[p]),?_,rfl,hp.add (m:=1) ⟨by simp,fun q hq=>by rw [List.mem_singleton.1 hq];exact kp⟩⟩
  simp only [decide_eq_true (show (i:Int)<(y2.length:Int) by omega),decide_eq_true (show (0:Int)≤(i:Int) by omega),cond_true,Int.toNat_natCast,List.getElem?_eq_getElem hi,obind_some,ep,apOk_le (b:=24) (n:=l.length) (m:=1) (by decide) (by omega),wr_succ (show i≤1000000000 by omega)]
 ·rintro ⟨_,l⟩ rfl hp
  simp only at hp
  exact ⟨l,by simp only [decide_eq_false (Int.lt_irrefl _),cond_false],Nat.le_trans hp.1 (by omega),hp.2⟩

theorem wr_pred {n:Nat} (h:n≤1000000000):wr ((n:Int) - 1)=(n:Int) - 1:=wr_small (by omega) (by omega)

theorem meet_ans {up down:den tSg} (h1:up.2.2.length≤5) (h2:down.2.2.length≤5): ∃ p,s_JoinUpDown up down=some p∧PathD p:=by
 obtain ⟨y1,e1,l1⟩:=segA_ans (s:=up) (by omega)
 obtain ⟨y2,e2,l2⟩:=segA_ans (s:=down) (by omega)
 have e1:s_SegmentASes (up.1,up.2.1,up.2.2)=some y1:=e1
 have e2:s_SegmentASes (down.1,down.2.1,down.2.2)=some y2:=e2
 have hm: ∃ p,s_l22Meet up down=some p∧PathD p:=by
  unfold s_l22Meet
  rw [e1,obind_some,e2,obind_some,wr_pred (n:=y1.length) (by omega)]
  refine loop_bind (G:=fun o=> ∃ p,o=some p∧PathD p) (fun (n:Nat) (s:Int)=>s=(n:Int) - 1∧n≤y1.length) (fun z:Unit⊕den tPt=> ∀ p,z= .inr p→PathD p) ?_ y1.length ((y1.length:Int) - 1) ⟨rfl,Nat.le_refl _⟩ ?_
  ·rintro n _ ⟨rfl,hn⟩
   by_cases h0:(n:Int) - 1≥0
   ·simp only [decide_eq_true h0,cond_true]
    have hn1:(n:Int) - 1=((n - 1:Nat):Int):=by omega
    have hi:n - 1<y1.length:=by omega
    rw [wr_pred (n:=y2.length) (by omega)]
    refine loop_bind (G:=fun (o:Option (Int⊕(Unit⊕den tPt)))=>(∃ r:Unit⊕den tPt,o=some (Sum.inr r)∧ ∀ p,r=Sum.inr p→PathD p)∨ ∃ (m:Nat) (s':Int),m<n∧o=some (Sum.inl s')∧s'=(m:Int) - 1∧m≤y1.length) (fun (k:Nat) (s:Int)=>s=(k:Int) - 1∧k≤y2.length) (fun z:Unit⊕(Int⊕(Unit⊕den tPt))=>z= .inl ()∨ ∃ p,z= .inr (.inr (.inr p))∧PathD p) ?_ y2.length ((y2.length:Int) - 1) ⟨rfl,Nat.le_refl _⟩ ?_
    ·rintro k _ ⟨rfl,hk⟩
     by_cases g0:(k:Int) - 1≥0
     ·have hk1:(k:Int) - 1=((k - 1:Nat):Int):=by omega
      have hj:k - 1<y2.length:=by omega
      simp only [hn1,hk1,decide_eq_true (show ((k - 1:Nat):Int)≥0 by omega),decide_eq_true (show (0:Int)≤((n - 1:Nat):Int) by omega),decide_eq_true (show (0:Int)≤((k - 1:Nat):Int) by omega),decide_eq_true (show ((n - 1:Nat):Int)<(y1.length:Int) by omega),decide_eq_true (show ((k - 1:Nat):Int)<(y2.length:Int) by omega),cond_true,Int.toNat_natCast,List.getElem?_eq_getElem hi,List.getElem?_eq_getElem hj,obind_some]
      cases y1[n - 1]==y2[k - 1] with
      | true=>
       obtain ⟨q1,f1,g1⟩:=part_ans h1 1 ((n - 1:Nat):Int)
       obtain ⟨q2,f2,g2⟩:=part_ans h2 4 ((k - 1:Nat):Int)
       have f1:s_MakePart (up.1,up.2.1,up.2.2) 1 ((n - 1:Nat):Int)=some q1:=f1
       have f2:s_MakePart (down.1,down.2.1,down.2.2) 4 ((k - 1:Nat):Int)=some q2:=f2
       exact .inl ⟨.inr (.inr (.inr [q1,q2])),by simp only [cond_true,f1,f2,obind_some],.inr ⟨[q1,q2],rfl,by simp,fun x hx=>by
        have hx:x∈[q1,q2]:=hx
        simp only [List.mem_cons,List.not_mem_nil,or_false] at hx
        rcases hx with rfl | rfl
        ·exact g1
        ·exact g2⟩⟩
      | false=>exact .inr ⟨k - 1,((k - 1:Nat):Int) - 1,by omega,by simp only [cond_false,wr_pred (n:=k - 1) (by omega)],rfl,by omega⟩
     ·exact .inl ⟨.inl (),by simp only [decide_eq_false g0,cond_false],.inl rfl⟩
    ·rintro z (rfl | ⟨p,rfl,hp⟩)
     ·exact .inr ⟨n - 1,((n - 1:Nat):Int) - 1,by omega,by simp only [Sum.elim_inl,hn1,wr_pred (n:=n - 1) (by omega)],rfl,by omega⟩
     ·exact .inl ⟨.inr p,rfl,fun q hq=>by cases hq;exact hp⟩
   ·exact .inl ⟨.inl (),by simp only [decide_eq_false h0,cond_false],fun p hp=>by cases hp⟩
  ·rintro z hz
   cases z with
   | inl u=>exact ⟨[],rfl,path_nil⟩
   | inr p=>exact ⟨p,rfl,hz p rfl⟩
 obtain ⟨p,ep,kp⟩:=hm
 have ep:s_l22Meet (up.1,up.2.1,up.2.2) (down.1,down.2.1,down.2.2)=some p:=ep
 exact ⟨p,by unfold s_JoinUpDown;rw [ep,obind_some],kp⟩

theorem PathsD.one {p:den tPt} (h:PathD p):PathsD 1 [p]:=⟨by simp,fun q hq=>by rw [List.mem_singleton.1 hq];exact h⟩

theorem PathsD.mono {n m:Nat} {l:List (den tPt)} (h:PathsD n l) (hm:n≤m):PathsD m l:=⟨Nat.le_trans h.1 hm,h.2⟩


theorem half_ans {y:List (den tSg)} {n:Nat} (hn:n≤100) (hy:SegsD n y) (kind r:Int) {m:Nat} (hm:m≤10000) {l0:List (den tPt)} (h0:PathsD m l0) {T:Type} {k:List (den tPt)→Option T} {G:Option T→Prop} (hk: ∀ l,PathsD (m+n) l→G (k l)):
  G (Option.bind (loopM (fun (s8:Int×List (den tPt))=>cond (decide (s8.1<(y.length:Int))) (Option.bind (cond (decide ((0:Int)≤s8.1)) (cond (decide (s8.1<(y.length:Int))) (Option.bind y[s8.1.toNat]? fun x9=>Option.bind (s_l23Index (x9.1,x9.2.1,x9.2.2) r) fun y10=>cond (decide (y10≥(0:Int))) (cond (decide ((0:Int)≤s8.1)) (cond (decide (s8.1<(y.length:Int))) (Option.bind y[s8.1.toNat]? fun x11=>Option.bind (s_MakePart (x11.1,x11.2.1,x11.2.2) kind y10) fun y12=>cond (apOk 24 s8.2.length 1) (some (s8.2++[[(y12.1,y12.2.1,y12.2.2.1,y12.2.2.2)]])) none) none) none) (some s8.2)) none) none) fun (s13:List (den tPt))=>some (Sum.inl (wr (s8.1+(1:Int)),s13))) (some (Sum.inr s8.2))) ((0:Int),l0)) k):=by
 obtain ⟨hy1,hy2⟩:=hy
 refine loop_up (G:=G) y.length (fun s:Int×List (den tPt)=>s.1) (fun i s=>PathsD (m+i) s.2) (fun l:List (den tPt)=>PathsD (m+n) l) ?_ ?_ 0 ((0:Int),l0) (by omega) rfl h0 hk
 ·rintro i ⟨_,l⟩ hi rfl hp
  simp only at hp
  have hl:=hp.1
  have h5:=hy2 y[i] (List.getElem_mem hi)
  obtain ⟨v,ev,_⟩:=index_ans (s:=y[i]) (by omega) r
  have ev:s_l23Index (y[i].1,y[i].2.1,y[i].2.2) r=some v:=ev
  obtain ⟨q,eq,kq⟩:=part_ans h5 kind v
  have eq:s_MakePart (y[i].1,y[i].2.1,y[i].2.2) kind v=some q:=eq
  right
  simp only [decide_eq_true (show (i:Int)<(y.length:Int) by omega),decide_eq_true (show (0:Int)≤(i:Int) by omega),cond_true,Int.toNat_natCast,List.getElem?_eq_getElem hi,obind_some,ev,eq,apOk_le (b:=24) (n:=l.length) (m:=1) (by decide) (by omega),wr_succ (show i≤1000000000 by omega)]
  cases decide (v≥0) with
  | true=>exact ⟨_,rfl,rfl,hp.add (PathsD.one (p:=[q]) ⟨by simp,fun x hx=>by
    have hx:x∈[q]:=hx
    rw [List.mem_singleton.1 hx];exact kq⟩)⟩
  | false=>exact ⟨_,rfl,rfl,hp.mono (by omega)⟩
 ·rintro ⟨_,l⟩ rfl hp
  simp only at hp
  exact ⟨l,by simp only [decide_eq_false (Int.lt_irrefl _),cond_false],hp.mono (by omega)⟩

theorem alone_ans {n:Nat} (hn:n≤100) {d cc:List (den tSg)} (hk:DbD n d cc) (a b:Int): ∃ l,s_l23Alone (d,cc) a b=some l∧PathsD (4 * n) l:=by
 obtain ⟨y1,e1,g1⟩:=downs_ans hn hk a
 obtain ⟨y2,e2,g2⟩:=downs_ans hn hk b
 obtain ⟨y3,e3,g3⟩:=cores_ans hn hk (up:=(0,0,[])) (down:=(0,0,[])) (by simp) (by simp) a b
 unfold s_l23Alone
 rw [e1,obind_some]
 refine half_ans hn g1 1 b (m:=0) (by omega) (l0:=[]) ⟨by simp,fun x hx=>(List.not_mem_nil hx).elim⟩ (G:=fun o=> ∃ l,o=some l∧PathsD (4 * n) l) (fun l hl=> ?_)
 rw [e2,obind_some]
 refine half_ans hn g2 4 a (m:=0+n) (by omega) hl (G:=fun o=> ∃ l,o=some l∧PathsD (4 * n) l) (fun l hl=> ?_)
 have h1:=hl.1
 have h2:=g3.1
 rw [e3,obind_some,apOk_le (b:=24) (by decide) (by omega)]
 exact ⟨_,rfl,(hl.add g3).mono (by omega)⟩


theorem comb_ans {as:List (den tAS)} {ls:List (den tLk)} (ht:TopD as ls) {d cc:List (den tSg)} (hk:DbD 13 d cc) (a b:Int): ∃ l,s_CombinePaths (as,ls) (d,cc) a b=some l∧PathsD 10000 l:=by
 have hlen:=ht.len
 unfold s_CombinePaths
 rw [s_asOk (t:=(as,ls)) (show as.length≤_ by omega),s_asOk (t:=(as,ls)) (show as.length≤_ by omega),obind_some,obind_some]
 obtain ⟨b1,e1,k1⟩: ∃ v:Bool,(cond (a==b) (some true) (cond (!(asOk (as,ls) a)) (some true) (some (!(asOk (as,ls) b)))))=some v∧(v=false→asOk (as,ls) a=true∧asOk (as,ls) b=true):=by
  cases a==b
  ·cases asOk (as,ls) a
   ·exact ⟨true,rfl,fun h=>by cases h⟩
   ·cases asOk (as,ls) b
    ·exact ⟨true,rfl,fun h=>by cases h⟩
    ·exact ⟨false,rfl,fun _=>⟨rfl,rfl⟩⟩
  ·exact ⟨true,rfl,fun h=>by cases h⟩
 rw [e1,obind_some]
 cases b1 with
 | true=>exact ⟨[],rfl,by simp,fun x hx=>(List.not_mem_nil hx).elim⟩
 | false=>
  obtain ⟨ka,kb⟩:=k1 rfl
  obtain ⟨xa,_,ia⟩:=as_at ka
  obtain ⟨xb,_,ib⟩:=as_at kb
  have ia:idx as a=some xa:=ia
  have ib:idx as b=some xb:=ib
  obtain ⟨y4,e4,g4⟩:=alone_ans (n:=13) (by decide) hk a b
  obtain ⟨y5,e5,g5,f5⟩:=downs_ans (n:=13) (by decide) hk a
  obtain ⟨y6,e6,g6,f6⟩:=downs_ans (n:=13) (by decide) hk b
  simp only [cond_false,e4,e5,e6,obind_some,both_self,dup_self,dup3_self,dup4_self,dup5_self,ia,ib]
  refine loop_up (G:=fun o=> ∃ l,o=some l∧PathsD 10000 l) y5.length (fun s:Int×List (den tPt)=>s.1) (fun i s=>PathsD (52+13 * i) s.2) (fun l:List (den tPt)=>PathsD 221 l) ?_ ?_ 0 ((0:Int),y4) (by omega) rfl g4 ?_
  ·rintro i ⟨_,l⟩ hi rfl hp
   simp only at hp
   right
   simp only [decide_eq_true (show (i:Int)<(y5.length:Int) by omega),cond_true]
   refine loop_up (G:=fun (o:Option ((Int×List (den tPt))⊕List (den tPt)))=> ∃ s':Int×List (den tPt),o=some (Sum.inl s')∧s'.1=((i+1:Nat):Int)∧PathsD (52+13 * (i+1)) s'.2) y6.length (fun s:Int×List (den tPt)=>s.1) (fun j s=>PathsD (52+13 * i+j) s.2) (fun l:List (den tPt)=>PathsD (52+13 * (i+1)) l) ?_ ?_ 0 ((0:Int),l) (by omega) rfl hp ?_
   ·rintro j ⟨_,l⟩ hj rfl hq
    simp only at hq
    have hl:=hq.1
    obtain ⟨p,ep,kp⟩:=meet_ans (f5 y5[i] (List.getElem_mem hi)) (f6 y6[j] (List.getElem_mem hj))
    have ep:s_JoinUpDown (y5[i].1,y5[i].2.1,y5[i].2.2) (y6[j].1,y6[j].2.1,y6[j].2.2)=some p:=ep
    right
    simp only [decide_eq_true (show (j:Int)<(y6.length:Int) by omega),decide_eq_true (show (0:Int)≤(i:Int) by omega),decide_eq_true (show (0:Int)≤(j:Int) by omega),cond_true,Int.toNat_natCast,List.getElem?_eq_getElem hi,List.getElem?_eq_getElem hj,obind_some,ep,apOk_le (b:=24) (n:=l.length) (m:=1) (by decide) (by omega),wr_succ (show j≤1000000000 by omega)]
    cases decide ((List.length (α:=den tPp) p:Int)>0) with
    | true=>exact ⟨_,rfl,rfl,hq.add (PathsD.one kp)⟩
    | false=>exact ⟨_,rfl,rfl,hq.mono (by omega)⟩
   ·rintro ⟨_,l⟩ rfl hq
    simp only at hq
    exact ⟨l,by simp only [decide_eq_false (Int.lt_irrefl _),cond_false],hq.mono (by omega)⟩
   ·rintro l hl
    exact ⟨_,rfl,wr_succ (by omega),hl⟩
  ·rintro ⟨_,l⟩ rfl hp
   simp only at hp
   exact ⟨l,by simp only [decide_eq_false (Int.lt_irrefl _),cond_false],hp.mono (by omega)⟩
  rintro l39 h39
  refine loop_up (G:=fun o=> ∃ l,o=some l∧PathsD 10000 l) y6.length (fun s:Int×List (den tPt)=>s.1) (fun i s=>PathsD (221+26 * i) s.2) (fun l:List (den tPt)=>PathsD 559 l) ?_ ?_ 0 ((0:Int),l39) (by omega) rfl h39 ?_
  ·rintro i ⟨_,l⟩ hi rfl hp
   simp only at hp
   have hl:=hp.1
   simp only [decide_eq_true (show (i:Int)<(y6.length:Int) by omega),decide_eq_true (show (0:Int)≤(i:Int) by omega),cond_true,Int.toNat_natCast,List.getElem?_eq_getElem hi,obind_some]
   cases xa.2.1 with
   | false=>exact .inl ⟨l,by simp only [cond_false],hp.mono (by omega)⟩
   | true=>
    obtain ⟨v,ev⟩:=firstA_ans (s:=y6[i])
    have ev:s_FirstAS (y6[i].1,y6[i].2.1,y6[i].2.2)=some v:=ev
    obtain ⟨q,eq,kq⟩:=cores_ans (n:=13) (by decide) hk (up:=(0,0,[])) (down:=y6[i]) (by simp) (f6 y6[i] (List.getElem_mem hi)) a v
    have hq:=kq.1
    have eq:s_l23Cores (d,cc) (0,0,[]) a v (y6[i].1,y6[i].2.1,y6[i].2.2)=some q:=eq
    exact .inr ⟨(((i+1:Nat):Int),l++q),by simp only [cond_true,ev,eq,obind_some,apOk_le (b:=24) (n:=l.length) (m:=q.length) (by decide) (by omega),wr_succ (show i≤1000000000 by omega)],rfl,(hp.add kq).mono (by omega)⟩
  ·rintro ⟨_,l⟩ rfl hp
   simp only at hp
   exact ⟨l,by simp only [decide_eq_false (Int.lt_irrefl _),cond_false,obind_some],hp.mono (by omega)⟩
  rintro l54 h54
  refine loop_up (G:=fun o=> ∃ l,o=some l∧PathsD 10000 l) y5.length (fun s:Int×List (den tPt)=>s.1) (fun i s=>PathsD (559+26 * i) s.2) (fun l:List (den tPt)=>PathsD 897 l) ?_ ?_ 0 ((0:Int),l54) (by omega) rfl h54 ?_
  ·rintro i ⟨_,l⟩ hi rfl hp
   simp only at hp
   have hl:=hp.1
   simp only [decide_eq_true (show (i:Int)<(y5.length:Int) by omega),decide_eq_true (show (0:Int)≤(i:Int) by omega),cond_true,Int.toNat_natCast,List.getElem?_eq_getElem hi,obind_some]
   cases xb.2.1 with
   | false=>exact .inl ⟨l,by simp only [cond_false],hp.mono (by omega)⟩
   | true=>
    obtain ⟨v,ev⟩:=firstA_ans (s:=y5[i])
    have ev:s_FirstAS (y5[i].1,y5[i].2.1,y5[i].2.2)=some v:=ev
    obtain ⟨q,eq,kq⟩:=cores_ans (n:=13) (by decide) hk (up:=y5[i]) (down:=(0,0,[])) (f5 y5[i] (List.getElem_mem hi)) (by simp) v b
    have hq:=kq.1
    have eq:s_l23Cores (d,cc) (y5[i].1,y5[i].2.1,y5[i].2.2) v b (0,0,[])=some q:=eq
    exact .inr ⟨(((i+1:Nat):Int),l++q),by simp only [cond_true,ev,eq,obind_some,apOk_le (b:=24) (n:=l.length) (m:=q.length) (by decide) (by omega),wr_succ (show i≤1000000000 by omega)],rfl,(hp.add kq).mono (by omega)⟩
  ·rintro ⟨_,l⟩ rfl hp
   simp only at hp
   exact ⟨l,by simp only [decide_eq_false (Int.lt_irrefl _),cond_false,obind_some],hp.mono (by omega)⟩
  rintro l69 h69
  refine loop_up (G:=fun o=> ∃ l,o=some l∧PathsD 10000 l) y5.length (fun s:Int×List (den tPt)=>s.1) (fun i s=>PathsD (897+338 * i) s.2) (fun l:List (den tPt)=>PathsD 10000 l) ?_ ?_ 0 ((0:Int),l69) (by omega) rfl h69 (fun l hl=>⟨l,rfl,hl⟩)
  ·rintro i ⟨_,l⟩ hi rfl hp
   simp only at hp
   right
   simp only [decide_eq_true (show (i:Int)<(y5.length:Int) by omega),cond_true]
   refine loop_up (G:=fun (o:Option ((Int×List (den tPt))⊕List (den tPt)))=> ∃ s':Int×List (den tPt),o=some (Sum.inl s')∧s'.1=((i+1:Nat):Int)∧PathsD (897+338 * (i+1)) s'.2) y6.length (fun s:Int×List (den tPt)=>s.1) (fun j s=>PathsD (897+338 * i+26 * j) s.2) (fun l:List (den tPt)=>PathsD (897+338 * (i+1)) l) ?_ ?_ 0 ((0:Int),l) (by omega) rfl hp ?_
   ·rintro j ⟨_,l⟩ hj rfl hq
    simp only at hq
    have hl:=hq.1
    obtain ⟨v,ev⟩:=firstA_ans (s:=y5[i])
    have ev:s_FirstAS (y5[i].1,y5[i].2.1,y5[i].2.2)=some v:=ev
    obtain ⟨u,eu⟩:=firstA_ans (s:=y6[j])
    have eu:s_FirstAS (y6[j].1,y6[j].2.1,y6[j].2.2)=some u:=eu
    obtain ⟨q,eq,kq⟩:=cores_ans (n:=13) (by decide) hk (up:=y5[i]) (down:=y6[j]) (f5 y5[i] (List.getElem_mem hi)) (f6 y6[j] (List.getElem_mem hj)) v u
    have hq':=kq.1
    have eq:s_l23Cores (d,cc) (y5[i].1,y5[i].2.1,y5[i].2.2) v u (y6[j].1,y6[j].2.1,y6[j].2.2)=some q:=eq
    exact .inr ⟨(((j+1:Nat):Int),l++q),by simp only [decide_eq_true (show (j:Int)<(y6.length:Int) by omega),decide_eq_true (show (i:Int)<(y5.length:Int) by omega),decide_eq_true (show (0:Int)≤(i:Int) by omega),decide_eq_true (show (0:Int)≤(j:Int) by omega),cond_true,Int.toNat_natCast,List.getElem?_eq_getElem hi,List.getElem?_eq_getElem hj,obind_some,ev,eu,eq,apOk_le (b:=24) (n:=l.length) (m:=q.length) (by decide) (by omega),wr_succ (show j≤1000000000 by omega)],rfl,(hq.add kq).mono (by omega)⟩
   ·rintro ⟨_,l⟩ rfl hq
    simp only at hq
    exact ⟨l,by simp only [decide_eq_false (Int.lt_irrefl _),cond_false],hq.mono (by omega)⟩
   ·rintro l hl
    exact ⟨_,rfl,wr_succ (by omega),hl⟩
  ·rintro ⟨_,l⟩ rfl hp
   simp only at hp
   exact ⟨l,by simp only [decide_eq_false (Int.lt_irrefl _),cond_false],hp.mono (by omega)⟩

theorem tot_each {t:Ty} {B:Nat}: ∀ {l:List (den t)},(∀ x∈l,tot t x≤B)→tot (.sl t) l≤(B+1) * l.length
 | [],_=>by simp [tot]
 | x::l,h=>by
  have ih:=tot_each (l:=l) fun y hy=>h y (List.mem_cons_of_mem _ hy)
  have hx:=h x (by simp)
  rw [tot_cons,List.length_cons,Nat.mul_add,Nat.mul_one]
  omega

theorem part_tot {q:den tPp} (h:q.2.2.2.length≤5):tot tPp q≤5:=by
 show tot ti q.1+(tot ti q.2.1+(tot ti q.2.2.1+tot (.sl tHop) q.2.2.2))≤5
 rw [tot_flatL (t:=tHop) rfl]
 show 0+(0+(0+q.2.2.2.length))≤5
 omega

theorem path_tot {p:den tPt} (h:PathD p):tot tPt p≤18:=by
 have h1:=tot_each (t:=tPp) (B:=5) (l:=p) fun x hx=>part_tot (h.2 x hx)
 have h2:=h.1
 show tot (.sl tPp) p≤18
 have :(5+1) * List.length (α:=den tPp) p≤18:=by omega
 exact Nat.le_trans h1 this

theorem paths_tot {n:Nat} {l:List (den tPt)} (h:PathsD n l):tot (.sl tPt) l≤19 * n:=by
 have h1:=tot_each (t:=tPt) (B:=18) (l:=l) fun x hx=>path_tot (h.2 x hx)
 have h2:=h.1
 have :(18+1) * l.length≤19 * n:=by omega
 exact Nat.le_trans h1 this

theorem verPt_ans {as:List (den tAS)} {ls:List (den tLk)} (ht:TopD as ls) {q:den tPp} (h:q.2.2.2.length≤5): ∃ b,s_VerifyPart (as,ls) q=some b:=by
 have hlen:=ht.len
 unfold s_VerifyPart
 refine loop_up (G:=fun o=> ∃ b,o=some b) q.2.2.2.length (fun s:Int=>s) (fun i t=>True) (fun r:Unit⊕Bool=>True) ?_ ?_ 0 (0:Int) (by omega) rfl trivial ?_
 ·rintro i _ hi rfl _
  obtain ⟨bt,et⟩: ∃ v,s_l21Beta (q.1,q.2.1,q.2.2.1,q.2.2.2) (i:Int)=some v:=by
   unfold s_l21Beta
   have e1:=s_betaA (p:=q) (n:=i) (by omega) (by omega)
   have e2:=s_betaA (p:=q) (n:=i+1) (by omega) (by omega)
   have e1:s_BetaAfter (q.1,q.2.1,q.2.2.1,q.2.2.2) (i:Int)=some _:=e1
   have e2:s_BetaAfter (q.1,q.2.1,q.2.2.1,q.2.2.2) ((i+1:Nat):Int)=some _:=e2
   simp only [s_isRev,obind_some,wr_succ (show i≤1000000000 by omega),e1,e2]
   cases isRev q.1<;>exact ⟨_,rfl⟩
  have ev:=s_verH (t:=(as,ls)) (ts:=q.2.1) (beta:=bt) (h:=q.2.2.2[i]) (show as.length≤68719476736 by omega)
  have ev:s_VerifyHop (as,ls) q.2.1 bt (q.2.2.2[i].1,q.2.2.2[i].2.1,q.2.2.2[i].2.2.1,q.2.2.2[i].2.2.2.1,q.2.2.2[i].2.2.2.2)=some _:=ev
  simp only [decide_eq_true (show (i:Int)<(q.2.2.2.length:Int) by omega),cond_true,idx_nat,List.getElem?_eq_getElem hi,obind_some,et,ev,wr_succ (show i≤1000000000 by omega)]
  cases verH (as,ls) q.2.1 bt q.2.2.2[i] with
  | true=>exact .inr ⟨_,rfl,rfl,trivial⟩
  | false=>exact .inl ⟨_,rfl,trivial⟩
 ·rintro _ rfl _
  exact ⟨.inl (),by simp only [decide_eq_false (Int.lt_irrefl _),cond_false],trivial⟩
 ·rintro r _
  cases r with
  | inl u=>exact ⟨_,rfl⟩
  | inr v=>exact ⟨_,rfl⟩

theorem verP_ans {as:List (den tAS)} {ls:List (den tLk)} (ht:TopD as ls) {p:List (den tPp)} (h:PathD p): ∃ b,s_VerifyPath (as,ls) p=some b:=by
 have h3:=h.1
 unfold s_VerifyPath
 refine loop_up (G:=fun o=> ∃ b,o=some b) p.length (fun s:Int=>s) (fun i t=>True) (fun r:Unit⊕Bool=>True) ?_ ?_ 0 (0:Int) (by omega) rfl trivial ?_
 ·rintro i _ hi rfl _
  obtain ⟨b,eb⟩:=verPt_ans ht (q:=p[i]) (h.2 p[i] (List.getElem_mem hi))
  have eb:s_VerifyPart (as,ls) (p[i].1,p[i].2.1,p[i].2.2.1,p[i].2.2.2)=some b:=eb
  simp only [decide_eq_true (show (i:Int)<(p.length:Int) by omega),cond_true,idx_nat,List.getElem?_eq_getElem hi,obind_some,eb,wr_succ (show i≤1000000000 by omega)]
  cases b with
  | true=>exact .inr ⟨_,rfl,rfl,trivial⟩
  | false=>exact .inl ⟨_,rfl,trivial⟩
 ·rintro _ rfl _
  exact ⟨.inl (),by simp only [decide_eq_false (Int.lt_irrefl _),cond_false],trivial⟩
 ·rintro r _
  cases r with
  | inl u=>exact ⟨_,rfl⟩
  | inr v=>exact ⟨_,rfl⟩

theorem usable_ans {as:List (den tAS)} {ls:List (den tLk)} (ht:TopD as ls) {p:List (den tPp)} (h:PathD p) (now:Int): ∃ b,s_PathUsable (as,ls) p now=some b:=by
 have hlen:=ht.len
 have hlk:=ht.links
 have h3:=h.1
 have e1:=s_simpleP (t:=(as,ls)) (p:=p) (show as.length≤_ by omega) (show ls.length≤_ by omega) (Nat.le_trans (path_tot h) (by decide))
 obtain ⟨b2,e2⟩:=verP_ans ht h
 unfold s_PathUsable
 rw [e1,obind_some,e2,obind_some]
 obtain ⟨b3,e3⟩: ∃ b:Bool,(cond (!(simpleP (as,ls) p)) (some true) (some (!b2)))=some b:=by cases simpleP (as,ls) p<;>exact ⟨_,rfl⟩
 rw [e3,obind_some]
 cases b3 with
 | true=>exact ⟨_,rfl⟩
 | false=>
  refine loop_up (G:=fun o=> ∃ b,o=some b) p.length (fun s:Int=>s) (fun i t=>True) (fun r:Unit⊕Bool=>True) ?_ ?_ 0 (0:Int) (by omega) rfl trivial ?_
  ·rintro i _ hi rfl _
   have hh:=h.2 p[i] (List.getElem_mem hi)
   simp only [decide_eq_true (show (i:Int)<(p.length:Int) by omega),cond_true,idx_nat,List.getElem?_eq_getElem hi,obind_some]
   cases decide (p[i].2.1>now) with
   | true=>exact .inl ⟨_,rfl,trivial⟩
   | false=>
    simp only [cond_false]
    refine loop_up (G:=fun (o:Option (Int⊕(Unit⊕Bool)))=>(∃ r,o=some (Sum.inr r)∧True)∨ ∃ s':Int,o=some (Sum.inl s')∧s'=((i+1:Nat):Int)∧True) p[i].2.2.2.length (fun s:Int=>s) (fun j t=>True) (fun z:Unit⊕(Int⊕(Unit⊕Bool))=>z= .inl ()∨ ∃ b,z= .inr (.inr (.inr b))) ?_ ?_ 0 (0:Int) (by omega) rfl trivial ?_
    ·rintro j _ hj rfl _
     have ehv: ∀ (hp:den tHop) (n:Int),s_HopValidAt hp n=some (decide (n≤hp.2.2.2.1)):=fun _ _=>rfl
     simp only [decide_eq_true (show (j:Int)<(p[i].2.2.2.length:Int) by omega),cond_true,idx_nat,List.getElem?_eq_getElem hj,obind_some,ehv,wr_succ (show j≤1000000000 by omega)]
     cases decide (now≤p[i].2.2.2[j].2.2.2.1) with
     | true=>exact .inr ⟨_,rfl,rfl,trivial⟩
     | false=>exact .inl ⟨_,rfl,.inr ⟨false,rfl⟩⟩
    ·rintro _ rfl _
     exact ⟨.inl (),by simp only [decide_eq_false (Int.lt_irrefl _),cond_false],.inl rfl⟩
    ·rintro z (rfl | ⟨b,rfl⟩)
     ·exact .inr ⟨((i+1:Nat):Int),by simp only [Sum.elim_inl,wr_succ (show i≤1000000000 by omega)],rfl,trivial⟩
     ·exact .inl ⟨.inr b,rfl,trivial⟩
  ·rintro _ rfl _
   exact ⟨.inl (),by simp only [decide_eq_false (Int.lt_irrefl _),cond_false],trivial⟩
  ·rintro r _
   cases r with
   | inl u=>exact ⟨_,rfl⟩
   | inr v=>exact ⟨_,rfl⟩

theorem eqPt_ans {a b:den tPp} (h:a.2.2.2.length≤5): ∃ v,s_EqualParts a b=some v:=by
 obtain ⟨v,e⟩:=sameHs_ans (a:=a.2.2.2) (b:=b.2.2.2) (by omega)
 unfold s_EqualParts
 rw [e,obind_some]
 cases a.1==b.1
 ·exact ⟨_,rfl⟩
 ·cases a.2.1==b.2.1
  ·exact ⟨_,rfl⟩
  ·cases a.2.2.1==b.2.2.1<;>exact ⟨_,rfl⟩

theorem eqP_ans {a b:List (den tPp)} (h:PathD a): ∃ v,s_EqualPaths a b=some v:=by
 have h3:=h.1
 have h3:a.length≤3:=h3
 unfold s_EqualPaths
 by_cases hn:a.length=b.length
 ·rw [hn,bne_self_eq_false,cond_false,← hn]
  refine loop_up (G:=fun o=> ∃ b,o=some b) a.length (fun s:Int=>s) (fun i t=>True) (fun r:Unit⊕Bool=>True) ?_ ?_ 0 (0:Int) (by omega) rfl trivial ?_
  ·rintro i _ hi rfl _
   have h2:i<b.length:=by omega
   obtain ⟨v,e⟩:=eqPt_ans (a:=a[i]) (b:=b[i]) (h.2 a[i] (List.getElem_mem hi))
   have e:s_EqualParts (a[i].1,a[i].2.1,a[i].2.2.1,a[i].2.2.2) (b[i].1,b[i].2.1,b[i].2.2.1,b[i].2.2.2)=some v:=e
   simp only [decide_eq_true (show (i:Int)<(a.length:Int) by omega),cond_true,idx_nat,List.getElem?_eq_getElem hi,List.getElem?_eq_getElem h2,obind_some,e,wr_succ (show i≤1000000000 by omega)]
   cases v with
   | true=>exact .inr ⟨_,rfl,rfl,trivial⟩
   | false=>exact .inl ⟨_,rfl,trivial⟩
  ·rintro _ rfl _
   exact ⟨.inl (),by simp only [decide_eq_false (Int.lt_irrefl _),cond_false],trivial⟩
  ·rintro r _
   cases r with
   | inl u=>exact ⟨_,rfl⟩
   | inr v=>exact ⟨_,rfl⟩
 ·rw [show ((a.length:Int) != (b.length:Int))=true by rw [bne_iff_ne];omega,cond_true]
  exact ⟨_,rfl⟩

theorem hasP_ans {n:Nat} (hn:n≤100000) {l:List (den tPt)} (h:PathsD n l) (p:den tPt): ∃ v,s_HasPath l p=some v:=by
 have h1:=h.1
 unfold s_HasPath
 refine loop_up (G:=fun o=> ∃ b,o=some b) l.length (fun s:Int=>s) (fun i t=>True) (fun r:Unit⊕Bool=>True) ?_ ?_ 0 (0:Int) (by omega) rfl trivial ?_
 ·rintro i _ hi rfl _
  obtain ⟨v,e⟩:=eqP_ans (a:=l[i]) (b:=p) (h.2 l[i] (List.getElem_mem hi))
  simp only [decide_eq_true (show (i:Int)<(l.length:Int) by omega),cond_true,idx_nat,List.getElem?_eq_getElem hi,obind_some,e,wr_succ (show i≤1000000000 by omega)]
  cases v with
  | false=>exact .inr ⟨_,rfl,rfl,trivial⟩
  | true=>exact .inl ⟨_,rfl,trivial⟩
 ·rintro _ rfl _
  exact ⟨.inl (),by simp only [decide_eq_false (Int.lt_irrefl _),cond_false],trivial⟩
 ·rintro r _
  cases r with
  | inl u=>exact ⟨_,rfl⟩
  | inr v=>exact ⟨_,rfl⟩

theorem find_ans {as:List (den tAS)} {ls:List (den tLk)} (ht:TopD as ls) {d cc:List (den tSg)} (hk:DbD 13 d cc) (a b now:Int): ∃ l,s_FindPaths (as,ls) (d,cc) a b now=some l∧PathsD 24 l:=by
 obtain ⟨y,ey,hy⟩:=comb_ans ht hk a b
 have hy1:=hy.1
 unfold s_FindPaths
 rw [ey,obind_some]
 refine loop_up (G:=fun o=> ∃ l,o=some l∧PathsD 24 l) y.length (fun s:Int×List (den tPt)=>s.1) (fun i s=>PathsD 24 s.2) (fun l:List (den tPt)=>PathsD 24 l) ?_ ?_ 0 ((0:Int),[]) (by omega) rfl ⟨by simp,fun x hx=>(List.not_mem_nil hx).elim⟩ (fun l hl=>⟨l,rfl,hl⟩)
 ·rintro i ⟨_,l⟩ hi rfl hp
  simp only at hp
  have hl:=hp.1
  have hyi:=hy.2 y[i] (List.getElem_mem hi)
  simp only [decide_eq_true (show (i:Int)<(y.length:Int) by omega),cond_true,obind_some]
  by_cases hc:(l.length:Int)<24
  ·right
   obtain ⟨b1,f1⟩:=usable_ans ht hyi now
   obtain ⟨b2,f2⟩:=hasP_ans (n:=24) (by decide) hp y[i]
   simp only [decide_eq_true hc,cond_true,decide_eq_true (show (0:Int)≤(i:Int) by omega),decide_eq_true (show (i:Int)<(y.length:Int) by omega),Int.toNat_natCast,List.getElem?_eq_getElem hi,obind_some,f1,f2,apOk_le (b:=24) (n:=l.length) (m:=1) (by decide) (by omega),wr_succ (show i≤1000000000 by omega)]
   cases b1 with
   | false=>exact ⟨_,rfl,rfl,hp⟩
   | true=>
    cases b2 with
    | true=>exact ⟨_,rfl,rfl,hp⟩
    | false=>exact ⟨_,rfl,rfl,by simp;omega,fun q hq=>(List.mem_append.1 hq).elim (hp.2 q) fun hq=>by rw [List.mem_singleton.1 hq];exact hyi⟩
  ·left
   exact ⟨l,by simp only [decide_eq_false hc,cond_false],hp⟩
 ·rintro ⟨_,l⟩ rfl hp
  exact ⟨l,by simp only [decide_eq_false (Int.lt_irrefl _),cond_false,obind_some],hp⟩

theorem bytes_ans {code:List Int} (hl:code.length≤1048576) {n:Nat} (hn:n≤1000) {c:List Int} {p h:Int} (hc:Cur code (c,p,h)): ∃ l c' p' h',s_l1Bytes (c,p,h) (n:Int)=some (l,c',p',h')∧(l.length=n∧ ∀ x∈l,0≤x∧x≤255)∧Cur code (c',p',h'):=by
 unfold s_l1Bytes
 refine loop_up (G:=fun o=> ∃ l c' p' h',o=some (l,c',p',h')∧(l.length=n∧ ∀ x∈l,0≤x∧x≤255)∧Cur code (c',p',h')) n (fun s:Int×List Int×List Int×Int×Int=>s.1) (fun i s=>(s.2.1.length=i∧ ∀ x∈s.2.1,0≤x∧x≤255)∧Cur code s.2.2) (fun r:List Int×List Int×Int×Int=>(r.1.length=n∧ ∀ x∈r.1,0≤x∧x≤255)∧Cur code r.2) ?_ ?_ 0 ((0:Int),[],c,p,h) (by omega) rfl ⟨⟨rfl,fun x hx=>(List.not_mem_nil hx).elim⟩,hc⟩ (fun r hr=>⟨r.1,r.2.1,r.2.2.1,r.2.2.2,rfl,hr.1,hr.2⟩)
 ·rintro i ⟨_,l,c1,p1,h1⟩ hi rfl ⟨⟨g1,g2⟩,k1⟩
  simp only at g1 g2 k1
  obtain ⟨v,c2,p2,h2,e2,r2,k2⟩:=byte_ans hl k1
  obtain ⟨m,rfl⟩:=Int.eq_ofNat_of_zero_le r2.1
  right
  refine ⟨(((i+1:Nat):Int),l++[(m:Int)],c2,p2,h2),?_,rfl,⟨by simp [g1],fun x hx=>(List.mem_append.1 hx).elim (g2 x) fun hx=>by rw [List.mem_singleton.1 hx];omega⟩,k2⟩
  simp only [decide_eq_true (show (i:Int)<(n:Int) by omega),cond_true,e2,obind_some,apOk_le (b:=1) (n:=l.length) (m:=1) (by decide) (by omega),wr_succ (show i≤1000000000 by omega),u8_wrap (n:=m) (by omega)]
 ·rintro ⟨_,l,c1,p1,h1⟩ rfl ⟨g,k1⟩
  exact ⟨(l,c1,p1,h1),by simp only [decide_eq_false (Int.lt_irrefl _),cond_false],g,k1⟩

theorem meet0_ans {up down:den tSg} (h1:up.2.2.length≤5) (h2:down.2.2.length≤5): ∃ p,s_l22Meet up down=some p∧PathD p:=by
 obtain ⟨p,e,k⟩:=meet_ans h1 h2
 unfold s_JoinUpDown at e
 refine ⟨p,?_,k⟩
 cases hm:s_l22Meet (up.1,up.2.1,up.2.2) (down.1,down.2.1,down.2.2) with
 | none=>rw [hm] at e;cases e
 | some q=>rw [hm,obind_some] at e;cases e;rfl

def PthP (code:List Int) (o:Option (List (den tAS)×List (den tLk)×List (den tPp)×List Int×Int×Int)):Prop:= ∃ (as:List (den tAS)) (ls:List (den tLk)) (q:List (den tPp)) (c':List Int) (p' h':Int),o=some (as,ls,q,c',p',h')∧PathD q∧Cur code (c',p',h')

theorem path_one {q:den tPp} (h:q.2.2.2.length≤5):PathD [q]:=⟨by simp,fun x hx=>by
 have hx:x∈[q]:=hx
 rw [List.mem_singleton.1 hx];exact h⟩

abbrev PdS:=Int×Int×Int×Int×Int×List (den tHop)×List (den tHop)×List Int×Int×Int

theorem path_ans {code:List Int} (hl:code.length≤1048576) {c:List Int} {p h:Int} (hc:Cur code (c,p,h)):PthP code (s_l22Draw (c,p,h)):=by
 obtain ⟨as,ls,c1,p1,h1,e1,ht,k1⟩:=top_ans hl hc
 obtain ⟨t2,b2,s2,c2,p2,h2,e2,l2,k2⟩:=grow_ans hl ht 2 k1
 obtain ⟨t3,b3,s3,c3,p3,h3,e3,l3,k3⟩:=grow_ans hl ht 2 k2
 obtain ⟨t4,b4,s4,c4,p4,h4,e4,l4,k4⟩:=grow_ans hl ht 1 k3
 obtain ⟨v5,c5,p5,h5,e5,r5,k5⟩:=below_ans hl (n:=5) (by decide) (by decide) k4
 unfold s_l22Draw
 simp only [e1,e2,e3,e4,e5,obind_some,both_self,dup_self,dup3_self,dup4_self,dup5_self,show apOk 48 0 1=true from by decide,cond_true]
 cases v5==(0:Int) with
 | true=>
  obtain ⟨q,eq,kq⟩:=meet0_ans (up:=(t2,b2,s2)) (down:=(t3,b3,s3)) l2 l3
  exact ⟨as,ls,q,c5,p5,h5,by simp only [cond_true,eq,obind_some],kq,k5⟩
 | false=>
  cases v5==(1:Int) with
  | true=>
   simp only [cond_true,cond_false]
   by_cases hs:(s2.length:Int)>0
   ·obtain ⟨v6,c6,p6,h6,e6,r6,k6⟩:=int_ans hl (l:=[(1:Int),(4:Int)]) (by decide) (by decide) k5
    obtain ⟨q,eq,kq⟩:=part_ans (s:=(t2,b2,s2)) l2 v6 0
    exact ⟨as,ls,[q],c6,p6,h6,by simp only [decide_eq_true hs,cond_true,e6,eq,obind_some],path_one kq,k6⟩
   ·exact ⟨as,ls,[],c5,p5,h5,by simp only [decide_eq_false hs,cond_false,obind_some],path_nil,k5⟩
  | false=>
   cases v5==(2:Int) with
   | true=>
    simp only [cond_true,cond_false]
    by_cases hs:(s4.length:Int)>0
    ·obtain ⟨v6,c6,p6,h6,e6,r6,k6⟩:=int_ans hl (l:=[(2:Int),(3:Int)]) (by decide) (by decide) k5
     obtain ⟨q,eq,kq⟩:=part_ans (s:=(t4,b4,s4)) l4 v6 0
     exact ⟨as,ls,[q],c6,p6,h6,by simp only [decide_eq_true hs,cond_true,e6,eq,obind_some],path_one kq,k6⟩
    ·exact ⟨as,ls,[],c5,p5,h5,by simp only [decide_eq_false hs,cond_false,obind_some],path_nil,k5⟩
   | false=>
    simp only [cond_false]
    obtain ⟨fc,efc⟩:=firstA_ans (s:=(t4,b4,s4))
    obtain ⟨lc,elc⟩:=lastA_ans (s:=(t4,b4,s4)) (by show s4.length≤_;omega)
    refine loop_up (G:=PthP code) 6 (fun s:PdS=>s.1) (fun i s=>s.2.2.2.2.2.1.length≤5∧s.2.2.2.2.2.2.1.length≤5∧Cur code s.2.2.2.2.2.2.2) (fun r:Int×Int×Int×Int×List (den tHop)×List (den tHop)×List Int×Int×Int=>r.2.2.2.2.1.length≤5∧r.2.2.2.2.2.1.length≤5∧Cur code r.2.2.2.2.2.2) ?_ ?_ 0 ((0:Int),t2,b2,t3,b3,s2,s3,c5,p5,h5) (by omega) rfl ⟨l2,l3,k5⟩ ?_
    ·rintro i ⟨_,ut,ub,dt,db,us,ds,c6,p6,h6⟩ hi rfl ⟨g1,g2,g3⟩
     simp only at g1 g2 g3
     simp only [decide_eq_true (show (i:Int)<6 by omega),cond_true,obind_some,efc,elc]
     cases decide ((s4.length:Int)>0) with
     | false=>exact .inl ⟨(ut,ub,dt,db,us,ds,c6,p6,h6),rfl,g1,g2,g3⟩
     | true=>
      right
      obtain ⟨fu,efu⟩:=firstA_ans (s:=(ut,ub,us))
      obtain ⟨fd,efd⟩:=firstA_ans (s:=(dt,db,ds))
      simp only [cond_true,efu,efd,obind_some]
      obtain ⟨x1,ex1⟩: ∃ b:Bool,(cond (decide ((us.length:Int)>(0:Int))) (some (fu != fc)) (some false))=some b:=by cases decide ((us.length:Int)>(0:Int))<;>exact ⟨_,rfl⟩
      obtain ⟨x2,ex2⟩: ∃ b:Bool,(cond (decide ((ds.length:Int)>(0:Int))) (some (fd != lc)) (some false))=some b:=by cases decide ((ds.length:Int)>(0:Int))<;>exact ⟨_,rfl⟩
      simp only [ex1,ex2,obind_some]
      obtain ⟨y1,y2,y3,c7,p7,h7,ey,ly,ky⟩: ∃ a b hs c p h,(cond x1 (Option.bind (s_l9Grow (c6,p6,h6) (as,ls) (2:Int)) fun y72=>some (y72.1,y72.2.1,y72.2.2.1,y72.2.2.2.1,y72.2.2.2.2.1,y72.2.2.2.2.2)) (some (ut,ub,us,c6,p6,h6)))=some (a,b,hs,c,p,h)∧hs.length≤5∧Cur code (c,p,h):=by
       cases x1 with
       | false=>exact ⟨ut,ub,us,c6,p6,h6,rfl,g1,g3⟩
       | true=>
        obtain ⟨a,b,hs,c,p,h,eg,lg,kg⟩:=grow_ans hl ht 2 g3
        exact ⟨a,b,hs,c,p,h,by simp only [cond_true,eg,obind_some],lg,kg⟩
      rw [ey,obind_some]
      simp only
      cases x2 with
      | false=>exact ⟨_,rfl,wr_succ (show i≤1000000000 by omega),ly,g2,ky⟩
      | true=>
       obtain ⟨a,b,hs,c,p,h,eg,lg,kg⟩:=grow_ans hl ht 2 ky
       refine ⟨_,by simp only [cond_true,eg,obind_some];rfl,wr_succ (show i≤1000000000 by omega),ly,lg,kg⟩
    ·rintro ⟨_,ut,ub,dt,db,us,ds,c6,p6,h6⟩ rfl ⟨g1,g2,g3⟩
     exact ⟨(ut,ub,dt,db,us,ds,c6,p6,h6),by simp only [show decide (((6:Nat):Int)<(6:Int))=false from rfl,cond_false,obind_some],g1,g2,g3⟩
    rintro ⟨ut,ub,dt,db,us,ds,c6,p6,h6⟩ ⟨g1,g2,g3⟩
    simp only at g1 g2 g3
    obtain ⟨q1,f1,m1⟩:=part_ans (s:=(ut,ub,us)) g1 1 0
    obtain ⟨q2,f2,m2⟩:=part_ans (s:=(t4,b4,s4)) l4 2 0
    obtain ⟨q3,f3,m3⟩:=part_ans (s:=(dt,db,ds)) g2 4 0
    have one: ∀ (l:List (den tPp)) (q:den tPp) (n:Nat),l.length≤n→q.2.2.2.length≤5→(∀ x∈l,x.2.2.2.length≤5)→(l++[q]).length≤n+1∧ ∀ x∈l++[q],x.2.2.2.length≤5:=fun l q n hl hq h=>⟨by simp;omega,fun x hx=>(List.mem_append.1 hx).elim (h x) fun hx=>by rw [List.mem_singleton.1 hx];exact hq⟩
    simp only [f1,f2,f3,obind_some]
    obtain ⟨a1,j1,i1,i2⟩: ∃ l:List (den tPp),(cond (decide ((us.length:Int)>(0:Int))) (some [q1]) (some []))=some l∧l.length≤1∧ ∀ x∈l,x.2.2.2.length≤5:=by
     cases decide ((us.length:Int)>(0:Int))
     ·exact ⟨[],rfl,by simp,fun x hx=>(List.not_mem_nil hx).elim⟩
     ·exact ⟨[q1],rfl,by simp,fun x hx=>by rw [List.mem_singleton.1 hx];exact m1⟩
    rw [show ((q1.1,q1.2.1,q1.2.2.1,q1.2.2.2):den tPp)=q1 from rfl,j1,obind_some,apOk_le (b:=48) (n:=a1.length) (m:=1) (by decide) (by omega)]
    obtain ⟨a2,j2,i3,i4⟩: ∃ l:List (den tPp),(cond (decide ((s4.length:Int)>(0:Int))) (cond true (some (a1++[q2])) none) (some a1))=some l∧l.length≤2∧ ∀ x∈l,x.2.2.2.length≤5:=by
     cases decide ((s4.length:Int)>(0:Int))
     ·exact ⟨a1,rfl,by omega,i2⟩
     ·exact ⟨a1++[q2],rfl,one a1 q2 1 i1 m2 i2⟩
    rw [show ((q2.1,q2.2.1,q2.2.2.1,q2.2.2.2):den tPp)=q2 from rfl,j2,obind_some,apOk_le (b:=48) (n:=a2.length) (m:=1) (by decide) (by omega)]
    cases decide ((ds.length:Int)>(0:Int))
    ·exact ⟨as,ls,a2,c6,p6,h6,rfl,⟨Nat.le_trans i3 (by decide),i4⟩,g3⟩
    ·exact ⟨as,ls,a2++[q3],c6,p6,h6,rfl,one a2 q3 2 i3 m3 i4,g3⟩


structure PktD (p:den tPk):Prop where
 path:PathD p.2.2.2.1
 len:p.2.2.2.2.2.2.2.2.2.length≤1000
 bytes: ∀ x∈p.2.2.2.2.2.2.2.2.2,(0:Int)≤x∧x≤(255:Int)

theorem pkt_ans {code:List Int} (hl:code.length≤1048576) {c:List Int} {p h:Int} (hc:Cur code (c,p,h)): ∃ (as:List (den tAS)) (ls:List (den tLk)) (k:den tPk) (c':List Int) (p' h':Int),s_l26Draw (c,p,h)=some (as,ls,k.1,k.2.1,k.2.2.1,k.2.2.2.2.1,k.2.2.2.2.2.1,k.2.2.2.2.2.2.1,k.2.2.2.2.2.2.2.1,k.2.2.2.2.2.2.2.2.1,k.2.2.2.1,k.2.2.2.2.2.2.2.2.2,c',p',h')∧PktD k∧Cur code (c',p',h'):=by
 obtain ⟨as,ls,q,c1,p1,h1,e1,kq,k1⟩:=path_ans hl hc
 obtain ⟨v2,c2,p2,h2,e2,r2,k2⟩:=below_ans hl (n:=3) (by decide) (by decide) k1
 obtain ⟨v3,c3,p3,h3,e3,r3,k3⟩:=below_ans hl (n:=9) (by decide) (by decide) k2
 obtain ⟨v4,c4,p4,h4,e4,r4,k4⟩:=below_ans hl (n:=3) (by decide) (by decide) k3
 obtain ⟨v5,c5,p5,h5,e5,r5,k5⟩:=below_ans hl (n:=4) (by decide) (by decide) k4
 obtain ⟨m5,rfl⟩:=Int.eq_ofNat_of_zero_le r5.1
 obtain ⟨l6,c6,p6,h6,e6,⟨r6,b6⟩,k6⟩:=bytes_ans hl (n:=m5) (by omega) k5
 have e7:=s_newPk (kind:=wr (1+v2)) (res:=v4) (seq:=v3) (p:=q) (pay:=l6) (Nat.le_trans (path_tot kq) (by decide)) (by omega)
 refine ⟨as,ls,newPk (wr (1+v2)) q v4 v3 l6,c6,p6,h6,?_,⟨kq,by show l6.length≤_;omega,b6⟩,k6⟩
 unfold s_l26Draw
 simp only [e1,e2,e3,e4,e5,e6,e7,obind_some,both_self,dup_self,dup3_self,dup4_self,dup5_self]
 rfl

theorem newX_s (a b:Int):s_NewInbox a b=some (a,b,0,[]):=rfl

theorem flow_tot (a b c d cu wa:Int) (ms:List (den tMs)) (ps:List (den tPt)) (rv:List (den tRv)):tot tFl (a,b,c,d,ms,ps,cu,wa,rv)=tot (.sl tMs) ms+tot (.sl tPt) ps+rv.length:=by
 show tot ti a+(tot ti b+(tot ti c+(tot ti d+(tot (.sl tMs) ms+(tot (.sl tPt) ps+(tot ti cu+(tot ti wa+tot (.sl tRv) rv)))))))=_
 rw [tot_flatL (t:=tRv) rfl]
 show 0+(0+(0+(0+(_+(_+(0+(0+_)))))))=_
 omega

theorem msg_tot (b:List Int):tot (.sl tMs) [b]=1+b.length:=by
 rw [tot_cons]
 show 1+tot (.sl tb) b+tot (.sl tMs) []=_
 rw [tot_flatL (t:=tb) rfl]
 rfl

theorem validF_iff (f:den tFl):validF f=true↔inR f.1 0 7=true∧inR f.2.1 0 7=true∧f.1≠f.2.1∧inR f.2.2.1 0 100000=true∧f.2.2.2.2.1.length≤20∧inR f.2.2.2.1 0 (f.2.2.2.2.1.length:Int)=true∧f.2.2.2.2.2.1.length≤24∧
  (∀ m∈f.2.2.2.2.1,m.length≤40)∧(∀ x∈f.2.2.2.2.2.2.2.2,validV x=true)∧(f.2.2.2.2.2.2.1=0∨inR f.2.2.2.2.2.2.1 0 ((f.2.2.2.2.2.1.length:Int) - 1)=true)∧inR f.2.2.2.2.2.2.2.1 0 4=true∧f.2.2.2.2.2.2.2.2.length≤16:=by
 unfold validF
 simp only [Bool.and_eq_true,Bool.or_eq_true,Bool.not_eq_true',beq_iff_eq,beq_eq_false_iff_ne,decide_eq_true_eq,List.all_eq_true,ne_eq]

theorem word_ans {code:List Int} (hl:code.length≤1048576) {c:List Int} {p h:Int} (hc:Cur code (c,p,h)): ∃ v c' p' h',s_l3Word (c,p,h)=some (v,c',p',h')∧Cur code (c',p',h'):=by
 obtain ⟨v1,c1,p1,h1,e1,k1⟩:=once_ans hl (n:=10) (by decide) (by decide) hc
 unfold s_l3Word
 simp only [e1,obind_some]
 cases v1 with
 | true=>
  obtain ⟨v2,c2,p2,h2,e2,_,k2⟩:=int_ans hl (l:=[(-1:Int),(2147483647:Int),(2147483648:Int)]) (by decide) (by decide) k1
  exact ⟨v2,c2,p2,h2,by simp only [cond_true,e2,obind_some],k2⟩
 | false=>
  obtain ⟨v2,c2,p2,h2,e2,k2⟩:=once_ans hl (n:=4) (by decide) (by decide) k1
  simp only [cond_false,e2,obind_some]
  cases v2 with
  | true=>
   obtain ⟨v3,c3,p3,h3,e3,_,k3⟩:=int_ans hl (l:=[(0:Int),(1:Int),(2147483646:Int)]) (by decide) (by decide) k2
   exact ⟨v3,c3,p3,h3,by simp only [cond_true,e3,obind_some],k3⟩
  | false=>
   obtain ⟨v3,c3,p3,h3,e3,_,k3⟩:=below_big hl (n:=1000000) (by decide) k2
   obtain ⟨v4,c4,p4,h4,e4,_,k4⟩:=below_big hl (n:=2000) (by decide) k3
   exact ⟨wr (v3 * v4),c4,p4,h4,by simp only [cond_false,e3,e4,obind_some],k4⟩

theorem long_ans {as:List (den tAS)} {ls:List (den tLk)} {s:den tSg} (h5:s.2.2.length≤5) (hi:InN (as.length:Int) s.2.2): ∃ hs,s_l37Long (as,ls) s=some (s.1,s.2.1,hs)∧hs.length≤5∧InN (as.length:Int) hs:=by
 unfold s_l37Long
 rw [show ((s.1,s.2.1,s.2.2):den tSg)=s from rfl,s_copyG (by omega),obind_some]
 refine loop_up (G:=fun o=> ∃ hs,o=some (s.1,s.2.1,hs)∧hs.length≤5∧InN (as.length:Int) hs) s.2.2.length (fun z:Int×List (den tHop)=>z.1) (fun i z=>z.2.length=s.2.2.length∧InN (as.length:Int) z.2) (fun r:List (den tHop)=>r.length=s.2.2.length∧InN (as.length:Int) r) ?_ ?_ 0 ((0:Int),s.2.2) (by omega) rfl ⟨rfl,hi⟩ ?_
 ·rintro i ⟨_,l⟩ hlt rfl ⟨g1,g2⟩
  simp only at g1 g2
  right
  have hil:i<l.length:=by omega
  have hx:l[i]? =some l[i]:=List.getElem?_eq_getElem hil
  obtain ⟨q0,q1⟩:=g2 l[i] (List.getElem_mem hil)
  obtain ⟨m,hm⟩:=Int.eq_ofNat_of_zero_le q0
  have hml:m<as.length:=by omega
  obtain ⟨bt,et⟩:=beta_ans (s:=(s.1,s.2.1,l)) (i:Int) (by show l.length≤_;omega)
  have ex:idx as l[i].1=some as[m]:=by rw [hm,idx_nat];exact List.getElem?_eq_getElem hml
  simp only [decide_eq_true (show (i:Int)<(l.length:Int) by omega),decide_eq_true (show (0:Int)≤(i:Int) by omega),cond_true,Int.toNat_natCast,hx,obind_some,ex,et,auth_s,decide_eq_true hil]
  refine ⟨_,rfl,wr_succ (show i≤1000000000 by omega),by simp [g1],fun y hy=> ?_⟩
  rcases List.mem_or_eq_of_mem_set hy with hy | rfl
  ·exact g2 y hy
  ·exact ⟨q0,q1⟩
 ·rintro ⟨_,l⟩ rfl ⟨g1,g2⟩
  simp only at g1 g2
  exact ⟨l,by simp only [g1,decide_eq_false (Int.lt_irrefl _),cond_false],g1,g2⟩
 ·rintro l ⟨g1,g2⟩
  exact ⟨l,rfl,by omega,g2⟩

theorem egress_ans {p:den tPt} (h:PathD p): ∃ l,s_EgressSteps p=some l∧l.length≤18:=by
 have ht:=path_tot h
 have hs:=steps_len p
 unfold s_EgressSteps
 rw [s_steps (by omega),obind_some]
 refine loop_up (G:=fun o=> ∃ l,o=some l∧l.length≤18) (steps p).length (fun z:Int×List (den tStep)=>z.1) (fun i z=>z.2.length≤i) (fun r:List (den tStep)=>r.length≤18) ?_ ?_ 0 ((0:Int),[]) (by omega) rfl (by simp) (fun l hl=>⟨l,rfl,hl⟩)
 ·rintro i ⟨_,l⟩ hlt rfl g1
  simp only at g1
  right
  simp only [decide_eq_true (show (i:Int)<((steps p).length:Int) by omega),decide_eq_true (show (0:Int)≤(i:Int) by omega),cond_true,Int.toNat_natCast,List.getElem?_eq_getElem hlt,obind_some,apOk_le (b:=24) (n:=l.length) (m:=1) (by decide) (by omega),wr_succ (show i≤1000000000 by omega)]
  cases ((steps p)[i].2.2 != (0:Int)) with
  | true=>exact ⟨_,rfl,rfl,by simp;omega⟩
  | false=>exact ⟨_,rfl,rfl,by show l.length≤i+1;omega⟩
 ·rintro ⟨_,l⟩ rfl g1
  exact ⟨l,by simp only [decide_eq_false (Int.lt_irrefl _),cond_false],by simp only at g1;omega⟩

theorem reserve_ans {l:List (den tRs)} {cap now:Int} (hl:OkRs l cap now) {p:den tPt} (hp:PathD p) (id r till:Int): ∃ b m,s_ReservePath l id p r till cap now=some (b,m)∧OkRs m cap now:=by
 obtain ⟨d,ed,hd⟩:=egress_ans hp
 have hn:=hl.len
 unfold s_ReservePath
 rw [apOk_le (b:=40) (n:=([]:List (den tRs)).length) (m:=l.length) (by decide) (by simp;omega),cond_true,ed,obind_some]
 refine loop_up (G:=fun o=> ∃ b m,o=some (b,m)∧OkRs m cap now) d.length (fun z:Int×List (den tRs)=>z.1) (fun i z=>OkRs z.2 cap now) (fun r:List (den tRs)⊕(Bool×List (den tRs))=>match r with | .inl m=>OkRs m cap now | .inr m=>OkRs m.2 cap now) ?_ ?_ 0 ((0:Int),[]++l) (by omega) rfl hl ?_
 ·rintro i ⟨_,m⟩ hlt rfl g1
  simp only at g1
  have hm:=g1.len
  obtain ⟨b,eb⟩:=s_admit (l:=m) (x:=(id,d[i].1,d[i].2.2,r,till)) (cap:=cap) (now:=now) (by omega)
  simp only [decide_eq_true (show (i:Int)<(d.length:Int) by omega),decide_eq_true (show (0:Int)≤(i:Int) by omega),cond_true,Int.toNat_natCast,List.getElem?_eq_getElem hlt,obind_some,eb,wr_succ (show i≤1000000000 by omega)]
  cases b with
  | true=>exact .inr ⟨_,rfl,rfl,g1.admR _⟩
  | false=>exact .inl ⟨_,rfl,hl⟩
 ·rintro ⟨_,m⟩ rfl g1
  exact ⟨.inl m,by simp only [decide_eq_false (Int.lt_irrefl _),cond_false],g1⟩
 ·rintro (m | ⟨b,m⟩) hm
  ·exact ⟨_,m,rfl,hm⟩
  ·exact ⟨b,m,rfl,hm⟩

def addBad (w:den tNw) (f:den tFl):Bool:= !validF f|| !asOk (nT w) f.1|| !asOk (nT w) f.2.1||(f.2.2.2.1 != 0)||decide (((nFlows w).length:Int)≥4)||decide (findX (nBox w) f.2.1 f.1≥0)

def setPF (f:den tFl) (l:List (den tPt)) (now:Int):den tFl:=(f.1,f.2.1,f.2.2.1,f.2.2.2.1,f.2.2.2.2.1,newPs f l now,0,0,f.2.2.2.2.2.2.2.2)

def addF (w:den tNw) (f:den tFl) (l:List (den tPt)):den tNw:=(nT w,nK w,nG w,nNow w,nDead w,nFly w,nFlows w++[setPF f l (nNow w)],nBox w++[(f.2.1,f.1,0,[])],nDrop w)

def netB (w:den tNw) (b:Bool):Int×Int×Int×Bool×(List (den tAS))×(List (den tLk))×(List (den tSg))×(List (den tSg))×(List (den tRs))×(List (den tUs))×(List Int)×(List (den tFy))×(List (den tFl))×(List (den tIb)):=
 ((nG w).1,nNow w,nDrop w,b,(nT w).1,(nT w).2,(nK w).1,(nK w).2,(nG w).2.1,(nG w).2.2,nDead w,nFly w,nFlows w,nBox w)

theorem addF_ans {w:den tNw} {f:den tFl} {l:List (den tPt)} (hw:tot tNw w≤1073741824) (hf:tot tFl f≤1073741824) (hl:tot (.sl tPt) l≤1073741824) (el:s_FindPaths (nT w) (nK w) f.1 f.2.1 (nNow w)=some l):
  s_AddFlow w f=some (netB (if addBad w f then w else addF w f l) (!addBad w f)):=by
 have sw:SmB 68719476736 tNw w:=(sm_of_tot hw).mono (by decide)
 have sf:SmB 68719476736 tFl f:=(sm_of_tot hf).mono (by decide)
 have n1:w.1.1.length≤68719476736:=sw.1.1.1
 have n2:w.2.2.2.2.2.2.2.1.length≤1073741824:=(sm_of_tot hw).2.2.2.2.2.2.2.1.1
 have n3:w.2.2.2.2.2.2.1.length≤1073741824:=(sm_of_tot hw).2.2.2.2.2.2.1.1
 have el:s_FindPaths w.1 w.2.1 f.1 f.2.1 w.2.2.2.1=some l:=el
 have a1:apOk 120 w.2.2.2.2.2.2.1.length 1=true:=apOk_le (by decide) (by omega)
 have a2:apOk 48 w.2.2.2.2.2.2.2.1.length 1=true:=apOk_le (by decide) (by omega)
 unfold s_AddFlow addBad
 simp only [peta,s_copyW sw,s_validF sf,s_asOk n1,s_findX (show w.2.2.2.2.2.2.2.1.length≤68719476736 by omega),el,s_setP hf hl,newX_s,obind_some,netC,a1,a2,cond_true]
 cases validF f
 ·rfl
 cases asOk w.1 f.1
 ·rfl
 cases asOk w.1 f.2.1
 ·rfl
 cases f.2.2.2.1 != 0 with
 | true=>rfl
 | false=>cases decide ((w.2.2.2.2.2.2.1.length:Int)≥4) with
  | true=>rfl
  | false=>cases decide (findX w.2.2.2.2.2.2.2.1 f.2.1 f.1≥0)<;>rfl

theorem mem_putP {x y:den tPt} {l:List (den tPt)} (h:y∈putP x l):y=x∨y∈l:=by
 unfold putP at h
 simp only [List.mem_append,List.mem_singleton] at h
 rcases h with (h | h) | h
 ·exact .inr (List.mem_of_mem_take h)
 ·exact .inl h
 ·exact .inr (List.mem_of_mem_drop h)

theorem mem_sortP {y:den tPt} {l:List (den tPt)} (h:y∈sortP l):y∈l:=by
 have : ∀ (l:List (den tPt)) (k:Nat) (a:List (den tPt)),y∈foldI (fun _ x a=>putP x a) k l a→y∈l∨y∈a:=by
  intro l
  induction l with
  | nil=>exact fun k a h=> .inr h
  | cons x l ih=>
   intro k a h
   rcases ih (k+1) (putP x a) h with h | h
   ·exact .inl (List.mem_cons_of_mem _ h)
   ·rcases mem_putP h with rfl | h
    ·exact .inl (by simp)
    ·exact .inr h
 rcases this l 0 [] h with h | h
 ·exact h
 ·exact (List.not_mem_nil h).elim

theorem mem_newPs {f:den tFl} {y:den tPt} {l:List (den tPt)} {now:Int} (h:y∈newPs f l now):y∈l:=by
 unfold newPs preferP at h
 have h:=List.mem_of_mem_take h
 simp only [List.mem_append,List.mem_filter] at h
 rcases h with h | h<;>exact mem_sortP h.1


structure FlD (t:den tTo) (f:den tFl):Prop where
 val:validF f=true
 src:asOk t f.1=true
 dst:asOk t f.2.1=true
 ack:f.2.2.2.1=(0:Int)
 cur:f.2.2.2.2.2.2.1=(0:Int)
 wait:f.2.2.2.2.2.2.2.1=(0:Int)
 rev:f.2.2.2.2.2.2.2.2=[]
 paths:PathsD 4 f.2.2.2.2.2.1
 msgs:tot (.sl tMs) f.2.2.2.2.1≤12
 bytes: ∀ m∈f.2.2.2.2.1,bytesL m


structure NewD (n:Nat) (w:den tNw):Prop where
 top:TopD (nT w).1 (nT w).2
 db:DbD 11 (nK w).1 (nK w).2
 gate:nG w=(12,(nG w).2.1,[])
 res:OkRs (nG w).2.1 12 60
 now:nNow w=60
 dead:nDead w=[]
 fly:nFly w=[]
 drop:nDrop w=0
 len:(nFlows w).length≤n
 flows: ∀ f∈nFlows w,FlD (nT w) f
 box:nBox w=(nFlows w).map fun f=>((f.2.1,f.1,0,[]):den tIb)
 uniq:(nFlows w).Pairwise fun f g=>sameEnds g f=false

theorem FlD.tot {t:den tTo} {f:den tFl} (h:FlD t f):tot tFl f≤100:=by
 obtain ⟨a,b,c,d,ms,ps,cu,wa,rv⟩:=f
 rw [flow_tot]
 have h1:=h.msgs
 have h2:=paths_tot h.paths
 have h3:rv=[]:=h.rev
 rw [h3]
 simp only at h1 h2
 simp only [List.length_nil]
 omega

theorem seg_tot {s:den tSg} (h:s.2.2.length≤5):tot tSg s≤5:=by
 have e:tot tSg s=s.2.2.length:=by
  show 0+(0+tot (.sl tHop) s.2.2)=_
  rw [tot_flatL rfl];omega
 omega

theorem NewD.tot {n:Nat} {w:den tNw} (hn:n≤4) (h:NewD n w):Go.V.tot tNw w≤1000:=by
 rw [net_tot]
 have h1:=h.top.len
 have h2:=h.top.links
 have h3:=tot_each (t:=tSg) (B:=5) (l:=(nK w).1) fun x hx=>seg_tot (h.db.hd x hx)
 have h4:=tot_each (t:=tSg) (B:=5) (l:=(nK w).2) fun x hx=>seg_tot (h.db.hc x hx)
 have h5:=tot_each (t:=tFl) (B:=100) (l:=nFlows w) fun f hf=>(h.flows f hf).tot
 have h6:=h.db.down
 have h7:=h.db.core
 have h8:=h.len
 have h9:=h.res.len
 have h10:(nG w).2.2=[]:=by rw [h.gate]
 have h11:Go.V.tot (.sl tIb) (nBox w)≤(0+1) * (nBox w).length:=tot_each (t:=tIb) fun x hx=>by
  rw [h.box] at hx
  obtain ⟨f,_,rfl⟩:=List.mem_map.1 hx
  exact Nat.le_refl _
 have h12:(nBox w).length=(nFlows w).length:=by rw [h.box,List.length_map]
 rw [h.dead,h.fly,h10,tot_nil,tot_nil,tot_nil,tot_flatL (t:=tAS) rfl,tot_flatL (t:=tLk) rfl,tot_flatL (t:=tRs) rfl]
 omega

theorem NewD.mono {n m:Nat} {w:den tNw} (h:NewD n w) (hm:n≤m):NewD m w:=⟨h.top,h.db,h.gate,h.res,h.now,h.dead,h.fly,h.drop,Nat.le_trans h.len hm,h.flows,h.box,h.uniq⟩

def netN (w:den tNw) (c:List Int) (p h:Int):Int×Int×Int×(List (den tAS))×(List (den tLk))×(List (den tSg))×(List (den tSg))×(List (den tRs))×(List (den tUs))×(List Int)×(List (den tFy))×(List (den tFl))×(List (den tIb))×(List Int)×Int×Int:=
 ((nG w).1,nNow w,nDrop w,(nT w).1,(nT w).2,(nK w).1,(nK w).2,(nG w).2.1,(nG w).2.2,nDead w,nFly w,nFlows w,nBox w,c,p,h)

abbrev NwS:=Int×(List (den tSg))×(List (den tSg))×Int×Int×Int×(List (den tRs))×(List (den tAS))×(List (den tLk))×(List (den tSg))×(List (den tSg))×(List (den tUs))×(List Int)×(List (den tFy))×(List (den tFl))×(List (den tIb))×(List Int)×Int×Int

abbrev NwR:=Int×Int×Int×(List (den tRs))×(List (den tAS))×(List (den tLk))×(List (den tSg))×(List (den tSg))×(List (den tUs))×(List Int)×(List (den tFy))×(List (den tFl))×(List (den tIb))×(List Int)×Int×Int

def NwI (code:List Int) (n:Nat) (s:NwS):Prop:= ∃ as ls d cc res flows box c p h,s=((n:Int),d,cc,12,60,0,res,as,ls,d,cc,[],[],[],flows,box,c,p,h)∧n≤3∧NewD (3 - n) ((as,ls),(d,cc),(12,res,[]),60,[],[],flows,box,0)∧Cur code (c,p,h)

def NwQ (code:List Int) (r:NwR):Prop:= ∃ as ls d cc res flows box c p h,r=(12,60,0,res,as,ls,d,cc,[],[],[],flows,box,c,p,h)∧NewD 3 ((as,ls),(d,cc),(12,res,[]),60,[],[],flows,box,0)∧Cur code (c,p,h)

theorem cut_flow {t:den tTo} {f:den tFl} {l:List (den tPt)} {now:Int} {n:Nat} (hn:n≤4) (hv:validF f=true) (hs:asOk t f.1=true) (hd:asOk t f.2.1=true) (hk:f.2.2.2.1=(0:Int)) (hr:f.2.2.2.2.2.2.2.2=[]) (hm:tot (.sl tMs) f.2.2.2.2.1≤12) (hb: ∀ m∈f.2.2.2.2.1,bytesL m) (hl:PathsD 24 l):
  FlD t (f.1,f.2.1,f.2.2.1,f.2.2.2.1,f.2.2.2.2.1,(newPs f l now).take n,0,0,f.2.2.2.2.2.2.2.2) where
 val:=by
  rw [validF_iff] at hv ⊢
  obtain ⟨q1,q2,q3,q4,q5,q6,q7,q8,q9,q10,q11,q12⟩:=hv
  exact ⟨q1,q2,q3,q4,q5,q6,by simp only [List.length_take];omega,q8,q9,.inl rfl,rfl,q12⟩
 src:=hs
 dst:=hd
 ack:=hk
 cur:=rfl
 wait:=rfl
 rev:=hr
 paths:=⟨by simp only [List.length_take];omega,fun p hp=>hl.2 p (mem_newPs (List.mem_of_mem_take hp))⟩
 msgs:=hm
 bytes:=hb

theorem findX_none {l:List (den tIb)} {a b:Int} (h:decide (findX l a b≥0)=false): ∀ x∈l,atFrom a b x=false:=by
 have h:=of_decide_eq_false h
 unfold findX at h
 cases e:l.findIdx? (atFrom a b) with
 | none=>exact fun x hx=>by simpa using List.findIdx?_eq_none_iff.1 e x hx
 | some i=>rw [e] at h;exact absurd (show (0:Int)≤((0+i:Nat):Int) by omega) h

def NetP (code:List Int) (o:Option (Int×Int×Int×(List (den tAS))×(List (den tLk))×(List (den tSg))×(List (den tSg))×(List (den tRs))×(List (den tUs))×(List Int)×(List (den tFy))×(List (den tFl))×(List (den tIb))×(List Int)×Int×Int)):Prop:= ∃ w c' p' h',o=some (netN w c' p' h')∧NewD 3 w∧Cur code (c',p',h')

theorem new_net {code:List Int} (hl:code.length≤1048576) {c:List Int} {p h:Int} (hc:Cur code (c,p,h)):NetP code (s_l37New (c,p,h)):=by
 obtain ⟨as,ls,c1,p1,h1,e1,ht,k1⟩:=top_ans hl hc
 obtain ⟨v2,c2,p2,h2,e2,r2,k2⟩:=below_ans hl (n:=7) (by decide) (by decide) k1
 obtain ⟨m2,rfl⟩:=Int.eq_ofNat_of_zero_le r2.1
 have w2:wr ((5:Int)+(m2:Int))=((m2+5:Nat):Int):=by rw [wr_small (by omega) (by omega)];omega
 unfold s_l37New
 simp only [both_self,dup_self,dup3_self,dup4_self,dup5_self,e1,e2,obind_some,w2]
 refine loop_bind (G:=NetP code) (fun (n:Nat) (s:Int×(List (den tAS))×(List (den tLk))×(List (den tSg))×(List (den tSg))×(List Int)×Int×Int)=> ∃ d cc c p h,s=((n:Int),as,ls,d,cc,c,p,h)∧n≤11∧DbD (11 - n) d cc∧Cur code (c,p,h)) (fun r:(List (den tAS))×(List (den tLk))×(List (den tSg))×(List (den tSg))×(List Int)×Int×Int=> ∃ d cc c p h,r=(as,ls,d,cc,c,p,h)∧DbD 11 d cc∧Cur code (c,p,h)) ?_ (m2+5) (((m2+5:Nat):Int),as,ls,[],[],c2,p2,h2) ⟨[],[],c2,p2,h2,rfl,by omega,⟨by simp,by simp,fun x hx=>(List.not_mem_nil hx).elim,fun x hx=>(List.not_mem_nil hx).elim,fun x hx=>(List.not_mem_nil hx).elim⟩,k2⟩ ?_
 ·rintro n s ⟨d,cc,c3,p3,h3,rfl,hn,hk,k3⟩
  cases n with
  | zero=>exact .inl ⟨_,rfl,d,cc,c3,p3,h3,rfl,hk,k3⟩
  | succ n=>
   right
   obtain ⟨v4,c4,p4,h4,e4,k4⟩:=once_ans hl (n:=3) (by decide) (by decide) k3
   have wn:wr (((n+1:Nat):Int) - 1)=(n:Int):=by rw [wr_small (by omega) (by omega)];omega
   have step: ∀ kind:Int,∃ d' cc' c' p' h',(Option.bind (s_l9Grow (c4,p4,h4) (as,ls) kind) fun y58=>Option.bind (s_l37Long (as,ls) (y58.1,y58.2.1,y58.2.2.1)) fun y59=>Option.bind (s_AddSegment (as,ls) (d,cc) y59) fun y60=>some (y60.1,y60.2,y58.2.2.2.1,y58.2.2.2.2.1,y58.2.2.2.2.2))=some (d',cc',c',p',h')∧DbD (11 - n) d' cc'∧Cur code (c',p',h'):=by
    intro kind
    obtain ⟨a5,b5,hs5,c5,p5,h5,e5,⟨l5,i5⟩,k5⟩:=grow_in hl ht kind k4
    obtain ⟨hs6,e6,l6,i6⟩:=long_ans (as:=as) (ls:=ls) (s:=(a5,b5,hs5)) l5 i5
    obtain ⟨d7,cc7,e7,q7⟩:=addS_ans ht (n:=11 - (n+1)) (by omega) hk (s:=(a5,b5,hs6)) l6 (i6.as (by have :=ht.len;omega))
    refine ⟨d7,cc7,c5,p5,h5,?_,q7.mono (by omega),k5⟩
    simp only [e5,e6,e7,obind_some]
   simp only [decide_eq_true (show ((n+1:Nat):Int)>0 by omega),cond_true,e4,obind_some]
   cases v4 with
   | true=>
    obtain ⟨d',cc',c',p',h',e,q,k⟩:=step 1
    refine ⟨n,_,by omega,?_,d',cc',c',p',h',rfl,by omega,q,k⟩
    simp only [cond_true,obind_some,e,wn]
   | false=>
    obtain ⟨d',cc',c',p',h',e,q,k⟩:=step 2
    refine ⟨n,_,by omega,?_,d',cc',c',p',h',rfl,by omega,q,k⟩
    simp only [cond_false,obind_some,e,wn]
 rintro r ⟨d,cc,c3,p3,h3,rfl,hk,k3⟩
 obtain ⟨v4,c4,p4,h4,e4,r4,k4⟩:=below_ans hl (n:=3) (by decide) (by decide) k3
 obtain ⟨m4,rfl⟩:=Int.eq_ofNat_of_zero_le r4.1
 have w4:wr ((1:Int)+(m4:Int))=((m4+1:Nat):Int):=by rw [wr_small (by omega) (by omega)];omega
 have hA:=ht.len
 have hL:=ht.links
 have smT:SmB 68719476736 tTo (as,ls):=⟨⟨by show as.length≤_;omega,fun _ _=>⟨trivial,trivial,trivial⟩⟩,by show ls.length≤_;omega,fun _ _=>⟨trivial,trivial,trivial,trivial,trivial⟩⟩
 have smK:SmB 68719476736 tDb (d,cc):=⟨segs_sm (by omega) hk.down hk.hd,segs_sm (by omega) hk.core hk.hc⟩
 have hok:newOk (as,ls) 60=true:=by unfold newOk;rw [ht.top];rfl
 have e5:=s_newW (t:=(as,ls)) (k:=(d,cc)) (c:=12) (now:=60) smT smK
 rw [hok,cond_true] at e5
 simp only [e5,e4,w4,obind_some]
 have cap12:cond (inR 12 1 20) (12:Int) 1=12:=rfl
 simp only [cap12]
 refine loop_bind (G:=NetP code) (NwI code) (NwQ code) ?_ (m4+1) (((m4+1:Nat):Int),d,cc,12,60,0,[],as,ls,d,cc,[],[],[],[],[],c4,p4,h4) ⟨as,ls,d,cc,[],[],[],c4,p4,h4,rfl,by omega,⟨ht,hk,rfl,⟨by simp,fun x hx=>(List.not_mem_nil hx).elim,fun x hx=>(List.not_mem_nil hx).elim,List.Pairwise.nil⟩,rfl,rfl,rfl,rfl,Nat.zero_le _,fun x hx=>(List.not_mem_nil hx).elim,rfl,List.Pairwise.nil⟩,k4⟩ ?_
 rotate_left
 ·rintro r ⟨as,ls,d,cc,res,flows,box,c5,p5,h5,rfl,hd,k5⟩
  exact ⟨_,c5,p5,h5,rfl,hd,k5⟩
 ·rintro n s ⟨as,ls,d,cc,res,flows,box,c5,p5,h5,rfl,hn,hd,k5⟩
  cases n with
  | zero=>exact .inl ⟨_,rfl,as,ls,d,cc,res,flows,box,c5,p5,h5,rfl,hd,k5⟩
  | succ n=>
   right
   obtain ⟨a6,b6,c6,p6,h6,e6,⟨ra6,rb6⟩,k6⟩:=ends_as hl (by decide) hd.db k5
   obtain ⟨v7,c7,p7,h7,e7,m7,k7⟩:=int_ans hl (l:=[(0:Int),(0:Int),((n+1:Nat):Int)]) (by simp) (by simp) k6
   obtain ⟨v8,c8,p8,h8,e8,r8,k8⟩:=below_ans hl (n:=3) (by decide) (by decide) k7
   obtain ⟨m8,rfl⟩:=Int.eq_ofNat_of_zero_le r8.1
   have w8:wr ((1:Int)+(m8:Int))=((m8+1:Nat):Int):=by rw [wr_small (by omega) (by omega)];omega
   have wn:wr (((n+1:Nat):Int) - 1)=(n:Int):=by rw [wr_small (by omega) (by omega)];omega
   have enf: ∀ a b c:Int,s_NewFlow a b c=some (a,b,c,0,0,0,[],[],[]):=fun _ _ _=>rfl
   simp only [decide_eq_true (show ((n+1:Nat):Int)>0 by omega),cond_true,e6,e7,enf,e8,w8,wn,obind_some,Option.bind_assoc]
   refine loop_bind (G:=fun o=> ∃ m s',m<n+1∧o=some (Sum.inl s')∧NwI code m s') (fun (n:Nat) (s:Int×Int×Int×Int×Int×Int×Int×List (den tMs)×List (den tPt)×List (den tRv)×List Int×Int×Int)=> ∃ ms c p h,s=((n:Int),a6,b6,v7,0,0,0,ms,[],[],c,p,h)∧n≤3∧tot (.sl tMs) ms+4 * n≤12∧(∀ m∈ms,bytesL m)∧Cur code (c,p,h)) (fun s:Int×Int×Int×Int×Int×Int×List (den tMs)×List (den tPt)×List (den tRv)×List Int×Int×Int=> ∃ ms c p h,s=(a6,b6,v7,0,0,0,ms,[],[],c,p,h)∧tot (.sl tMs) ms≤12∧(∀ m∈ms,bytesL m)∧Cur code (c,p,h)) ?_ (m8+1) (((m8+1:Nat):Int),a6,b6,v7,(0:Int),(0:Int),(0:Int),[],[],[],c8,p8,h8) ⟨[],c8,p8,h8,rfl,by omega,by rw [tot_nil];omega,fun m hm=>(List.not_mem_nil hm).elim,k8⟩ ?_
   ·rintro i s ⟨ms,c9,p9,h9,rfl,hi,hm,hb,k9⟩
    cases i with
    | zero=>exact .inl ⟨_,rfl,ms,c9,p9,h9,rfl,by omega,hb,k9⟩
    | succ i=>
     right
     obtain ⟨v10,c10,p10,h10,e10,r10,k10⟩:=below_ans hl (n:=3) (by decide) (by decide) k9
     obtain ⟨m10,rfl⟩:=Int.eq_ofNat_of_zero_le r10.1
     obtain ⟨l11,c11,p11,h11,e11,⟨r11,b11⟩,k11⟩:=bytes_ans hl (n:=m10) (by omega) k10
     have hf:tot tFl (a6,b6,v7,0,ms,[],0,0,[])≤1000:=by rw [flow_tot];show _+0+0≤_;omega
     have en:=s_enq (f:=(a6,b6,v7,0,ms,[],0,0,[])) (b:=l11) ((sm_of_tot (B:=1000) hf).mono (by decide)) ⟨by omega,fun e he=>trivial⟩
     have wi:wr (((i+1:Nat):Int) - 1)=(i:Int):=by rw [wr_small (by omega) (by omega)];omega
     simp only [decide_eq_true (show ((i+1:Nat):Int)>0 by omega),cond_true,e10,e11,en,obind_some,wi]
     unfold enqR
     split
     ·refine ⟨i,_,by omega,rfl,ms++[l11],c11,p11,h11,rfl,by omega,?_,?_,k11⟩
      ·rw [tot_app,msg_tot];omega
      ·intro m hm
       rcases List.mem_append.1 hm with hm | hm
       ·exact hb m hm
       ·rw [List.mem_singleton.1 hm];exact b11
     ·exact ⟨i,_,by omega,rfl,ms,c11,p11,h11,rfl,by omega,by omega,hb,k11⟩
   rintro r ⟨ms,c9,p9,h9,rfl,hm,hb,k9⟩
   obtain ⟨l10,e10,hl10⟩:=find_ans hd.top (hd.db.mono (by decide)) a6 b6 60
   have tf:tot tFl (a6,b6,v7,0,ms,[],0,0,[])≤1073741824:=by rw [flow_tot];show _+0+0≤_;omega
   have ea:=addF_ans (w:=((as,ls),(d,cc),(12,res,[]),60,[],[],flows,box,0)) (f:=(a6,b6,v7,0,ms,[],0,0,[])) (l:=l10) (Nat.le_trans (hd.tot (by omega)) (by decide)) tf (Nat.le_trans (paths_tot hl10) (by decide)) e10
   cases hbad:addBad ((as,ls),(d,cc),(12,res,[]),60,[],[],flows,box,0) (a6,b6,v7,0,ms,[],0,0,[]) with
   | true=>
    rw [hbad] at ea
    simp only [if_true,Bool.not_true] at ea
    simp only [ea,obind_some,netB,cond_false]
    exact ⟨n,_,by omega,rfl,as,ls,d,cc,res,flows,box,c9,p9,h9,rfl,by omega,hd.mono (by omega),k9⟩
   | false=>
    rw [hbad] at ea
    simp only [Bool.false_eq_true,if_false,Bool.not_false] at ea
    simp only [ea,obind_some,netB,addF,cond_true]
    unfold addBad at hbad
    simp only [Bool.or_eq_false_iff,Bool.not_eq_false'] at hbad
    obtain ⟨⟨⟨⟨⟨b1,b2⟩,b3⟩,b4⟩,b5⟩,b6'⟩:=hbad
    have hnone:=findX_none b6'
    have hfl:(flows.length:Int)<4:=by have h5: ¬ ((flows.length:Int)≥4):=of_decide_eq_false b5;omega
    have hfl':flows.length≤3 - (n+1):=hd.len
    generalize hg:setPF (a6,b6,v7,0,ms,[],0,0,[]) l10 60=g
    have hL:((flows++[g]).length:Int)=((flows.length+1:Nat):Int):=by simp
    have wl:wr (((flows.length+1:Nat):Int) - 1)=(flows.length:Int):=by rw [wr_small (by omega) (by omega)];omega
    have hx:(flows++[g])[flows.length]? =some g:=by simp
    have hset: ∀ y,(flows++[g]).set flows.length y=flows++[y]:=fun y=>by simp
    have hlt:flows.length<(flows++[g]).length:=by simp
    obtain ⟨m,em,hm1,hm4⟩: ∃ m:Nat,(if (4:Int)<(g.2.2.2.2.2.1.length:Int) then (4:Int) else (g.2.2.2.2.2.1.length:Int))=(m:Int)∧m≤g.2.2.2.2.2.1.length∧m≤4:=by
     by_cases h4:(4:Int)<(g.2.2.2.2.2.1.length:Int)
     ·exact ⟨4,by rw [if_pos h4];rfl,by omega,by omega⟩
     ·exact ⟨g.2.2.2.2.2.1.length,by rw [if_neg h4],Nat.le_refl _,by omega⟩
    have hmem: ∀ y∈g.2.2.2.2.2.1,PathD y:=fun y hy=>by
     rw [← hg] at hy
     exact hl10.2 y (mem_newPs hy)
    simp only [hL,wl,decide_eq_true (show (0:Int)≤(flows.length:Int) by omega),decide_eq_true (show (flows.length:Int)<((flows.length+1:Nat):Int) by omega),cond_true,Int.toNat_natCast,hx,obind_some,s_min,em,slOk_to hm1,cut_take,decide_eq_true hlt,hset]
    have fin: ∀ res' c p h,OkRs res' 12 60→Cur code (c,p,h)→NwI code n ((n:Int),d,cc,12,60,0,res',as,ls,d,cc,[],[],[],flows++[(g.1,g.2.1,g.2.2.1,g.2.2.2.1,g.2.2.2.2.1,List.take m g.2.2.2.2.2.1,g.2.2.2.2.2.2.1,g.2.2.2.2.2.2.2.1,g.2.2.2.2.2.2.2.2)],box++[(b6,a6,0,[])],c,p,h):=by
     intro res' c p h hr hc
     have hF:FlD (as,ls) (g.1,g.2.1,g.2.2.1,g.2.2.2.1,g.2.2.2.2.1,List.take m g.2.2.2.2.2.1,g.2.2.2.2.2.2.1,g.2.2.2.2.2.2.2.1,g.2.2.2.2.2.2.2.2):=by
      rw [← hg]
      exact cut_flow (f:=(a6,b6,v7,0,ms,[],0,0,[])) hm4 b1 b2 b3 rfl rfl hm hb hl10
     have ge1:g.1=a6:=by rw [← hg];rfl
     have ge2:g.2.1=b6:=by rw [← hg];rfl
     refine ⟨as,ls,d,cc,res',_,_,c,p,h,rfl,by omega,⟨hd.top,hd.db,rfl,hr,rfl,rfl,rfl,rfl,?_,?_,?_,?_⟩,hc⟩
     ·show (flows++[_]).length≤_
      simp;omega
     ·intro f hf
      rcases List.mem_append.1 hf with hf | hf
      ·exact hd.flows f hf
      ·rw [List.mem_singleton.1 hf];exact hF
     ·show box++[_]=(flows++[_]).map _
      rw [List.map_append,← show box=flows.map (fun f=>((f.2.1,f.1,0,[]):den tIb)) from hd.box]
      simp only [List.map_cons,List.map_nil,ge1,ge2]
     ·show (flows++[_]).Pairwise _
      rw [List.pairwise_append]
      refine ⟨hd.uniq,List.pairwise_singleton _ _,fun x hx y hy=> ?_⟩
      rw [List.mem_singleton.1 hy]
      have hbx:((x.2.1,x.1,0,[]):den tIb)∈box:=by
       rw [show box=flows.map (fun f=>((f.2.1,f.1,0,[]):den tIb)) from hd.box]
       exact List.mem_map.2 ⟨x,hx,rfl⟩
      have :=hnone _ hbx
      unfold atFrom at this
      unfold sameEnds
      rw [Bool.and_comm]
      simp only [ge1,ge2]
      exact this
    by_cases hm0:m=0
    ·subst hm0
     simp only [show decide (((0:Nat):Int)>0)=false from rfl,cond_false,obind_some]
     exact ⟨n,_,by omega,rfl,fin res c9 p9 h9 hd.res k9⟩
    ·simp only [decide_eq_true (show (m:Int)>0 by omega),cond_true,obind_some]
     cases decide (g.2.2.1>(0:Int)) with
     | false=>
      simp only [cond_false,obind_some]
      exact ⟨n,_,by omega,rfl,fin res c9 p9 h9 hd.res k9⟩
     | true=>
      have hp:idx (List.take m g.2.2.2.2.2.1) (0:Int)=some (g.2.2.2.2.2.1[0]'(by omega)):=by
       rw [show (0:Int)=((0:Nat):Int) from rfl,idx_nat,List.getElem?_take,if_pos (by omega)]
       exact List.getElem?_eq_getElem _
      obtain ⟨v11,c11,p11,h11,e11,r11,k11⟩:=below_ans hl (n:=2) (by decide) (by decide) k9
      obtain ⟨b12,m12,e12,q12⟩:=reserve_ans hd.res (hmem _ (List.getElem_mem (show 0<g.2.2.2.2.2.1.length by omega))) g.2.2.1 (wr ((1:Int)+v11)) 4000
      simp only [cond_true,hp,e11,e12,obind_some,both_self,dup_self,dup3_self,dup4_self,dup5_self]
      exact ⟨n,_,by omega,rfl,fin m12 c11 p11 h11 q12 k11⟩

def setDead (w:den tNw) (l:List Int):den tNw:=(nT w,nK w,nG w,nNow w,l,nFly w,nFlows w,nBox w,nDrop w)

def goneW (w:den tNw) (i:Nat):den tNw:=setFly w ((nFly w).take i++(nFly w).drop (i+1))

theorem s_gone {w:den tNw} {i:Nat} {x:den tFy} (hx:(nFly w)[i]? =some x) (hl:(nFly w).length≤1073741824):s_l38Gone w (i:Int)=some (takeR x (goneW w i)):=by
 have hlt:i<(nFly w).length:=(List.getElem?_eq_some_iff.1 hx).1
 have hx:w.2.2.2.2.2.1[((i:Nat):Int).toNat]? =some x:=by rw [Int.toNat_natCast];exact hx
 have h1:decide ((i:Int)<(w.2.2.2.2.2.1.length:Int))=true:=decide_eq_true (by have :i<w.2.2.2.2.2.1.length:=hlt;omega)
 have e1:wr ((i:Int)+1)=((i+1:Nat):Int):=(wri (by omega) (by omega)).trans (by omega)
 have h2:slOk ((i+1:Nat):Int) (w.2.2.2.2.2.1.length:Int) (w.2.2.2.2.2.1.length:Int)=true:=slOk_from (show i+1≤w.2.2.2.2.2.1.length from hlt)
 have h3:slOk (0:Int) (i:Int) (w.2.2.2.2.2.1.length:Int)=true:=slOk_to (k:=i) (Nat.le_of_lt hlt)
 have hl:w.2.2.2.2.2.1.length≤1073741824:=hl
 unfold s_l38Gone
 simp only [h1,hx,obind_some,cond_true,e1,h2,h3,cut_take,cut_from,List.nil_append,apOk_le (b:=128) (n:=([]:List (den tFy)).length) (m:=(w.2.2.2.2.2.1.take i).length) (by decide) (by simp;omega),apOk_le (b:=128) (n:=(w.2.2.2.2.2.1.take i).length) (m:=(w.2.2.2.2.2.1.drop (i+1)).length) (by decide) (by simp;omega),decide_eq_true (show (0:Int)≤(i:Int) by omega)]
 rfl


def linkL (m:Nat) (dead:List Int) (i:Int) (b:Bool):List Int:=((List.range m).map fun k:Nat=>((k:Nat):Int)).filter fun k:Int=>(hasI dead k&&(k != i))||(b&&(k==i))

def linkBad (w:den tNw) (i:Int) (b:Bool):Bool:=(hasI (nDead w) i==b)|| !inR i 0 (((nT w).2.length:Int) - 1)

def linkW (w:den tNw) (i:Int) (b:Bool):den tNw:=if linkBad w i b then w else setDead w (linkL (nT w).2.length (nDead w) i b)

theorem s_link {w:den tNw} {i:Int} {b:Bool} (h1:(nT w).2.length≤1073741824) (h2:(nDead w).length≤68719476736):s_l38Link w i b=some (!linkBad w i b,netR (linkW w i b)):=by
 have w1:wr ((w.1.2.length:Int) - 1)=(w.1.2.length:Int) - 1:=wr_less (Nat.le_trans h1 (by decide))
 have e1:=fun n=>s_hasI (l:=w.2.2.2.2.1) (n:=n) h2
 unfold s_l38Link linkW linkBad
 simp only [e1,obind_some,w1,s_in]
 cases hb:(hasI w.2.2.2.2.1 i==b) with
 | true=>rfl
 | false=>
  simp only [cond_false,obind_some,Bool.false_or]
  cases inR i 0 ((w.1.2.length:Int) - 1) with
  | false=>rfl
  | true=>
   simp only [Bool.not_true,cond_false,Bool.false_eq_true,if_false,Bool.not_false]
   refine loop_up (G:=fun o=>o=some (true,netR (setDead w (linkL (nT w).2.length (nDead w) i b)))) w.1.2.length (fun s:Int×List Int=>s.1) (fun k s=>s.2.length≤k∧s.2=linkL k (nDead w) i b) (fun r:List Int=>r=linkL w.1.2.length (nDead w) i b) ?_ ?_ 0 ((0:Int),[]) (Nat.zero_le _) rfl ⟨by simp,rfl⟩ ?_
   ·rintro k ⟨_,l⟩ hk rfl ⟨g1,g2⟩
    simp only at g1 g2
    right
    have hk':k≤1073741824:=Nat.le_trans (Nat.le_of_lt hk) h1
    simp only [decide_eq_true (show (k:Int)<(w.1.2.length:Int) by omega),cond_true,obind_some,apOk_le (b:=8) (n:=l.length) (m:=1) (by decide) (by omega),show wr ((k:Int)+1)=((k+1:Nat):Int) from (wri (by omega) (by omega)).trans (by omega)]
    have hl:linkL (k+1) (nDead w) i b=linkL k (nDead w) i b++(if (hasI (nDead w) (k:Int)&&((k:Int) != i))||(b&&((k:Int)==i)) then [(k:Int)] else []):=by
     unfold linkL
     rw [List.range_succ,List.map_append,List.filter_append]
     congr 1
     simp only [List.map_cons,List.map_nil,List.filter_cons,List.filter_nil]
    have hd:nDead w=w.2.2.2.2.1:=rfl
    rw [hl,← g2,hd]
    cases hasI w.2.2.2.2.1 (k:Int)<;>cases hki:((k:Int)==i)<;>cases b<;>simp only [bne,hki,cond_true,cond_false,obind_some,Bool.not_true,Bool.not_false,Bool.and_true,Bool.and_false,Bool.true_and,Bool.false_and,Bool.or_true,Bool.or_false,Bool.true_or,Bool.false_or,Bool.false_eq_true,if_true,if_false,List.append_nil]<;>first
     | exact ⟨_,rfl,rfl,by simp;omega,rfl⟩
     | exact ⟨_,rfl,rfl,by simp only;omega,rfl⟩
   ·rintro ⟨_,l⟩ rfl ⟨g1,g2⟩
    exact ⟨l,by simp only [decide_eq_false (Int.lt_irrefl _),cond_false],g2⟩
   ·rintro r rfl
    rfl

def enqF (f:den tFl) (b:List Int):den tFl:=if validF (enq f b) then enq f b else f


def doW (w:den tNw) (e:den tEvent):Bool×den tNw:=
 if e.1==1 then (!decide (nNow w≥1000000),tickW w)
 else if e.1==2 then (match inR e.2.1 0 (((nFly w).length:Int) - 1),(nFly w)[e.2.1.toNat]? with
  | true,some x=>(true,procW (goneW w e.2.1.toNat) x.1 x.2.1 x.2.2)
  | _,_=>(false,w))
 else if e.1==3 then (if inR e.2.1 0 (((nFly w).length:Int) - 1) then (true,dropW (goneW w e.2.1.toNat)) else (false,w))
 else if e.1==4 then (match inR e.2.1 0 (((nFly w).length:Int) - 1)&& !decide (((nFly w).length:Int)≥150),(nFly w)[e.2.1.toNat]? with
  | true,some x=>(true,setFly w (nFly w++[x]))
  | _,_=>(false,w))
 else if e.1==5||e.1==6 then (!linkBad w e.2.1 (e.1==5),linkW w e.2.1 (e.1==5))
 else if e.1==7 then (if asOk (nT w) e.2.2.2.1&& !decide (((nFly w).length:Int)≥150) then (true,setFly w (nFly w++[e.2.2.2])) else (false,w))
 else if e.1==8 then (match inR e.2.1 0 (((nFlows w).length:Int) - 1),(nFlows w)[e.2.1.toNat]? with
  | true,some f=>(validF (enq f e.2.2.1),setFlows w ((nFlows w).set e.2.1.toNat (enqF f e.2.2.1)))
  | _,_=>(false,w))
 else (false,w)

theorem in_at {α:Type} {l:List α} {n:Int} (hl:l.length≤1073741824) (h:inR n 0 ((l.length:Int) - 1)=true): ∃ (i:Nat) (x:α),n=(i:Int)∧l[i]? =some x∧decide (n<(l.length:Int))=true∧decide ((0:Int)≤n)=true:=by
 obtain ⟨h0,h1⟩:=inR_iff.1 h
 obtain ⟨i,rfl⟩:=Int.eq_ofNat_of_zero_le h0
 have hi:i<l.length:=by omega
 exact ⟨i,l[i],rfl,List.getElem?_eq_getElem hi,decide_eq_true (by omega),decide_eq_true h0⟩

theorem procW_keep2 {B F:Nat} {w:den tNw} {r inn:Int} {p:den tPk} (hk:Keep B F w) (hp:bytesP p):Keep (B+(160+F)) F (procW w r inn p):=by
 obtain ⟨h1,h2⟩:=procW_keep hk.bytes hp (r:=r) (inn:=inn)
 have h3:=procW_grow w r inn p
 have :=hk.flows
 have :=hk.tot
 exact ⟨by omega,by rw [h2];exact hk.flows,h1⟩

theorem setFly_keep {B F:Nat} {w:den tNw} {l:List (den tFy)} (hk:Keep B F w) (hl:tot (.sl tFy) l≤tot (.sl tFy) (nFly w)) (hb: ∀ x∈l,bytesP x.2.2):Keep B F (setFly w l):=by
 have h1:=setFly_tot w l
 have :=hk.tot
 exact ⟨by omega,hk.flows,⟨hb,hk.bytes.msg⟩⟩

theorem goneW_keep {B F:Nat} {w:den tNw} (hk:Keep B F w) (i:Nat):Keep B F (goneW w i):=by
 refine setFly_keep hk ?_ fun x hx=>hk.bytes.fly x ?_
 ·have h1:=tot_app (t:=tFy) ((nFly w).take i) ((nFly w).drop i)
  rw [List.take_append_drop] at h1
  rw [tot_app,h1]
  have :tot (.sl tFy) ((nFly w).drop (i+1))≤tot (.sl tFy) ((nFly w).drop i):=by
   cases h:(nFly w).drop i with
   | nil=>
    have :(nFly w).drop (i+1)=[]:=by rw [← List.drop_drop,h];rfl
    rw [this];exact Nat.le_refl _
   | cons x l=>
    have :(nFly w).drop (i+1)=l:=by rw [← List.drop_drop,h];rfl
    rw [this,tot_cons];omega
  omega
 ·rcases List.mem_append.1 hx with hx | hx
  ·exact List.mem_of_mem_take hx
  ·exact List.mem_of_mem_drop hx

theorem s_do {B F:Nat} {w:den tNw} {e:den tEvent} (hF:F≤1000) (hk:Keep B F w) (hB:B+(F+1) * (160+F)≤536870912) (h9:(e.1==(9:Int))=false) (hd:SmB 4294967296 (.sl tb) e.2.2.1) (hp:tot tPk e.2.2.2.2.2≤34359738368):s_l38Do w e=some ((doW w e).1,netR (doW w e).2):=by
 obtain ⟨kd,n,data,to,ing,pk⟩:=e
 simp only at h9 hd hp
 have hB0:B≤536870912:=by have :=Nat.zero_le ((F+1) * (160+F));omega
 have hB1:B+F * (160+F)≤536870912:=by rw [Nat.succ_mul] at hB;omega
 have nl:=net_tot w
 have l1:w.2.2.2.2.2.1.length≤1073741824:=fly_len hk (by omega)
 have l2:w.2.2.2.2.2.2.1.length≤1073741824:=Nat.le_trans hk.flows (by omega)
 obtain ⟨n1,n2,n3⟩:=keep_ok hk (by omega)
 have w1:wr ((w.2.2.2.2.2.1.length:Int) - 1)=(w.2.2.2.2.2.1.length:Int) - 1:=wr_less (by omega)
 have w2:wr ((w.2.2.2.2.2.2.1.length:Int) - 1)=(w.2.2.2.2.2.2.1.length:Int) - 1:=wr_less (by omega)
 have a1:apOk 128 w.2.2.2.2.2.1.length 1=true:=apOk_le (by decide) (by omega)
 unfold s_l38Do doW
 simp only [w1,s_in,obind_some]
 cases c1:(kd==(1:Int)) with
 | true=>
  show Option.bind (s_l38Tick w) _=_
  rw [s_tickW hF hk hB1]
  rfl
 | false=>
 cases c2:(kd==(2:Int)) with
 | true=>
  simp only [cond_false,cond_true,Bool.false_eq_true,if_false,if_true]
  cases hin:inR n 0 ((w.2.2.2.2.2.1.length:Int) - 1) with
  | false=>rfl
  | true=>
   obtain ⟨i,x,rfl,hx,_,_⟩:=in_at l1 hin
   have hx:(nFly w)[i]? =some x:=hx
   have e1:=s_gone (w:=w) hx l1
   have kg:=goneW_keep hk i
   obtain ⟨m1,m2,m3⟩:=keep_ok kg (by omega)
   have hxm:=List.mem_of_getElem? hx
   have htx:tot tPk x.2.2≤536870912:=by
    have h1:=tot_mem (t:=tFy) hxm
    have h2:tot tFy x=tot tPk x.2.2:=by simp [tot_pair,tot_int]
    have :=hk.tot
    omega
   have e2:=s_procW (w:=goneW w i) (r:=x.1) (inn:=x.2.1) m1 m2 m3 htx (hk.bytes.fly x hxm)
   have e3:Option.bind (Option.bind (s_l37Arrive (goneW w i) x.1 x.2.1 x.2.2) fun y4=>some y4) (fun s5=>some (true,s5))=some (true,netR (procW (goneW w i) x.1 x.2.1 x.2.2)):=by rw [e2];rfl
   rw [cond_true,e1,obind_some]
   have hx':w.2.2.2.2.2.1[((i:Nat):Int).toNat]? =some x:=by rw [Int.toNat_natCast];exact hx
   rw [hx']
   exact e3
 | false=>
 cases c3:(kd==(3:Int)) with
 | true=>
  simp only [cond_false,cond_true,Bool.false_eq_true,if_false,if_true]
  cases hin:inR n 0 ((w.2.2.2.2.2.1.length:Int) - 1) with
  | false=>rfl
  | true=>
   obtain ⟨i,x,rfl,hx,_,_⟩:=in_at l1 hin
   have hx:(nFly w)[i]? =some x:=hx
   have e1:=s_gone (w:=w) hx l1
   rw [cond_true,e1,obind_some]
   rfl
 | false=>
 cases c4:(kd==(4:Int)) with
 | true=>
  simp only [cond_false,cond_true,Bool.false_eq_true,if_false,if_true]
  cases hin:inR n 0 ((w.2.2.2.2.2.1.length:Int) - 1) with
  | false=>rfl
  | true=>
   obtain ⟨i,x,rfl,hx,hlt,hz⟩:=in_at l1 hin
   have hx:(nFly w)[i]? =some x:=hx
   have hxm:=List.mem_of_getElem? hx
   have htx:tot tPk x.2.2≤34359738368:=by
    have h1:=tot_mem (t:=tFy) hxm
    have h2:tot tFy x=tot tPk x.2.2:=by simp [tot_pair,tot_int]
    have :=hk.tot
    omega
   have hx':w.2.2.2.2.2.1[((i:Nat):Int).toNat]? =some x:=by rw [Int.toNat_natCast];exact hx
   have e1:=s_copyK (pk_sm htx)
   cases decide ((w.2.2.2.2.2.1.length:Int)≥150) with
   | true=>rfl
   | false=>
    simp only [Bool.not_true,Bool.not_false,cond_false,cond_true,obind_some,hlt,hz,hx',a1,Bool.and_self]
    rw [show ((x.2.2.1,x.2.2.2.1,x.2.2.2.2.1,x.2.2.2.2.2.1,x.2.2.2.2.2.2.1,x.2.2.2.2.2.2.2.1,x.2.2.2.2.2.2.2.2.1,x.2.2.2.2.2.2.2.2.2.1,x.2.2.2.2.2.2.2.2.2.2.1,x.2.2.2.2.2.2.2.2.2.2.2):den tPk)=x.2.2 from rfl,e1,obind_some]
    rfl
 | false=>
 cases c5:(kd==(5:Int)) with
 | true=>
  simp only [cond_false,cond_true,Bool.false_eq_true,if_false,if_true,obind_some,Bool.true_or]
  rw [show ((w.1,w.2.1,w.2.2.1,w.2.2.2.1,w.2.2.2.2.1,w.2.2.2.2.2.1,w.2.2.2.2.2.2.1,w.2.2.2.2.2.2.2.1,w.2.2.2.2.2.2.2.2):den tNw)=w from rfl,s_link n1.links n1.dead]
  rfl
 | false=>
 cases c6:(kd==(6:Int)) with
 | true=>
  simp only [cond_false,cond_true,Bool.false_eq_true,if_false,if_true,obind_some,Bool.or_true]
  rw [show ((w.1,w.2.1,w.2.2.1,w.2.2.2.1,w.2.2.2.2.1,w.2.2.2.2.2.1,w.2.2.2.2.2.2.1,w.2.2.2.2.2.2.2.1,w.2.2.2.2.2.2.2.2):den tNw)=w from rfl,s_link n1.links n1.dead]
  rfl
 | false=>
 cases c7:(kd==(7:Int)) with
 | true=>
  simp only [cond_false,cond_true,Bool.false_eq_true,if_false,if_true,obind_some,Bool.or_self,peta,s_asOk n1.as]
  have e1:=s_copyK (pk_sm hp)
  cases asOk w.1 to with
  | false=>rfl
  | true=>
   cases decide ((w.2.2.2.2.2.1.length:Int)≥150) with
   | true=>rfl
   | false=>
    simp only [Bool.not_true,Bool.not_false,cond_false,cond_true,obind_some,a1,e1]
    rfl
 | false=>
 cases c8:(kd==(8:Int)) with
 | true=>
  simp only [cond_false,cond_true,Bool.false_eq_true,if_false,if_true,obind_some,Bool.or_self,peta]
  unfold s_l38Flow
  simp only [w2,s_in,obind_some,c8,cond_true]
  cases hin:inR n 0 ((w.2.2.2.2.2.2.1.length:Int) - 1) with
  | false=>rfl
  | true=>
   obtain ⟨i,x,rfl,hx,hlt,hz⟩:=in_at l2 hin
   have hx:(nFlows w)[i]? =some x:=hx
   have hxm:=List.mem_of_getElem? hx
   have hx':w.2.2.2.2.2.2.1[((i:Nat):Int).toNat]? =some x:=by rw [Int.toNat_natCast];exact hx
   have hfx:tot tFl x≤536870912:=by
    have h1:=tot_mem (t:=tFl) hxm
    have :=hk.tot
    omega
   have e1:=s_enq (f:=x) (b:=data) ((sm_of_tot hfx).mono (by decide)) hd
   have hlt2:decide (((i:Nat):Int).toNat<w.2.2.2.2.2.2.1.length)=true:=decide_eq_true (by rw [Int.toNat_natCast];exact (List.getElem?_eq_some_iff.1 hx).1)
   simp only [Bool.not_true,cond_false,cond_true,hlt,hz,hx',hlt2,obind_some]
   rw [show ((x.1,x.2.1,x.2.2.1,x.2.2.2.1,x.2.2.2.2.1,x.2.2.2.2.2.1,x.2.2.2.2.2.2.1,x.2.2.2.2.2.2.2.1,x.2.2.2.2.2.2.2.2):den tFl)=x from rfl,e1,obind_some]
   unfold enqR enqF
   cases validF (enq x data)<;>rfl
 | false=>
  simp only [h9,cond_false,cond_true,Bool.false_eq_true,if_false,if_true,obind_some,Bool.or_self]
  rfl


def PathE (p:den tPt):Prop:=List.length (α:=den tPp) p≤4∧ ∀ x:den tPp,x∈(show List (den tPp) from p)→x.2.2.2.length≤5

theorem PathD.e {p:den tPt} (h:PathD p):PathE p:=⟨Nat.le_trans h.1 (by decide),h.2⟩

theorem pathE_tot {p:den tPt} (h:PathE p):tot tPt p≤24:=by
 have h1:=tot_each (t:=tPp) (B:=5) (l:=p) fun x hx=>part_tot (h.2 x hx)
 have h2:=h.1
 show tot (.sl tPp) p≤24
 omega

theorem PathE.set {p:List (den tPp)} (h:PathD p) {i:Nat} {x:den tPp} (hx:x.2.2.2.length≤5):PathE (p.set i x):=by
 refine ⟨by have :=h.1;show (p.set i x).length≤4;rw [List.length_set];omega,fun y hy=> ?_⟩
 rcases List.mem_or_eq_of_mem_set (show y∈p.set i x from hy) with hy | rfl
 ·exact h.2 y hy
 ·exact hx

theorem any22_ans {code:List Int} (hl:code.length≤1048576) {c:List Int} {p h:Int} (hc:Cur code (c,p,h)): ∃ (q:List (den tPp)) (c':List Int) (p' h':Int),s_l22Any (c,p,h)=some (q,c',p',h')∧PathE q∧Cur code (c',p',h'):=by
 obtain ⟨as,ls,q,c1,p1,h1,e1,hq,k1⟩:=path_ans hl hc
 unfold s_l22Any
 simp only [e1,obind_some,both_self,dup_self,dup3_self,dup4_self,dup5_self]
 by_cases h0:q.length=0
 ·rw [show ((q.length:Int)==0)=true by rw [beq_iff_eq];omega,cond_true]
  exact ⟨q,c1,p1,h1,rfl,hq.e,k1⟩
 have hq3:q.length≤3:=hq.1
 rw [show ((q.length:Int)==0)=false by rw [beq_eq_false_iff_ne];omega,cond_false]
 obtain ⟨v2,c2,p2,h2,e2,r2,k2⟩:=below_ans hl (n:=(q.length:Int)) (by omega) (by omega) k1
 obtain ⟨m,rfl⟩:=Int.eq_ofNat_of_zero_le r2.1
 have hm:m<q.length:=by omega
 have hx:q[m]? =some q[m]:=List.getElem?_eq_getElem hm
 have hx5:q[m].2.2.2.length≤5:=hq.2 _ (List.getElem_mem hm)
 obtain ⟨v3,c3,p3,h3,e3,r3,k3⟩:=below_ans hl (n:=12) (by decide) (by decide) k2
 simp only [e2,e3,obind_some,decide_eq_true (show (0:Int)≤(m:Int) by omega),decide_eq_true (show (m:Int)<(q.length:Int) by omega),cond_true,Int.toNat_natCast,hx]
 cases v3==(0:Int) with
 | true=>
  obtain ⟨v4,c4,p4,h4,e4,_,k4⟩:=below_ans hl (n:=6) (by decide) (by decide) k3
  exact ⟨_,c4,p4,h4,by simp only [cond_true,e4,obind_some];rfl,PathE.set hq (by exact hx5),k4⟩
 | false=>
 cases v3==(1:Int) with
 | true=>
  obtain ⟨v4,c4,p4,h4,e4,k4⟩:=word_ans hl k3
  exact ⟨_,c4,p4,h4,by simp only [cond_true,cond_false,e4,obind_some];rfl,PathE.set hq (by exact hx5),k4⟩
 | false=>
 cases v3==(2:Int) with
 | true=>
  have sx:SmB 68719476736 tPp q[m]:=⟨trivial,trivial,trivial,by omega,fun _ _=>⟨trivial,trivial,trivial,trivial,trivial⟩⟩
  refine ⟨q++[q[m]],c3,p3,h3,?_,⟨by show (q++[q[m]]).length≤4;simp;omega,fun y hy=> ?_⟩,k3⟩
  ·simp only [cond_true,cond_false,s_copyPt (p:=q[m]) (by omega),peta,obind_some,apOk_le (b:=48) (n:=q.length) (m:=1) (by decide) (by omega)]
  ·rcases List.mem_append.1 (show y∈q++[q[m]] from hy) with hy | hy
   ·exact hq.2 y hy
   ·rw [List.mem_singleton.1 hy];exact hx5
 | false=>
 cases v3==(3:Int) with
 | true=>
  have s1:slOk (1:Int) (q.length:Int) (q.length:Int)=true:=slOk_from (k:=1) (by omega)
  have s2:cut q (1:Int) (q.length:Int)=q.drop 1:=cut_from (k:=1)
  refine ⟨q.drop 1,c3,p3,h3,by simp only [cond_true,cond_false,s1,s2,obind_some],⟨by show (q.drop 1).length≤4;simp;omega,fun y hy=>hq.2 y (List.mem_of_mem_drop (show y∈q.drop 1 from hy))⟩,k3⟩
 | false=>
 cases v3==(4:Int) with
 | false=>exact ⟨q,c3,p3,h3,by simp only [cond_false,obind_some],hq.e,k3⟩
 | true=>
  simp only [cond_true,cond_false]
  by_cases hp:(q[m].2.2.2.length:Int)>0
  ·obtain ⟨v4,c4,p4,h4,e4,r4,k4⟩:=below_ans hl (n:=(q[m].2.2.2.length:Int)) hp (by omega) k3
   obtain ⟨i,rfl⟩:=Int.eq_ofNat_of_zero_le r4.1
   have hi:i<q[m].2.2.2.length:=by omega
   obtain ⟨v5,c5,p5,h5,e5,k5⟩:=word_ans hl k4
   refine ⟨_,c5,p5,h5,?_,PathE.set hq (i:=m) (x:=(q[m].1,q[m].2.1,q[m].2.2.1,q[m].2.2.2.set i (q[m].2.2.2[i].1,q[m].2.2.2[i].2.1,q[m].2.2.2[i].2.2.1,q[m].2.2.2[i].2.2.2.1,v5))) (by show (q[m].2.2.2.set i _).length≤5;rw [List.length_set];exact hx5),k5⟩
   simp only [decide_eq_true hp,cond_true,e4,e5,obind_some,decide_eq_true (show (0:Int)≤(i:Int) by omega),decide_eq_true (show (i:Int)<(q[m].2.2.2.length:Int) by omega),Int.toNat_natCast,List.getElem?_eq_getElem hi,both_self,dup_self,dup3_self,dup4_self,dup5_self]
  ·exact ⟨q,c3,p3,h3,by simp only [decide_eq_false hp,cond_false,obind_some],hq.e,k3⟩


structure PktE (p:den tPk):Prop where
 path:PathE p.2.2.2.1
 len:p.2.2.2.2.2.2.2.2.2.length≤1000
 bytes:bytesP p

theorem pkt_tot (p:den tPk):tot tPk p=tot tPt p.2.2.2.1+p.2.2.2.2.2.2.2.2.2.length:=by
 have e:tot tPk p=tot tPt p.2.2.2.1+tot (.sl tb) p.2.2.2.2.2.2.2.2.2:=by simp [tot_pair,tot_int]
 rw [e,tot_flatL (t:=tb) rfl]

theorem pktE_tot {p:den tPk} (h:PktE p):tot tPk p≤1100:=by
 have h1:=pathE_tot h.path
 have h2:=h.len
 rw [pkt_tot]
 omega

theorem any26_ans {code:List Int} (hl:code.length≤1048576) {c:List Int} {p h:Int} (hc:Cur code (c,p,h)): ∃ (as:List (den tAS)) (ls:List (den tLk)) (k:den tPk) (c':List Int) (p' h':Int),s_l26Any (c,p,h)=some (as,ls,k.1,k.2.1,k.2.2.1,k.2.2.2.1,k.2.2.2.2.1,k.2.2.2.2.2.1,k.2.2.2.2.2.2.1,k.2.2.2.2.2.2.2.1,k.2.2.2.2.2.2.2.2.1,k.2.2.2.2.2.2.2.2.2,c',p',h')∧PktE k∧Cur code (c',p',h'):=by
 obtain ⟨as,ls,k,c1,p1,h1,e1,hk,k1⟩:=pkt_ans hl hc
 obtain ⟨v2,c2,p2,h2,e2,r2,k2⟩:=below_ans hl (n:=14) (by decide) (by decide) k1
 have hkp:PktE k:=⟨hk.path.e,hk.len,hk.bytes⟩
 unfold s_l26Any
 simp only [e1,e2,obind_some,both_self,dup_self,dup3_self,dup4_self,dup5_self]
 cases v2==(0:Int) with
 | true=>
  obtain ⟨v3,c3,p3,h3,e3,_,k3⟩:=below_ans hl (n:=4) (by decide) (by decide) k2
  exact ⟨as,ls,(k.1,k.2.1,k.2.2.1,k.2.2.2.1,wr (v3 - 1),k.2.2.2.2.2.1,k.2.2.2.2.2.2.1,k.2.2.2.2.2.2.2.1,k.2.2.2.2.2.2.2.2.1,k.2.2.2.2.2.2.2.2.2),c3,p3,h3,by simp only [cond_true,e3,obind_some],⟨hkp.path,hkp.len,hkp.bytes⟩,k3⟩
 | false=>
 cases v2==(1:Int) with
 | true=>
  obtain ⟨v3,c3,p3,h3,e3,_,k3⟩:=below_ans hl (n:=4) (by decide) (by decide) k2
  exact ⟨as,ls,(k.1,k.2.1,k.2.2.1,k.2.2.2.1,k.2.2.2.2.1,wr (v3 - 1),k.2.2.2.2.2.2.1,k.2.2.2.2.2.2.2.1,k.2.2.2.2.2.2.2.2.1,k.2.2.2.2.2.2.2.2.2),c3,p3,h3,by simp only [cond_true,cond_false,e3,obind_some],⟨hkp.path,hkp.len,hkp.bytes⟩,k3⟩
 | false=>
 cases v2==(2:Int) with
 | true=>
  obtain ⟨v3,c3,p3,h3,e3,k3⟩:=word_ans hl k2
  exact ⟨as,ls,(k.1,k.2.1,k.2.2.1,k.2.2.2.1,k.2.2.2.2.1,k.2.2.2.2.2.1,v3,k.2.2.2.2.2.2.2.1,k.2.2.2.2.2.2.2.2.1,k.2.2.2.2.2.2.2.2.2),c3,p3,h3,by simp only [cond_true,cond_false,e3,obind_some],⟨hkp.path,hkp.len,hkp.bytes⟩,k3⟩
 | false=>
 cases v2==(3:Int) with
 | true=>
  obtain ⟨v3,c3,p3,h3,e3,_,k3⟩:=below_ans hl (n:=9) (by decide) (by decide) k2
  exact ⟨as,ls,(k.1,k.2.1,v3,k.2.2.2.1,k.2.2.2.2.1,k.2.2.2.2.2.1,k.2.2.2.2.2.2.1,k.2.2.2.2.2.2.2.1,k.2.2.2.2.2.2.2.2.1,k.2.2.2.2.2.2.2.2.2),c3,p3,h3,by simp only [cond_true,cond_false,e3,obind_some],⟨hkp.path,hkp.len,hkp.bytes⟩,k3⟩
 | false=>
 cases v2==(4:Int) with
 | true=>
  obtain ⟨v3,c3,p3,h3,e3,_,k3⟩:=int_ans hl (l:=[(-1:Int),(100000:Int),(100001:Int)]) (by decide) (by decide) k2
  exact ⟨as,ls,(k.1,k.2.1,k.2.2.1,k.2.2.2.1,k.2.2.2.2.1,k.2.2.2.2.2.1,k.2.2.2.2.2.2.1,k.2.2.2.2.2.2.2.1,v3,k.2.2.2.2.2.2.2.2.2),c3,p3,h3,by simp only [cond_true,cond_false,e3,obind_some],⟨hkp.path,hkp.len,hkp.bytes⟩,k3⟩
 | false=>
 cases v2==(5:Int) with
 | true=>
  obtain ⟨q3,c3,p3,h3,e3,hq,k3⟩:=any22_ans hl k2
  exact ⟨as,ls,(k.1,k.2.1,k.2.2.1,q3,k.2.2.2.2.1,k.2.2.2.2.2.1,k.2.2.2.2.2.2.1,k.2.2.2.2.2.2.2.1,k.2.2.2.2.2.2.2.2.1,k.2.2.2.2.2.2.2.2.2),c3,p3,h3,by simp only [cond_true,cond_false,e3,obind_some],⟨hq,hkp.len,hkp.bytes⟩,k3⟩
 | false=>
 cases v2==(6:Int) with
 | true=>
  obtain ⟨v3,c3,p3,h3,e3,_,k3⟩:=below_ans hl (n:=6) (by decide) (by decide) k2
  exact ⟨as,ls,(wr (v3 - 1),k.2.1,k.2.2.1,k.2.2.2.1,k.2.2.2.2.1,k.2.2.2.2.2.1,k.2.2.2.2.2.2.1,k.2.2.2.2.2.2.2.1,k.2.2.2.2.2.2.2.2.1,k.2.2.2.2.2.2.2.2.2),c3,p3,h3,by simp only [cond_true,cond_false,e3,obind_some],⟨hkp.path,hkp.len,hkp.bytes⟩,k3⟩
 | false=>exact ⟨as,ls,k,c2,p2,h2,by simp only [cond_false,obind_some],hkp,k2⟩


structure EvD (w:den tNw) (e:den tEvent):Prop where
 lo:(1:Int)≤e.1
 hi:(8:Int)≥e.1
 data:e.2.2.1.length≤3∧bytesL e.2.2.1
 pk:tot tPk e.2.2.2.2.2≤1100∧bytesP e.2.2.2.2.2
 harm:harm w e=true


structure NetE (w:den tNw):Prop where
 tot:tot tNw w≤536870912
 as:1≤(nT w).1.length∧(nT w).1.length≤8
 links:(nT w).2.length≤100
 flyN:(nFly w).length≤150
 fly: ∀ x∈nFly w,Go.V.tot tPk x.2.2≤1100
 bytes: ∀ x∈nFly w,bytesP x.2.2
 flows:(nFlows w).length≤4

theorem harm_other {w:den tNw} {e:den tEvent} (h:(e.1==(7:Int))=false):harm w e=true:=by
 unfold harm
 rw [h];rfl

theorem harm_note {w:den tNw} {to ing:Int} {pk:den tPk}:harm w ((7:Int),(0:Int),[],(to,ing,((3:Int),pk.2)))=true:=by
 unfold harm evPk
 rw [show (((3:Int),pk.2):den tPk).1=3 from rfl,show ((3:Int)==3)=true from rfl,Bool.or_true,Bool.or_true]
 rfl

def fgR (w:den tNw) (e:den tEvent) (c:List Int) (p h:Int):Int×Int×Int×Int×Int×Int×Int×(List (den tPp))×Int×Int×Int×Int×Int×(List Int)×(List Int)×(List Int)×Int×Int×(List (den tFy))×(List (den tFl))×(List (den tIb)):=
 (e.1,e.2.1,e.2.2.2.1,e.2.2.2.2.1,e.2.2.2.2.2.1,e.2.2.2.2.2.2.1,e.2.2.2.2.2.2.2.1,e.2.2.2.2.2.2.2.2.1,e.2.2.2.2.2.2.2.2.2.1,e.2.2.2.2.2.2.2.2.2.2.1,e.2.2.2.2.2.2.2.2.2.2.2.1,e.2.2.2.2.2.2.2.2.2.2.2.2.1,e.2.2.2.2.2.2.2.2.2.2.2.2.2.1,e.2.2.2.2.2.2.2.2.2.2.2.2.2.2,e.2.2.1,c,p,h,nFly w,nFlows w,nBox w)

def nxR (w:den tNw) (e:den tEvent) (c:List Int) (p h:Int):Int×Int×Int×Int×Int×Int×Int×(List (den tPp))×Int×Int×Int×Int×Int×(List Int)×(List Int)×(List Int)×Int×Int×(List (den tFy))×(List (den tFl))×(List (den tIb)):=
 (e.1,e.2.1,e.2.2.2.1,e.2.2.2.2.1,e.2.2.2.2.2.1,e.2.2.2.2.2.2.1,e.2.2.2.2.2.2.2.1,e.2.2.2.2.2.2.2.2.1,e.2.2.2.2.2.2.2.2.2.1,e.2.2.2.2.2.2.2.2.2.2.1,e.2.2.2.2.2.2.2.2.2.2.2.1,e.2.2.2.2.2.2.2.2.2.2.2.2.1,e.2.2.2.2.2.2.2.2.2.2.2.2.2.1,e.2.2.1,e.2.2.2.2.2.2.2.2.2.2.2.2.2.2,c,p,h,nFly w,nFlows w,nBox w)

theorem forge_ans {code:List Int} (hl:code.length≤1048576) {w:den tNw} (hw:NetE w) {c:List Int} {p h:Int} (hc:Cur code (c,p,h)): ∃ e c' p' h',s_l38Forge'r (c,p,h) w=some (fgR w e c' p' h')∧EvD w e∧Cur code (c',p',h'):=by
 obtain ⟨as,ls,k,c1,p1,h1,e1,hk,k1⟩:=any26_ans hl hc
 have ha:1≤w.1.1.length∧w.1.1.length≤8:=hw.as
 have hfn:=hw.flyN
 obtain ⟨v2,c2,p2,h2,e2,r2,k2⟩:=below_ans hl (n:=(w.1.1.length:Int)) (by omega) (by omega) k1
 obtain ⟨v3,c3,p3,h3,e3,r3,k3⟩:=below_ans hl (n:=7) (by decide) (by decide) k2
 have sw:SmB 68719476736 tNw w:=(sm_of_tot hw.tot).mono (by decide)
 have fin: ∀ (k:den tPk) (c:List Int) (p h:Int),tot tPk k≤1100→bytesP k→Cur code (c,p,h)→ ∃ e c' p' h',(Option.bind (Option.bind (s_Harmless w ((7:Int),(0:Int),[],(v2,v3,(k.1,k.2.1,k.2.2.1,k.2.2.2.1,k.2.2.2.2.1,k.2.2.2.2.2.1,k.2.2.2.2.2.2.1,k.2.2.2.2.2.2.2.1,k.2.2.2.2.2.2.2.2.1,k.2.2.2.2.2.2.2.2.2)))) fun y31=>cond (!y31) (some ((7:Int),(0:Int),v2,v3,(3:Int),k.2.1,k.2.2.1,k.2.2.2.1,k.2.2.2.2.1,k.2.2.2.2.2.1,k.2.2.2.2.2.2.1,k.2.2.2.2.2.2.2.1,k.2.2.2.2.2.2.2.2.1)) (some ((7:Int),(0:Int),v2,v3,k.1,k.2.1,k.2.2.1,k.2.2.2.1,k.2.2.2.2.1,k.2.2.2.2.2.1,k.2.2.2.2.2.2.1,k.2.2.2.2.2.2.2.1,k.2.2.2.2.2.2.2.2.1))) fun s32=>some (s32.1,s32.2.1,s32.2.2.1,s32.2.2.2.1,s32.2.2.2.2.1,s32.2.2.2.2.2.1,s32.2.2.2.2.2.2.1,s32.2.2.2.2.2.2.2.1,s32.2.2.2.2.2.2.2.2.1,s32.2.2.2.2.2.2.2.2.2.1,s32.2.2.2.2.2.2.2.2.2.2.1,s32.2.2.2.2.2.2.2.2.2.2.2.1,s32.2.2.2.2.2.2.2.2.2.2.2.2,k.2.2.2.2.2.2.2.2.2,([]:List Int),c,p,h,w.2.2.2.2.2.1,w.2.2.2.2.2.2.1,w.2.2.2.2.2.2.2.1))=some (fgR w e c' p' h')∧EvD w e∧Cur code (c',p',h'):=by
  intro k c p h ht hb hc
  have se:SmB 68719476736 tEvent ((7:Int),(0:Int),[],(v2,v3,k)):=⟨trivial,trivial,⟨by simp,fun x hx=>trivial⟩,trivial,trivial,(sm_of_tot ht).mono (by decide)⟩
  have e9:s_Harmless w ((7:Int),(0:Int),[],(v2,v3,(k.1,k.2.1,k.2.2.1,k.2.2.2.1,k.2.2.2.2.1,k.2.2.2.2.2.1,k.2.2.2.2.2.2.1,k.2.2.2.2.2.2.2.1,k.2.2.2.2.2.2.2.2.1,k.2.2.2.2.2.2.2.2.2)))=some (harm w ((7:Int),(0:Int),[],(v2,v3,k))):=s_harm sw se
  rw [e9,obind_some]
  cases hb':harm w ((7:Int),(0:Int),[],(v2,v3,k)) with
  | true=>exact ⟨((7:Int),(0:Int),[],(v2,v3,k)),c,p,h,rfl,⟨by show (1:Int)≤7;decide,by show (8:Int)≥7;decide,⟨Nat.zero_le _,fun x hx=>(List.not_mem_nil hx).elim⟩,⟨ht,hb⟩,hb'⟩,hc⟩
  | false=>exact ⟨((7:Int),(0:Int),[],(v2,v3,((3:Int),k.2))),c,p,h,rfl,⟨by show (1:Int)≤7;decide,by show (8:Int)≥7;decide,⟨Nat.zero_le _,fun x hx=>(List.not_mem_nil hx).elim⟩,⟨ht,hb⟩,harm_note⟩,hc⟩
 unfold s_l38Forge'r
 simp only [e1,e2,e3,obind_some,both_self,dup_self,dup3_self,dup4_self,dup5_self]
 have done:=fun c p h hc=>fin k c p h (pktE_tot hk) hk.bytes hc
 by_cases hf:(w.2.2.2.2.2.1.length:Int)>0
 ·obtain ⟨v4,c4,p4,h4,e4,k4⟩:=once_ans hl (n:=2) (by decide) (by decide) k3
  simp only [decide_eq_true hf,cond_true,e4,obind_some]
  cases v4 with
  | false=>
   simp only [cond_false,obind_some]
   exact done c4 p4 h4 k4
  | true=>
   have hfn:w.2.2.2.2.2.1.length≤150:=hfn
   obtain ⟨v5,c5,p5,h5,e5,r5,k5⟩:=below_ans hl (n:=(w.2.2.2.2.2.1.length:Int)) hf (by omega) k4
   obtain ⟨i,rfl⟩:=Int.eq_ofNat_of_zero_le r5.1
   have hi:i<w.2.2.2.2.2.1.length:=by omega
   have hx:w.2.2.2.2.2.1[i]? =some w.2.2.2.2.2.1[i]:=List.getElem?_eq_getElem hi
   have hm:w.2.2.2.2.2.1[i]∈nFly w:=List.getElem_mem hi
   have ht:=hw.fly _ hm
   have hb:=hw.bytes _ hm
   generalize w.2.2.2.2.2.1[i]=x at hx hm ht hb
   have e6:=s_copyK (p:=x.2.2) (pk_sm (Nat.le_trans ht (by decide)))
   obtain ⟨v7,c7,p7,h7,e7,k7⟩:=once_ans hl (n:=2) (by decide) (by decide) k5
   simp only [cond_true,e5,obind_some,decide_eq_true (show (0:Int)≤(i:Int) by omega),decide_eq_true (show (i:Int)<(w.2.2.2.2.2.1.length:Int) by omega),Int.toNat_natCast,hx,peta,e6,e7]
   cases v7 with
   | false=>
    simp only [cond_false,obind_some]
    exact fin x.2.2 c7 p7 h7 ht hb k7
   | true=>
    obtain ⟨v8,c8,p8,h8,e8,k8⟩:=word_ans hl k7
    simp only [cond_true,e8,obind_some]
    exact fin (x.2.2.1,x.2.2.2.1,x.2.2.2.2.1,x.2.2.2.2.2.1,x.2.2.2.2.2.2.1,x.2.2.2.2.2.2.2.1,v8,x.2.2.2.2.2.2.2.2.2.1,x.2.2.2.2.2.2.2.2.2.2.1,x.2.2.2.2.2.2.2.2.2.2.2) c8 p8 h8 ht hb k8
 ·simp only [decide_eq_false hf,cond_false,obind_some]
  exact done c3 p3 h3 k3

theorem next_ans {code:List Int} (hl:code.length≤1048576) {w:den tNw} (hw:NetE w) {c:List Int} {p h:Int} (hc:Cur code (c,p,h)): ∃ e c' p' h',s_l38Next'r (c,p,h) w=some (nxR w e c' p' h')∧EvD w e∧Cur code (c',p',h'):=by
 have hlk:w.1.2.length≤100:=hw.links
 have hfl:w.2.2.2.2.2.2.1.length≤4:=hw.flows
 have hfn:w.2.2.2.2.2.1.length≤150:=hw.flyN
 have wl:wr ((w.1.2.length:Int)+1)=((w.1.2.length+1:Nat):Int):=wr_succ (by omega)
 have wf:wr ((w.2.2.2.2.2.2.1.length:Int)+1)=((w.2.2.2.2.2.2.1.length+1:Nat):Int):=wr_succ (by omega)
 have pk0D:tot tPk ((0:Int),(0:Int),(0:Int),[],(0:Int),(0:Int),(0:Int),(0:Int),(0:Int),[])≤1100∧bytesP ((0:Int),(0:Int),(0:Int),[],(0:Int),(0:Int),(0:Int),(0:Int),(0:Int),[]):=⟨by rw [pkt_tot];exact Nat.zero_le _,fun x hx=>(List.not_mem_nil hx).elim⟩
 have ev: ∀ (kd n:Int) (data:List Int),(1:Int)≤kd→(8:Int)≥kd→(kd==(7:Int))=false→data.length≤3→bytesL data→EvD w (kd,n,data,((0:Int),(0:Int),((0:Int),(0:Int),(0:Int),[],(0:Int),(0:Int),(0:Int),(0:Int),(0:Int),[]))):=fun kd n data a b d e f=>⟨a,b,⟨e,f⟩,pk0D,harm_other d⟩
 have nob:bytesL []:=fun x hx=>(List.not_mem_nil hx).elim
 obtain ⟨v1,c1,p1,h1,e1,r1,k1⟩:=below_ans hl (n:=24) (by decide) (by decide) hc
 obtain ⟨v2,c2,p2,h2,e2,r2,k2⟩:=below_ans hl (n:=((w.1.2.length+1:Nat):Int)) (by omega) (by omega) k1
 unfold s_l38Next'r
 simp only [e1,obind_some,wl,wf,e2]
 cases v1==(0:Int) with
 | true=>
  exact ⟨((5:Int),v2,[],((0:Int),(0:Int),((0:Int),(0:Int),(0:Int),[],(0:Int),(0:Int),(0:Int),(0:Int),(0:Int),[]))),c2,p2,h2,rfl,ev 5 v2 [] (by decide) (by decide) rfl (Nat.zero_le _) nob,k2⟩
 | false=>
 simp only [cond_false]
 obtain ⟨b3,e3⟩: ∃ b,(cond (v1==(1:Int)) (some (v1==(1:Int))) (some (v1==(2:Int))))=some b:=by cases v1==(1:Int)<;>exact ⟨_,rfl⟩
 rw [e3,obind_some]
 cases b3 with
 | true=>
  exact ⟨((6:Int),v2,[],((0:Int),(0:Int),((0:Int),(0:Int),(0:Int),[],(0:Int),(0:Int),(0:Int),(0:Int),(0:Int),[]))),c2,p2,h2,rfl,ev 6 v2 [] (by decide) (by decide) rfl (Nat.zero_le _) nob,k2⟩
 | false=>
 simp only [cond_false]
 cases v1==(3:Int) with
 | true=>
  obtain ⟨e,c4,p4,h4,e4,d4,k4⟩:=forge_ans hl hw k1
  refine ⟨e,c4,p4,h4,?_,d4,k4⟩
  rw [cond_true]
  show Option.bind (s_l38Forge'r (c1,p1,h1) w) _=_
  rw [e4]
  rfl
 | false=>
 simp only [cond_false]
 cases v1==(4:Int) with
 | true=>
  obtain ⟨v4,c4,p4,h4,e4,r4,k4⟩:=below_ans hl (n:=((w.2.2.2.2.2.2.1.length+1:Nat):Int)) (by omega) (by omega) k1
  obtain ⟨v5,c5,p5,h5,e5,r5,k5⟩:=below_ans hl (n:=3) (by decide) (by decide) k4
  obtain ⟨m5,rfl⟩:=Int.eq_ofNat_of_zero_le r5.1
  obtain ⟨l6,c6,p6,h6,e6,⟨r6,b6⟩,k6⟩:=bytes_ans hl (n:=m5) (by omega) k5
  exact ⟨((8:Int),v4,l6,((0:Int),(0:Int),((0:Int),(0:Int),(0:Int),[],(0:Int),(0:Int),(0:Int),(0:Int),(0:Int),[]))),c6,p6,h6,by simp only [cond_true,e4,e5,e6,obind_some];rfl,ev 8 v4 l6 (by decide) (by decide) rfl (by omega) b6,k6⟩
 | false=>
 simp only [cond_false]
 have tick: ∀ c p h,Cur code (c,p,h)→ ∃ e c' p' h',(some ((1:Int),(0:Int),(0:Int),(0:Int),(0:Int),(0:Int),(0:Int),[],(0:Int),(0:Int),(0:Int),(0:Int),(0:Int),[],[],c,p,h,w.2.2.2.2.2.1,w.2.2.2.2.2.2.1,w.2.2.2.2.2.2.2.1):Option (Int×Int×Int×Int×Int×Int×Int×(List (den tPp))×Int×Int×Int×Int×Int×(List Int)×(List Int)×(List Int)×Int×Int×(List (den tFy))×(List (den tFl))×(List (den tIb))))=some (nxR w e c' p' h')∧EvD w e∧Cur code (c',p',h'):=fun c p h hc=>
  ⟨((1:Int),(0:Int),[],((0:Int),(0:Int),((0:Int),(0:Int),(0:Int),[],(0:Int),(0:Int),(0:Int),(0:Int),(0:Int),[]))),c,p,h,rfl,ev 1 0 [] (by decide) (by decide) rfl (Nat.zero_le _) nob,hc⟩
 by_cases hf:(w.2.2.2.2.2.1.length:Int)>0
 ·obtain ⟨v4,c4,p4,h4,e4,k4⟩:=once_ans hl (n:=4) (by decide) (by decide) k1
  simp only [decide_eq_true hf,cond_true,e4,obind_some]
  cases v4 with
  | true=>
   simp only [Bool.not_true,cond_false]
   exact tick c4 p4 h4 k4
  | false=>
   simp only [Bool.not_false,cond_true]
   obtain ⟨m,em,hm1,hm2⟩: ∃ m:Int,(if (3:Int)<(w.2.2.2.2.2.1.length:Int) then (3:Int) else (w.2.2.2.2.2.1.length:Int))=m∧0<m∧m≤256:=by
    split
    ·exact ⟨_,rfl,by decide,by decide⟩
    ·exact ⟨_,rfl,by omega,by omega⟩
   obtain ⟨v5,c5,p5,h5,e5,r5,k5⟩:=below_ans hl hm1 hm2 k4
   obtain ⟨v6,c6,p6,h6,e6,r6,k6⟩:=below_ans hl (n:=12) (by decide) (by decide) k5
   simp only [s_min,em,e5,e6,obind_some]
   cases v6==(0:Int) with
   | true=>exact ⟨((3:Int),v5,[],((0:Int),(0:Int),((0:Int),(0:Int),(0:Int),[],(0:Int),(0:Int),(0:Int),(0:Int),(0:Int),[]))),c6,p6,h6,rfl,ev 3 v5 [] (by decide) (by decide) rfl (Nat.zero_le _) nob,k6⟩
   | false=>
    cases v6==(1:Int) with
    | true=>exact ⟨((4:Int),v5,[],((0:Int),(0:Int),((0:Int),(0:Int),(0:Int),[],(0:Int),(0:Int),(0:Int),(0:Int),(0:Int),[]))),c6,p6,h6,rfl,ev 4 v5 [] (by decide) (by decide) rfl (Nat.zero_le _) nob,k6⟩
    | false=>exact ⟨((2:Int),v5,[],((0:Int),(0:Int),((0:Int),(0:Int),(0:Int),[],(0:Int),(0:Int),(0:Int),(0:Int),(0:Int),[]))),c6,p6,h6,rfl,ev 2 v5 [] (by decide) (by decide) rfl (Nat.zero_le _) nob,k6⟩
 ·simp only [decide_eq_false hf,cond_false,obind_some]
  exact tick c1 p1 h1 k1

theorem rs_mono {s d now now':Int} (hn:now≤now'): ∀ {l:List (den tRs)},(∀ x∈l,(0:Int)≤x.2.2.2.1∧(20:Int)≥x.2.2.2.1)→rs s d now' l≤rs s d now l
 | [],_=>Int.le_refl _
 | x::l,h=>by
  have ih:=rs_mono (s:=s) (d:=d) hn (l:=l) fun y hy=>h y (List.mem_cons_of_mem _ hy)
  have hx:=h x (by simp)
  unfold rs
  by_cases c:now'≤x.2.2.2.2
  ·rw [decide_eq_true c,decide_eq_true (show now≤x.2.2.2.2 from Int.le_trans hn c)]
   split<;>omega
  ·rw [decide_eq_false c,Bool.and_false]
   simp only [Bool.false_eq_true,if_false]
   split<;>omega

theorem OkRs.later {l:List (den tRs)} {cap now now':Int} (h:OkRs l cap now) (hn:now≤now'):OkRs l cap now':=
 ⟨h.len,h.val,fun x hx=>Int.le_trans (rs_mono hn (rates_ok h.val)) (h.rate x hx),h.pw⟩

theorem OkS.tick {g:den tSc} {now now':Int} (h:OkS g now) (hn:now≤now'):OkS (g.1,active g.2.1 now',[]) now':=
 ⟨h.lo,h.hi,(h.res.later hn).filter _,fun j x hx=>by simp at hx⟩


structure StepW (w w':den tNw):Prop where
 top:nT w'=nT w
 now:nNow w'=nNow w
 gate:OkS (nG w) (nNow w)→OkS (nG w') (nNow w')
 fly: ∀ x∈nFly w',x∈nFly w∨tot tPk x.2.2≤1100
 flyN:(nFly w).length≤150→(nFly w').length≤150

theorem StepW.refl (w:den tNw):StepW w w:=⟨rfl,rfl,id,fun x hx=> .inl hx,id⟩

theorem StepW.trans {a b c:den tNw} (h:StepW a b) (k:StepW b c):StepW a c:=
 ⟨k.top.trans h.top,k.now.trans h.now,fun hg=>k.gate (h.gate hg),fun x hx=>(k.fly x hx).elim (h.fly x) .inr,fun hl=>k.flyN (h.flyN hl)⟩

theorem StepW.drop (w:den tNw):StepW w (dropW w):=⟨rfl,rfl,id,fun x hx=> .inl hx,id⟩

theorem StepW.box (w:den tNw) (i:Nat) (x:den tIb):StepW w (setBox w i x):=⟨rfl,rfl,id,fun x hx=> .inl hx,id⟩

theorem StepW.flows (w:den tNw) (l:List (den tFl)):StepW w (setFlows w l):=⟨rfl,rfl,id,fun x hx=> .inl hx,id⟩

theorem StepW.tell (w:den tNw) (r:Int) (p:den tPk):StepW w (tellW w r p):=StepW.flows w _

theorem StepW.send {w:den tNw} {r eg:Int} {p:den tPk} (hp:tot tPk p≤1100):StepW w (sendW w r eg p):=by
 unfold sendW
 split
 ·rename_i hc
  rw [Bool.and_eq_true,decide_eq_true_eq] at hc
  refine ⟨rfl,rfl,fun hg=>hg.trans _ _ _,fun x hx=> ?_,fun hl=> ?_⟩
  ·rcases List.mem_append.1 (show x∈nFly w++_ from hx) with hx | hx
   ·exact .inl hx
   ·have :x=_:=List.mem_singleton.1 hx
    subst this
    exact .inr hp
  ·show (nFly w++_).length≤150
   have :=hc.2
   simp
   omega
 ·exact StepW.drop w

theorem stepV_small {t:den tTo} {now:Int} {dead:List Int} {r inn:Int} {p:den tPk} (h:((stepV t now dead r inn p).1==0)=true):tot tPk (stepV t now dead r inn p).2.2.1≤1100:=by
 have hv:validK p=true:=fwd_valid (t:=t) (r:=r) (now:=now) (dead:=deadE t dead r) (inn:=inn) (by
  have h:((fwd t r now (deadE t dead r) inn p).1==0)=true:=h
  rw [eq_of_beq h];rfl)
 unfold stepV
 rw [fwd_tot]
 exact Nat.le_trans (validK_tot hv) (by decide)

theorem StepW.proc0 (w:den tNw) (r inn:Int) (p:den tPk):StepW w (proc0 w r inn p):=by
 unfold Go.Proofs.YtgacgopkefidaaaGreat.proc0
 split
 ·rename_i h;exact StepW.send (stepV_small h)
 ·split
  ·exact StepW.tell w _ _
  ·exact StepW.drop w

theorem StepW.proc (w:den tNw) (r inn:Int) (p:den tPk):StepW w (procW w r inn p):=by
 unfold procW
 split
 ·rename_i h;exact StepW.send (stepV_small h)
 ·split
  ·split
   ·unfold dataW
    split
    ·exact StepW.refl w
    ·split
     ·exact (StepW.box w _ _).trans (StepW.proc0 _ _ _ _)
     ·exact StepW.box w _ _
   ·exact StepW.tell w _ _
  ·split
   ·unfold noteW
    split
    ·exact (StepW.proc0 _ _ _ _).trans (StepW.drop _)
    ·exact (StepW.tell _ _ _).trans (StepW.drop _)
   ·exact StepW.drop w

theorem StepW.stepT (k:Nat) (w:den tNw):StepW w (stepT k w):=by
 unfold Go.Proofs.YtgacgopkefidaaaGreat.stepT
 split
 ·split
  ·exact (StepW.flows w _).trans (StepW.proc _ _ _ _)
  ·exact StepW.flows w _
 ·exact StepW.refl w

theorem StepW.tickL: ∀ (n k:Nat) (w:den tNw),StepW w (tickL k n w)
 | 0,_,w=>StepW.refl w
 | n+1,k,w=>(StepW.stepT k w).trans (StepW.tickL n (k+1) _)


structure RunI (t:den tTo) (B k:Nat) (w:den tNw):Prop where
 keep:Keep B 4 w
 top:nT w=t
 gate:OkS (nG w) (nNow w)
 lo:(0:Int)≤nNow w
 hi:nNow w≤60+(k:Int)
 fly: ∀ x∈nFly w,tot tPk x.2.2≤1100
 flyN:(nFly w).length≤150

theorem RunI.mono {t:den tTo} {B C k j:Nat} {w:den tNw} (h:RunI t B k w) (hB:B≤C) (hk:k≤j):RunI t C j w:=⟨h.keep.mono hB,h.top,h.gate,h.lo,by have :=h.hi;omega,h.fly,h.flyN⟩

theorem RunI.step {t:den tTo} {B C k:Nat} {w w':den tNw} (h:RunI t B k w) (s:StepW w w') (hk:Keep C 4 w'):RunI t C k w':=
 ⟨hk,s.top.trans h.top,s.gate h.gate,by rw [s.now];exact h.lo,by rw [s.now];exact h.hi,fun x hx=>(s.fly x hx).elim (h.fly x) id,s.flyN h.flyN⟩

theorem tick0_step {t:den tTo} {B k:Nat} {w:den tNw} (h:RunI t B k w) (hk:k≤1000):RunI t B (k+1) (tick0 w):=by
 have hlo:=h.lo
 have hhi:=h.hi
 have e:wr (nNow w+1)=nNow w+1:=wr_small (by omega) (by omega)
 refine ⟨tick0_keep h.keep,h.top,?_,?_,?_,h.fly,h.flyN⟩
 ·show OkS ((nG w).1,active (nG w).2.1 (wr (nNow w+1)),[]) (wr (nNow w+1))
  rw [e]
  exact h.gate.tick (by omega)
 ·show (0:Int)≤wr (nNow w+1)
  omega
 ·show wr (nNow w+1)≤_
  omega

theorem tickW_run {t:den tTo} {B k:Nat} {w:den tNw} (h:RunI t B k w) (hk:k≤1000):RunI t (B+656) (k+1) (tickW w):=by
 have hkp:=tickW_keep h.keep
 unfold tickW at hkp ⊢
 split
 ·exact h.mono (by omega) (by omega)
 ·rename_i hn
  rw [if_neg hn] at hkp
  exact (tick0_step h hk).step (StepW.tickL _ _ _) hkp

theorem fly_app {w:den tNw} {x:den tFy}:tot tNw (setFly w (nFly w++[x]))=tot tNw w+(1+tot tPk x.2.2):=by
 have h1:=setFly_tot w (nFly w++[x])
 rw [tot_app,tot_one] at h1
 have e:tot tFy x=tot tPk x.2.2:=by simp [tot_pair,tot_int]
 omega

theorem linkL_len (m:Nat) (dead:List Int) (i:Int) (b:Bool):(linkL m dead i b).length≤m:=by
 unfold linkL
 exact Nat.le_trans (List.length_filter_le ..) (by simp)

theorem setDead_tot (w:den tNw) (l:List Int):tot tNw (setDead w l)+(nDead w).length=tot tNw w+l.length:=by
 have e:tot tNw (setDead w l)=(tot (.sl tAS) (nT w).1+tot (.sl tLk) (nT w).2)+((tot (.sl tSg) (nK w).1+tot (.sl tSg) (nK w).2)+((0+(tot (.sl tRs) (nG w).2.1+tot (.sl tUs) (nG w).2.2))+(0+(tot (.sl ti) l+(tot (.sl tFy) (nFly w)+(tot (.sl tFl) (nFlows w)+(tot (.sl tIb) (nBox w)+0))))))):=rfl
 have r: ∀ l:List Int,tot (.sl ti) l=l.length:=fun l=>tot_flatL rfl
 rw [e,net_tot w,r,r]
 omega


theorem doW_run {t:den tTo} {B k:Nat} {w:den tNw} {e:den tEvent} (h:RunI t B k w) (hk:k≤1000) (ht:t.2.length≤100) (he:EvD w e):RunI t (B+2000) (k+1) (doW w e).2:=by
 have same:RunI t (B+2000) (k+1) w:=h.mono (by omega) (by omega)
 unfold doW
 split
 ·exact (tickW_run h hk).mono (by omega) (by omega)
 ·split
  ·split
   ·rename_i x hi hx
    have hm:=List.mem_of_getElem? hx
    have hb:=h.keep.bytes.fly x hm
    have hg:RunI t B k (goneW w e.2.1.toNat):=h.step ⟨rfl,rfl,id,fun y hy=> ?_,fun hl=> ?_⟩ (goneW_keep h.keep _)
    ·exact ((hg.step (StepW.proc _ _ _ _) (procW_keep2 hg.keep hb)).mono (by omega) (by omega))
    ·rcases List.mem_append.1 (show y∈(nFly w).take _++(nFly w).drop _ from hy) with hy | hy
     ·exact .inl (List.mem_of_mem_take hy)
     ·exact .inl (List.mem_of_mem_drop hy)
    ·show ((nFly w).take _++(nFly w).drop _).length≤150
     simp only [List.length_append,List.length_take,List.length_drop]
     omega
   ·exact same
  ·split
   ·split
    ·have hg:RunI t B k (goneW w e.2.1.toNat):=h.step ⟨rfl,rfl,id,fun y hy=> ?_,fun hl=> ?_⟩ (goneW_keep h.keep _)
     ·exact (hg.step (StepW.drop _) ⟨hg.keep.tot,hg.keep.flows,⟨hg.keep.bytes.fly,hg.keep.bytes.msg⟩⟩).mono (by omega) (by omega)
     ·rcases List.mem_append.1 (show y∈(nFly w).take _++(nFly w).drop _ from hy) with hy | hy
      ·exact .inl (List.mem_of_mem_take hy)
      ·exact .inl (List.mem_of_mem_drop hy)
     ·show ((nFly w).take _++(nFly w).drop _).length≤150
      simp only [List.length_append,List.length_take,List.length_drop]
      omega
    ·exact same
   ·split
    ·split
     ·rename_i x hi hx
      have hm:=List.mem_of_getElem? hx
      rw [Bool.and_eq_true] at hi
      have hlt: ¬ (((nFly w).length:Int)≥150):=by have :=hi.2;simpa using this
      have ht':=fly_app (w:=w) (x:=x)
      have hx':=h.fly x hm
      have hkp:=h.keep.tot
      refine RunI.mono (B:=B+1101) (k:=k) (h.step (w':=setFly w (nFly w++[x])) ⟨rfl,rfl,id,fun y hy=> ?_,fun hl=> ?_⟩ ⟨by omega,h.keep.flows,⟨fun y hy=> ?_,h.keep.bytes.msg⟩⟩) (by omega) (by omega)
      ·rcases List.mem_append.1 (show y∈nFly w++[x] from hy) with hy | hy
       ·exact .inl hy
       ·rw [List.mem_singleton.1 hy];exact .inl hm
      ·show (nFly w++[x]).length≤150
       simp only [List.length_append,List.length_singleton]
       omega
      ·rcases List.mem_append.1 (show y∈nFly w++[x] from hy) with hy | hy
       ·exact h.keep.bytes.fly y hy
       ·rw [List.mem_singleton.1 hy];exact h.keep.bytes.fly x hm
     ·exact same
    ·split
     ·show RunI t (B+2000) (k+1) (linkW w e.2.1 (e.1==5))
      unfold linkW
      split
      ·exact same
      ·have h1:=setDead_tot w (linkL (nT w).2.length (nDead w) e.2.1 (e.1==5))
       have h2:=linkL_len (nT w).2.length (nDead w) e.2.1 (e.1==5)
       have h3:(nT w).2.length≤100:=by rw [h.top];exact ht
       have hkp:=h.keep.tot
       exact RunI.mono (B:=B+100) (k:=k) (h.step (w':=setDead w (linkL (nT w).2.length (nDead w) e.2.1 (e.1==5))) ⟨rfl,rfl,id,fun y hy=> .inl hy,id⟩ ⟨by omega,h.keep.flows,⟨h.keep.bytes.fly,h.keep.bytes.msg⟩⟩) (by omega) (by omega)
     ·split
      ·split
       ·rename_i hc
        rw [Bool.and_eq_true] at hc
        have hlt: ¬ (((nFly w).length:Int)≥150):=by have :=hc.2;simpa using this
        have ht':=fly_app (w:=w) (x:=e.2.2.2)
        have hx':=he.pk.1
        have hkp:=h.keep.tot
        refine RunI.mono (B:=B+1101) (k:=k) (h.step (w':=setFly w (nFly w++[e.2.2.2])) ⟨rfl,rfl,id,fun y hy=> ?_,fun hl=> ?_⟩ ⟨by omega,h.keep.flows,⟨fun y hy=> ?_,h.keep.bytes.msg⟩⟩) (by omega) (by omega)
        ·rcases List.mem_append.1 (show y∈nFly w++[e.2.2.2] from hy) with hy | hy
         ·exact .inl hy
         ·rw [List.mem_singleton.1 hy];exact .inr hx'
        ·show (nFly w++[e.2.2.2]).length≤150
         simp only [List.length_append,List.length_singleton]
         omega
        ·rcases List.mem_append.1 (show y∈nFly w++[e.2.2.2] from hy) with hy | hy
         ·exact h.keep.bytes.fly y hy
         ·rw [List.mem_singleton.1 hy];exact he.pk.2
       ·exact same
      ·split
       ·split
        ·rename_i f hi hf
         have hm:=List.mem_of_getElem? hf
         have h1:=set_tot (t:=tFl) (y:=enqF f e.2.2.1) hf
         have h5:=setFlows_tot w ((nFlows w).set e.2.1.toNat (enqF f e.2.2.1))
         have h6:=net_tot w
         have hkp:=h.keep.tot
         have h2:tot tFl (enqF f e.2.2.1)≤tot tFl f+4:=by
          unfold enqF
          split
          ·obtain ⟨a,b,c,d,ms,ps,cu,wa,rv⟩:=f
           show tot tFl (a,b,c,d,ms++[e.2.2.1],ps,cu,wa,rv)≤tot tFl (a,b,c,d,ms,ps,cu,wa,rv)+4
           rw [flow_tot,flow_tot,tot_app,msg_tot]
           have :=he.data.1
           omega
          ·omega
         refine RunI.mono (B:=B+4) (k:=k) (h.step (w':=setFlows w ((nFlows w).set e.2.1.toNat (enqF f e.2.2.1))) (StepW.flows w _) ⟨by omega,by show ((nFlows w).set _ _).length≤4;rw [List.length_set];exact h.keep.flows,⟨h.keep.bytes.fly,fun g hg m hmm=> ?_⟩⟩) (by omega) (by omega)
         rcases List.mem_or_eq_of_mem_set (show g∈(nFlows w).set _ _ from hg) with hg | rfl
         ·exact h.keep.bytes.msg g hg m hmm
         ·unfold enqF at hmm
          split at hmm
          ·rcases List.mem_append.1 (show m∈f.2.2.2.2.1++[e.2.2.1] from hmm) with hmm | hmm
           ·exact h.keep.bytes.msg f hm m hmm
           ·rw [List.mem_singleton.1 hmm];exact he.data.2
          ·exact h.keep.bytes.msg f hm m hmm
        ·exact same
       ·exact same


inductive Ran (v:den tNw):List (den tEvent)→den tNw→Prop
 | nil:Ran v [] v
 | snoc {l:List (den tEvent)} {w:den tNw} {e:den tEvent} (h:Ran v l w) (he:EvD w e):Ran v (l++[e]) (doW w e).2
theorem NewD.gateOk {n:Nat} {v:den tNw} (h:NewD n v):OkS (nG v) (nNow v):=by
 have h1:=h.res
 rw [h.now,h.gate]
 exact ⟨by show (1:Int)≤12;decide,by show (20:Int)≥12;decide,h1,fun j x hx=>by simp at hx⟩

theorem NewD.run {v:den tNw} (h:NewD 3 v):RunI (nT v) 1000 0 v where
 keep:=⟨h.tot (by decide),Nat.le_trans h.len (by decide),⟨fun x hx=>(by rw [h.fly] at hx;cases hx),fun f hf m hm=>(h.flows f hf).bytes m hm⟩⟩
 top:=rfl
 gate:=h.gateOk
 lo:=by rw [h.now];decide
 hi:=by rw [h.now];decide
 fly:=fun x hx=>by rw [h.fly] at hx;cases hx
 flyN:=by rw [h.fly];exact Nat.zero_le _

theorem Ran.run {v:den tNw} (hv:NewD 3 v) {l:List (den tEvent)} {w:den tNw} (h:Ran v l w):l.length≤1000→RunI (nT v) (1000+2000 * l.length) l.length w:=by
 induction h with
 | nil=>intro _;exact hv.run
 | snoc h he ih=>
  intro hl
  simp only [List.length_append,List.length_singleton] at hl ⊢
  exact (doW_run (ih (by omega)) (by omega) hv.top.links he).mono (by omega) (by omega)

theorem RunI.netE {t:den tTo} {B k:Nat} {w:den tNw} (h:RunI t B k w) (hB:B≤536870912) (h1:1≤t.1.length) (h8:t.1.length≤8) (hl:t.2.length≤100):NetE w:=
 ⟨Nat.le_trans h.keep.tot hB,by rw [h.top];exact ⟨h1,h8⟩,by rw [h.top];exact hl,h.flyN,h.fly,h.keep.bytes.fly,h.keep.flows⟩

def runR (v:den tNw) (l:List (den tEvent)) (w:den tNw) (c:List Int) (p h:Int):Int×Int×Int×(List (den tEvent))×(List (den tAS))×(List (den tLk))×(List (den tSg))×(List (den tSg))×Int×(List (den tRs))×(List (den tUs))×Int×(List Int)×Int×(List (den tAS))×(List (den tLk))×(List (den tSg))×(List (den tSg))×(List (den tRs))×(List (den tUs))×(List Int)×(List (den tFy))×(List (den tFl))×(List (den tIb))×(List (den tFy))×(List (den tFl))×(List (den tIb))×(List Int)×Int×Int:=
 ((nG v).1,nNow v,nDrop v,l,(nT w).1,(nT w).2,(nK w).1,(nK w).2,(nG w).1,(nG w).2.1,(nG w).2.2,nNow w,nDead w,nDrop w,(nT v).1,(nT v).2,(nK v).1,(nK v).2,(nG v).2.1,(nG v).2.2,nDead v,nFly v,nFlows v,nBox v,nFly w,nFlows w,nBox w,c,p,h)

abbrev RnS:=Int×(List (den tAS))×(List (den tLk))×(List (den tSg))×(List (den tSg))×Int×(List (den tRs))×(List (den tUs))×Int×(List Int)×Int×(List (den tEvent))×(List (den tFy))×(List (den tFl))×(List (den tIb))×(List Int)×Int×Int

abbrev RnR:=(List (den tAS))×(List (den tLk))×(List (den tSg))×(List (den tSg))×Int×(List (den tRs))×(List (den tUs))×Int×(List Int)×Int×(List (den tEvent))×(List (den tFy))×(List (den tFl))×(List (den tIb))×(List Int)×Int×Int

def rnS (n:Nat) (l:List (den tEvent)) (w:den tNw) (c:List Int) (p h:Int):RnS:=((n:Int),(nT w).1,(nT w).2,(nK w).1,(nK w).2,(nG w).1,(nG w).2.1,(nG w).2.2,nNow w,nDead w,nDrop w,l,nFly w,nFlows w,nBox w,c,p,h)

def RunP (code:List Int) (N:Nat) (o:Option (Int×Int×Int×(List (den tEvent))×(List (den tAS))×(List (den tLk))×(List (den tSg))×(List (den tSg))×Int×(List (den tRs))×(List (den tUs))×Int×(List Int)×Int×(List (den tAS))×(List (den tLk))×(List (den tSg))×(List (den tSg))×(List (den tRs))×(List (den tUs))×(List Int)×(List (den tFy))×(List (den tFl))×(List (den tIb))×(List (den tFy))×(List (den tFl))×(List (den tIb))×(List Int)×Int×Int)):Prop:=
 ∃ v l w c' p' h',o=some (runR v l w c' p' h')∧NewD 3 v∧Ran v l w∧l.length≤N∧Cur code (c',p',h')

theorem run_ans {code:List Int} (hl:code.length≤1048576) {most:Nat} (h0:0<most) (h1:most≤200) {c:List Int} {p h:Int} (hc:Cur code (c,p,h)):RunP code (3+most) (s_l38Run (c,p,h) (most:Int)):=by
 obtain ⟨v,c1,p1,h1',e1,hv,k1⟩:=new_net hl hc
 obtain ⟨v2,c2,p2,h2,e2,r2,k2⟩:=below_ans hl (n:=(most:Int)) (by omega) (by omega) k1
 obtain ⟨m2,rfl⟩:=Int.eq_ofNat_of_zero_le r2.1
 have w2:wr ((3:Int)+(m2:Int))=((m2+3:Nat):Int):=by rw [wr_small (by omega) (by omega)];omega
 have sw:SmB 68719476736 tNw v:=(sm_of_tot (hv.tot (by decide))).mono (by decide)
 have e3:s_l37Copy (((netN v c1 p1 h1').2.2.2.1,(netN v c1 p1 h1').2.2.2.2.1),((netN v c1 p1 h1').2.2.2.2.2.1,(netN v c1 p1 h1').2.2.2.2.2.2.1),((netN v c1 p1 h1').1,(netN v c1 p1 h1').2.2.2.2.2.2.2.1,(netN v c1 p1 h1').2.2.2.2.2.2.2.2.1),(netN v c1 p1 h1').2.1,(netN v c1 p1 h1').2.2.2.2.2.2.2.2.2.1,(netN v c1 p1 h1').2.2.2.2.2.2.2.2.2.2.1,(netN v c1 p1 h1').2.2.2.2.2.2.2.2.2.2.2.1,(netN v c1 p1 h1').2.2.2.2.2.2.2.2.2.2.2.2.1,(netN v c1 p1 h1').2.2.1)=some (netC v):=s_copyW sw
 have e2:s_l1Below ((netN v c1 p1 h1').2.2.2.2.2.2.2.2.2.2.2.2.2.1,(netN v c1 p1 h1').2.2.2.2.2.2.2.2.2.2.2.2.2.2.1,(netN v c1 p1 h1').2.2.2.2.2.2.2.2.2.2.2.2.2.2.2) (most:Int)=some ((m2:Int),c2,p2,h2):=e2
 unfold s_l38Run
 simp only [both_self,dup_self,dup3_self,dup4_self,dup5_self,e1,obind_some,e3,e2,w2]
 refine loop_bind (G:=RunP code (3+most)) (fun (n:Nat) (s:RnS)=> ∃ l w c p h,s=rnS n l w c p h∧l.length+n≤3+most∧Ran v l w∧Cur code (c,p,h)) (fun r:RnR=> ∃ n l w c p h,r=(rnS n l w c p h).2∧l.length≤3+most∧Ran v l w∧Cur code (c,p,h)) ?_ (m2+3) (rnS (m2+3) [] v c2 p2 h2) ⟨[],v,c2,p2,h2,rfl,by simp only [List.length_nil];omega,.nil,k2⟩ ?_
 ·rintro n s ⟨l,w,c3,p3,h3,rfl,hn,hr,k3⟩
  cases n with
  | zero=>exact .inl ⟨_,rfl,0,l,w,c3,p3,h3,rfl,by omega,hr,k3⟩
  | succ n=>
   right
   have hrun:=hr.run hv (by omega)
   have hE:=hrun.netE (by omega) hv.top.pos hv.top.len hv.top.links
   obtain ⟨e,c4,p4,h4,e4,he,k4⟩:=next_ans hl hE k3
   have e5:=s_do (w:=w) (e:=e) (by decide) hrun.keep (by omega) (by
     have h8:=he.hi
     have h9: ¬ (e.1=(9:Int)):=fun h=>by rw [h] at h8;exact absurd h8 (by decide)
     exact beq_eq_false_iff_ne.2 h9) ⟨by have :=he.data.1;omega,fun x hx=>trivial⟩ (Nat.le_trans he.pk.1 (by decide))
   have wn:wr (((n+1:Nat):Int) - 1)=(n:Int):=by rw [wr_small (by omega) (by omega)];omega
   refine ⟨n,rnS n (l++[e]) (doW w e).2 c4 p4 h4,by omega,?_,l++[e],(doW w e).2,c4,p4,h4,rfl,by simp only [List.length_append,List.length_singleton];omega,hr.snoc he,k4⟩
   obtain ⟨⟨as,ls⟩,⟨dn,co⟩,⟨cap,res,us⟩,now,dead,fly,flows,box,drop⟩:=w
   obtain ⟨kd,en,data,to,ing,k1,k2,k3,k4,k5,k6,k7,k8,k9,k10⟩:=e
   show cond (decide (((n+1:Nat):Int)>(0:Int))) _ _=_
   rw [decide_eq_true (show ((n+1:Nat):Int)>0 by omega),cond_true]
   simp only [rnS,nT,nK,nG,nNow,nDead,nFly,nFlows,nBox,nDrop,cond_true,e4,obind_some,nxR,apOk_le (b:=168) (n:=l.length) (m:=1) (by decide) (by omega),e5,netR,wn]
 ·rintro r ⟨n,l,w,c3,p3,h3,rfl,hn,hr,k3⟩
  exact ⟨v,l,w,c3,p3,h3,rfl,hv,hr,hn,k3⟩

theorem size_ans {code:List Int} (hl:code.length≤1048576) {m:Nat} (hm:3≤m∧m≤1000): ∃ n:Nat,s_l1Size code (m:Int)=some (n:Int)∧n≤m:=by
 unfold s_l1Size
 have e:Int.tdiv (code.length:Int) 12=((code.length / 12:Nat):Int):=rfl
 have w:wr ((code.length:Int).tdiv 12)=((code.length / 12:Nat):Int):=by rw [e,wr_small (by omega) (by omega)]
 have w2:wr ((3:Int)+((code.length / 12:Nat):Int))=((3+code.length / 12:Nat):Int):=by rw [wr_small (by omega) (by omega)];omega
 simp only [w,w2]
 by_cases h:((3+code.length / 12:Nat):Int)>(m:Int)
 ·rw [decide_eq_true h]
  exact ⟨m,rfl,Nat.le_refl _⟩
 ·rw [decide_eq_false h]
  exact ⟨3+code.length / 12,rfl,by omega⟩

def netQ (w:den tNw):(List (den tAS))×(List (den tLk))×(List (den tSg))×(List (den tSg))×Int×(List (den tRs))×(List (den tUs))×Int×(List Int)×Int×(List (den tFy))×(List (den tFl))×(List (den tIb)):=
 ((nT w).1,(nT w).2,(nK w).1,(nK w).2,(nG w).1,(nG w).2.1,(nG w).2.2,nNow w,nDead w,nDrop w,nFly w,nFlows w,nBox w)

theorem world_ans {code:List Int} (hl:code.length≤1048576) {most:Nat} (h0:0<most) (h1:most≤200) {c:List Int} {p h:Int} (hc:Cur code (c,p,h)): ∃ v l w c' p' h',s_l38World (c,p,h) (most:Int)=some ((nT w).1,(nT w).2,(nK w).1,(nK w).2,(nG w).1,(nG w).2.1,(nG w).2.2,nNow w,nDead w,nDrop w,nFly w,nFlows w,nBox w,c',p',h')∧NewD 3 v∧Ran v l w∧l.length≤3+most∧Cur code (c',p',h'):=by
 obtain ⟨v,l,w,c1,p1,h1,e1,hv,hr,hn,k1⟩:=run_ans hl h0 h1 hc
 exact ⟨v,l,w,c1,p1,h1,by unfold s_l38World;rw [e1];rfl,hv,hr,hn,k1⟩

theorem drawN2_ans {code:List Int} (hl:code.length≤1048576): ∃ v l w,s_DrawNetwork code=some (netQ w)∧NewD 3 v∧Ran v l w∧l.length≤93:=by
 obtain ⟨c0,p0,h0,e0,k0⟩:=new_ans hl
 obtain ⟨n,en,hn⟩:=size_ans hl (m:=60) (by decide)
 have w1:wr ((30:Int)+(n:Int))=((30+n:Nat):Int):=by rw [wr_small (by omega) (by omega)];omega
 obtain ⟨v,l,w,c1,p1,h1,e1,hv,hr,hn',k1⟩:=world_ans hl (most:=30+n) (by omega) (by omega) k0
 refine ⟨v,l,w,?_,hv,hr,by omega⟩
 have en:s_l1Size code 60=some (n:Int):=en
 unfold s_DrawNetwork
 simp only [e0,en,obind_some,w1,e1]
 rfl

end Go.Proofs.YtgacgopkefidaaaGreat
