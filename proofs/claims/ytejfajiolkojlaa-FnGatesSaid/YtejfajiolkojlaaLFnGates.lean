/-
  The plain part of: Law FnGates: for every code no more packets leave through an interface than its capacity. Conditions: none.
-/
import Derived.Test.YtejfajiolkojlaaQ0FnGates
set_option linter.unusedVariables false
set_option linter.unusedSimpArgs false
set_option maxRecDepth 100000
namespace Go.Proofs.Ytejfajiolkojlaa.fnGates
open Go.Ab Go.V
theorem gates_loop {code:List Int} (hl:code.length≤1048576) {g0:den tSc} (hg:OkS g0 45) (hu:g0.2.2.length≤12) {T:Type} {k:(den tSc⊕Bool)→Option T} {y:Option T} (hk: ∀ g:den tSc,OkS g 45→g.2.2.length≤50→k (.inl g)=y): ∀ {step:(Int×Int×(List (den tRs))×(List (den tUs)))→Option ((Int×Int×(List (den tRs))×(List (den tUs)))⊕(den tSc⊕Bool))},
  (∀ (n:Nat) (g:den tSc),n<30→OkS g 45→g.2.2.length≤12+n→ ∃ g':den tSc,OkS g' 45∧g'.2.2.length≤12+(n+1)∧step ((n:Int),g)=some (.inl (((n+1:Nat):Int),g')))→
  (∀ g:den tSc,step ((30:Int),g)=some (.inr (.inl g)))→Option.bind (loopM step ((0:Int),g0)) k=y:=by
 intro step hs he
 refine loop_bind (G:=fun o=>o=y) (fun (n:Nat) (s:Int×den tSc)=> ∃ j:Nat,s.1=(j:Int)∧j+n=30∧OkS s.2 45∧s.2.2.2.length≤12+j) (fun (r:den tSc⊕Bool)=> ∃ g:den tSc,r= .inl g∧OkS g 45∧g.2.2.length≤50) ?_ 30 _ ⟨0,rfl,rfl,hg,by simpa using hu⟩ ?_
 ·rintro n ⟨_,g⟩ ⟨j,rfl,h1,h2,h3⟩
  simp only at h2 h3
  cases n with
  | zero=>
   have :j=30:=by omega
   subst this
   exact .inl ⟨.inl g,he g,g,rfl,h2,by omega⟩
  | succ n=>
   obtain ⟨g',a,b,c⟩:=hs j g (by omega) h2 h3
   exact .inr ⟨n,(((j+1:Nat):Int),g'),by omega,c,j+1,rfl,by omega,a,b⟩
 ·rintro r ⟨g,rfl,h1,h2⟩
  exact hk g h1 h2
theorem gates_inner {g:den tSc} (hg:OkS g 45) (hu:g.2.2.length≤1000) {R T:Type} {z:R} {k:R→Option T} {y:Option T} (hk:k z=y) {step:Int→Option (Int⊕R)} (hs: ∀ n:Nat,n<3→sentU g.2.2 (n:Int) 1≤g.1→sentU g.2.2 (n:Int) 2≤g.1→step (n:Int)=some (.inl ((n+1:Nat):Int))) (he:step 3=some (.inr z)):Option.bind (loopM step (0:Int)) k=y:=by
 refine loop_bind (G:=fun o=>o=y) (fun (n:Nat) (s:Int)=> ∃ j:Nat,s=(j:Int)∧j+n=3) (fun (r:R)=>r=z) ?_ 3 _ ⟨0,rfl,rfl⟩ (fun r hr=>by rw [hr];exact hk)
 rintro n _ ⟨j,rfl,h1⟩
 cases n with
 | zero=>
  have :j=3:=by omega
  subst this
  exact .inl ⟨z,he,rfl⟩
 | succ n=>exact .inr ⟨n,((j+1:Nat):Int),by omega,hs j (by omega) (hg.sent (by omega) _ _) (hg.sent (by omega) _ _),j+1,rfl,by omega⟩
theorem law (a0:den (.sl tb)) (w0:Wf (.sl tb) a0):l_FnGates a0=some true:=by
 unfold l_FnGates l_big
 rw [obind_some]
 by_cases hb:(a0.length:Int)>(1048576:Int)
 ·rw [decide_eq_true hb,cond_true]
 rw [decide_eq_false hb,cond_false]
 have hl:a0.length≤1048576:=by omega
 obtain ⟨cap,l,us,e1,ok,hu⟩:=drawS_ans hl
 obtain ⟨cp,a,b,d,l2,us2,e2,hr2,hu2⟩:=drawT_ans hl
 obtain ⟨v,e3⟩:=drawN_ans hl
 obtain ⟨cp4,l4,us4,e4,hr4,hu4⟩:=drawV_ans hl
 obtain ⟨c5,c5',l5,us5,l5',us5',e5,hr5,hu5,hr5',hu5'⟩:=drawE_ans hl
 obtain ⟨c6,t6,l6,us6,e6,hr6,hu6⟩:=drawB_ans hl
 obtain ⟨w,n1,n2⟩:=new_same v
 have ti:=i_trans (g:=(cp,l2,us2)) (id:=a) (s:=b) (d:=d) (now:=45) (by show l2.length≤_;omega) (by show us2.length≤_;omega)
 have ts:=s_trans (g:=(cp,l2,us2)) (id:=a) (s:=b) (d:=d) (now:=45) (by show l2.length≤_;omega) (by show us2.length≤_;omega)
 obtain ⟨g1,g2,g3⟩:=trans_len (cp,l2,us2) a b d 45
 simp only at g1 g3
 have gr:=gate_refl (a:=gateT (transU (cp,l2,us2) a b d 45)) (by show ((transU (cp,l2,us2) a b d 45).2.2.1).length≤_;rw [g1];omega) (by show ((transU (cp,l2,us2) a b d 45).2.2.2).length≤_;omega)
 have gr:l_sameGate ((transU (cp,l2,us2) a b d 45).1,(transU (cp,l2,us2) a b d 45).2.2.1,(transU (cp,l2,us2) a b d 45).2.2.2) ((transU (cp,l2,us2) a b d 45).1,(transU (cp,l2,us2) a b d 45).2.2.1,(transU (cp,l2,us2) a b d 45).2.2.2)=some true:=gr
 have gn:=gate_refl (a:=(w,[],[])) (by simp) (by simp)
 obtain ⟨ge,gE,_⟩:=gate_ans (a:=(c5,l5,us5)) (b:=(c5',l5',us5')) (by show l5.length≤_;omega) (by show us5.length≤_;omega)
 have hact:(active l6 t6).length≤1073741824:=Nat.le_trans (List.length_filter_le ..) (by omega)
 have gb:=gate_refl (a:=(c6,active l6 t6,[])) hact (by simp)
 have v1:=i_validS (g:=(cp4,l4,us4)) (now:=45) (by show l4.length≤_;omega) (by show us4.length≤_;omega)
 have v2:=s_validS (g:=(cp4,l4,us4)) (now:=45) (by show l4.length≤_;omega) (by show us4.length≤_;omega)
 have b1:=i_begin (g:=(c6,l6,us6)) (t:=t6) (by show l6.length≤_;omega)
 have b2:=s_begin (g:=(c6,l6,us6)) (t:=t6) (by show l6.length≤_;omega)
 have u1:=i_used (g:=(cp,l2,us2)) (id:=a) (s:=b) (d:=d) (by show us2.length≤_;omega)
 have u2:=s_used (g:=(cp,l2,us2)) (id:=a) (s:=b) (d:=d) (by show us2.length≤_;omega)
 have q1:=i_sent (g:=(cp,l2,us2)) (s:=b) (d:=d) (by show us2.length≤_;omega)
 have q2:=s_sent (g:=(cp,l2,us2)) (s:=b) (d:=d) (by show us2.length≤_;omega)
 have vg:=i_validS (g:=(cap,l,us)) (now:=45) (by show l.length≤_;have :=ok.res.len;simp only at this;omega) (by show us.length≤_;omega)
 rw [okS_iff.2 ok] at vg
 simp only at b1 b2
 simp only [e1,e2,e3,e4,e5,e6,ti,ts,gr,n1,n2,gn,v1,v2,gate_same,gE,b1,b2,gb,u1,u2,q1,q2,vg,obind_some,Bool.not_true,cond_false,beq_self_eq_true,bne_self_eq_false,both_self,dup_self,dup3_self,dup4_self,dup5_self]
 refine gates_loop hl ok hu (fun g hg hn=> ?_) (fun n g hn hg hm=> ?_) (fun g=>rfl)
 ·have :=i_validS (g:=g) (now:=45) (by have :=hg.res.len;omega) (by omega)
  rw [okS_iff.2 hg] at this
  show Option.bind (i_ValidScheduler g 45) _=_
  rw [this,obind_some]
 ·obtain ⟨z1,f1⟩:=at_ans hl (i:=(n:Int)) (by omega)
  obtain ⟨z2,f2⟩:=at_ans hl (i:=wr ((n:Int)+1)) (by rw [show wr ((n:Int)+1)=(n:Int)+1 from wri (by omega) (by omega)];omega)
  obtain ⟨z3,f3⟩:=at_ans hl (i:=wr ((n:Int)+2)) (by rw [show wr ((n:Int)+2)=(n:Int)+2 from wri (by omega) (by omega)];omega)
  have tr:=i_trans (g:=g) (id:=Int.tmod z1 6) (s:=Int.tmod z2 3) (d:=wr (1+Int.tmod z3 2)) (now:=45) (by have :=hg.res.len;omega) (by omega)
  have hg':=hg.trans (Int.tmod z1 6) (Int.tmod z2 3) (wr (1+Int.tmod z3 2))
  obtain ⟨m1,m2,m3⟩:=trans_len g (Int.tmod z1 6) (Int.tmod z2 3) (wr (1+Int.tmod z3 2)) 45
  generalize transU g (Int.tmod z1 6) (Int.tmod z2 3) (wr (1+Int.tmod z3 2)) 45=q at tr hg' m1 m2 m3
  refine ⟨gateT q,hg',by show q.2.2.2.length≤_;omega,?_⟩
  have tr:i_Transmit (g.1,g.2.1,g.2.2) (Int.tmod z1 6) (Int.tmod z2 3) (wr (1+Int.tmod z3 2)) 45=some q:=tr
  simp only [decide_eq_true (show (n:Int)<30 by omega),cond_true,f1,f2,f3,tr,obind_some]
  refine gates_inner hg' (by show q.2.2.2.length≤_;omega) (z:=Sum.inl (gateT q)) ?_ (fun j hj k1 k2=> ?_) rfl
  ·show some (Sum.inl (wr ((n:Int)+1),q.1,q.2.2.1,q.2.2.2))=_
   rw [show wr ((n:Int)+1)=((n+1:Nat):Int) from by rw [show wr ((n:Int)+1)=(n:Int)+1 from wri (by omega) (by omega)];omega]
  ·have s1:=i_sent (g:=(q.1,q.2.2.1,q.2.2.2)) (s:=(j:Int)) (d:=1) (by show q.2.2.2.length≤_;omega)
   have s2:=i_sent (g:=(q.1,q.2.2.1,q.2.2.2)) (s:=(j:Int)) (d:=2) (by show q.2.2.2.length≤_;omega)
   have k1:sentU q.2.2.2 (j:Int) 1≤q.1:=k1
   have k2:sentU q.2.2.2 (j:Int) 2≤q.1:=k2
   simp only [decide_eq_true (show (j:Int)<3 by omega),cond_true,s1,s2,obind_some,decide_eq_false (show ¬ sentU q.2.2.2 (j:Int) 1>q.1 by omega),decide_eq_false (show ¬ sentU q.2.2.2 (j:Int) 2>q.1 by omega),cond_false]
   rw [show wr ((j:Int)+1)=((j+1:Nat):Int) from by rw [show wr ((j:Int)+1)=(j:Int)+1 from wri (by omega) (by omega)];omega]
end Go.Proofs.Ytejfajiolkojlaa.fnGates
