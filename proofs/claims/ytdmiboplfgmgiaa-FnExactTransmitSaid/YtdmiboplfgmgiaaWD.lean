/-
  Operations that make or write memory: the model does what their meaning says. Over any program. Conditions: none beyond the meaning.
-/
import Derived.Test.YtdmiboplfgmgiaaWC
set_option linter.unusedVariables false
set_option linter.unusedSectionVars false
namespace Go.V
open Go.Ab Go.RowKit

theorem BelowM.alloc {M : Nat → Prop} {a w : World} (h : BelowM M a w) (o : Obj) : BelowM M a (w.alloc o) :=
  h.trans ⟨rfl, rfl, rfl, by simp, fun k hk _ => Below.heap_alloc _ _ _ hk⟩
theorem BelowM.grown {M : Nat → Prop} {a w w' : World} {row : Option Nat} (h : BelowM M a w) (hg : w.grownBy w' row) (hr : ∀ k, row = some k → M k) : BelowM M a w' :=
  h.trans ⟨hg.os, hg.tape, hg.output, hg.size, fun k hk hm => hg.block k hk (fun e => hm (hr k e.symm))⟩

/-- What an operation has done, told without frames. -/
structure Rec (E : List Con) (o : Oper) (a : Act) (w : World) (a' : Act) (w' : World) : Prop where
  stays : writes E o.op = false → Stays w w'
  put : ∃ u, a' = a.put o.dst u ∧ (allocs o.op = true → ∀ ad n c, u = .slice (some ad) n c → w.heap.size ≤ ad.block)
  app : ∀ x, appBase o.op = some x → ∀ b, b < w.heap.size → (∀ ad n c, a.eval x = .slice (some ad) n c → b ≠ ad.block) → w'.heap[b]? = w.heap[b]?
  size : w.heap.size ≤ w'.heap.size
theorem rec_new {E : List Con} {o : Oper} {a : Act} {w w' : World} {d : Nat} {v : Value} (hdst : o.dst = some d) (hst : Stays w w') (hsz : w.heap.size ≤ w'.heap.size) (hna : appBase o.op = none) (hal : allocs o.op = true → ∀ ad n c, v = .slice (some ad) n c → w.heap.size ≤ ad.block) : Rec E o a w (a.put (some d) v) w' :=
  ⟨fun _ => hst, ⟨v, by rw [hdst], hal⟩, (fun x hx => by rw [hna] at hx; cases hx), hsz⟩
theorem rec_store {E : List Con} {o : Oper} {a : Act} {w w' : World} {t : TypeId} {p x : Operand} (hop : o.op = .store t p x) (hdst : o.dst = none) (hsz : w.heap.size ≤ w'.heap.size) : Rec E o a w a w' :=
  ⟨(fun hw => by rw [hop] at hw; cases hw), ⟨undef, by rw [hdst]; rfl, fun ha => by rw [hop] at ha; cases ha⟩, (fun x hx => by rw [hop] at hx; cases hx), hsz⟩
/-- The operation brings the frame to one that K takes. -/
def Goes {R : Type} (X : Ctx) (E : List Con) (o : Oper) (a : Act) (w : World) (f : F) (K : F → Option R) (r : R) : Prop :=
  ∃ g, K g = some r ∧ Ext f g ∧ ∀ (Kp : Act → World → Prop) (Q : Exit → Act → World → Prop), (∀ a' w', At X g a' w' → Rec E o a w a' w' → Kp a' w') → o.wp X.P a w Kp Q

section
variable {X : Ctx} {E : List Con} {f : F} {a : Act} {w : World} {o : Oper} {R : Type} {K : F → Option R} {r : R}

theorem At.hM (h : At X f a w) : X.M w.heap.size := X.hM _ h.2.1.size
theorem solid_sub {cs : List C} (h : cs.any C.isSub = false) : ∀ x ∈ cs, x.isSub = false := fun x hx => by simpa using List.any_eq_false.1 h x hx
theorem get_sub (hsf : f.subFree) {x : Operand} {s : S} (h : f.get x = some s) : s.isSub = false := by
  cases x with
  | tmp t => obtain ⟨n, hm⟩ := look_mem h; exact hsf.1 _ _ _ hm
  | const v =>
    simp only [F.get] at h
    unfold constS at h
    split at h
    · split at h
      · injection h with h; subst h; rfl
      · cases h
    · injection h with h; subst h; rfl
    · split at h
      · injection h with h; subst h; rfl
      · cases h
    · injection h with h; subst h; rfl
    · cases h
  | global g => cases h
  | func f => cases h
theorem cells_sub {y : A} (h : (S.val y).isSub = false) : ∀ x ∈ y.cells, x.isSub = false := by
  cases y with
  | one c => intro x hx; rw [List.mem_singleton.1 hx]; exact h
  | agg cs => exact solid_sub h

theorem zC_sub (v : Value) : (zC v).isSub = false := by
  unfold zC
  repeat' split
  all_goals rfl

theorem alloc_goes (h : At X f a w) (hsf : f.subFree) {t : TypeId} {d : Nat} {i : TypeInfo} {z : Value} (hop : o.op = .alloc t) (hdst : o.dst = some d) (hd : inFrame X.n o.dst = true) (hi : X.P.info? t = some i) (hz : i.zero = some z) (hp : pinned d = false)
    (hk : K (f.newOb d (.box ((z.cells.toList.map zC).map (scrubC d))) (.ptr d 0)) = some r) : Goes X E o a w f K r := by
  refine ⟨_, hk, Ext.newOb f d _ _, fun Kp Q hK => ?_⟩
  obtain ⟨⟨c, ow, hs, hpin⟩, hb, hn⟩ := id h
  have hlt : d < a.tmps.size := by rw [hn]; rw [hdst] at hd; exact inFrame_lt hd
  obtain ⟨ow', h1⟩ := newBox_sound hs hsf hlt t (zCs_sound (c := c) (ow := ow) (w := w) (ok := okB X.src c ow f.ob) z.cells.toList) (fun x hx => by obtain ⟨v, _, rfl⟩ := List.mem_map.1 hx; exact zC_sub v) h.hM
  unfold Oper.wp
  have hrun : (execOp a.eval o).run X.P w = .ok (.value (.pointer (some ⟨w.heap.size, 0, none⟩))) (w.alloc (.cells z.cells t (0, 0))) := by
    simp [execOp, hop, Instr.alloc, zeroValue, typeInfo, hi, hz, run_newVar]
  rw [hrun]
  simp only [Oper.upon, hdst]
  refine hK _ _ ⟨⟨_, ow', by simpa using h1, hpin.loc hp _⟩, hb.alloc _, by rw [size_put]; exact hn⟩ (rec_new hdst (fun b hb' => Below.heap_alloc _ _ _ hb') (by simp) (by rw [hop]; rfl) (fun ha => by rw [hop] at ha; cases ha))
theorem box_goes (h : At X f a w) (hsf : f.subFree) {t : TypeId} {x : Operand} {d : Nat} {y : A} (hop : o.op = .box t x) (hdst : o.dst = some d) (hd : inFrame X.n o.dst = true) (hx : f.get x = some (.val y)) (hsol : y.cells.all C.solid = true) (hp : pinned d = false)
    (hk : K (f.newOb d (.box (y.cells.map (scrubC d))) (.ptr d 0)) = some r) : Goes X E o a w f K r := by
  refine ⟨_, hk, Ext.newOb f d _ _, fun Kp Q hK => ?_⟩
  obtain ⟨⟨c, ow, hs, hpin⟩, hb, hn⟩ := id h
  have hlt : d < a.tmps.size := by rw [hn]; rw [hdst] at hd; exact inFrame_lt hd
  obtain ⟨vs, hvs, hall, _⟩ := solid_cells hs.rvs (hs.get hx) hsol
  obtain ⟨ow', h1⟩ := newBox_sound hs hsf hlt t hall (cells_sub (get_sub hsf hx)) h.hM
  unfold Oper.wp
  have hrun : (execOp a.eval o).run X.P w = .ok (.value (.pointer (some ⟨w.heap.size, 0, none⟩))) (w.alloc (.cells vs.toArray t (0, 0))) := by
    simp [execOp, hop, Instr.box, run_newVar, hvs]
  rw [hrun]
  simp only [Oper.upon, hdst]
  exact hK _ _ ⟨⟨_, ow', h1, hpin.loc hp _⟩, hb.alloc _, by rw [size_put]; exact hn⟩ (rec_new hdst (fun b hb' => Below.heap_alloc _ _ _ hb') (by simp) (by rw [hop]; rfl) (fun ha => by rw [hop] at ha; cases ha))

/-! ### a store -/
theorem mem_setOb {i : Nat} {x : O} {o' n : Nat} {y : O} (h : (o', n, y) ∈ (f.setOb i x).ob) : (o' ≠ i ∧ (o', n, y) ∈ f.ob) ∨ (o' = i ∧ y = x) := by
  simp only [F.setOb, List.mem_map] at h
  obtain ⟨⟨o1, m, z⟩, hz, he⟩ := h
  split at he
  · injection he with e1 he; injection he with _ e2; exact .inr ⟨e1.symm, e2.symm⟩
  · rename_i hne; injection he with e1 he; injection he with e2 e3; subst e1 e2 e3; exact .inl ⟨hne, hz⟩
theorem Ext.setOb (f : F) (i : Nat) (x : O) : Ext f (f.setOb i x) := by
  refine ⟨Nat.le_succ _, fun _ _ _ h _ => h, fun o n y hm hn => ?_⟩
  simp only [F.setOb, List.mem_map] at hm
  obtain ⟨⟨o1, m, z⟩, hz, he⟩ := hm
  split at he
  · injection he with _ he; injection he with e _; omega
  · rw [← he]; exact hz
/-- Object i turns, in its own blocks alone. -/
theorem SimC.turn {M src : Nat → Prop} {c : Cx} {ow ow' : Nat → Option Nat} (h : SimC M src c ow f a w) (hsf : f.subFree) {i n : Nat} {x y : O} {w' : World} (hx : (i, n, x) ∈ f.ob) (hs : w.heap.size ≤ w'.heap.size) (hb : ∀ b, b < w.heap.size → ¬ x.blk c ow i b → w'.heap[b]? = w.heap[b]?)
    (hbl : ∀ b, b < w.heap.size → y.blk c ow' i b → x.blk c ow i b) (how : ∀ b o, b < w.heap.size → o ≠ i → (∃ m z, (o, m, z) ∈ f.ob) → (ow' b = some o ↔ ow b = some o))
    (hy : ∀ ok', (∀ b, b < w.heap.size → okB src c ow f.ob b → ok' b) → (ok' = okB src c ow' (f.setOb i y).ob) → ObOk M c ow' w' ok' i y) : SimC M src c ow' (f.setOb i y) a w' := by
  have hl : ∀ b, b < w.heap.size → live c ow' (f.setOb i y).ob b → live c ow f.ob b := by
    rintro b hlt ⟨o, m, z, hm, hz⟩
    rcases mem_setOb hm with ⟨hne, hm⟩ | ⟨rfl, rfl⟩
    · refine ⟨o, m, z, hm, ?_⟩
      cases z with
      | box _ => exact hz
      | row _ _ _ _ _ => exact hz
      | win _ _ _ => exact (how b o hlt hne ⟨m, _, hm⟩).1 hz
    · exact ⟨o, n, x, hx, hbl b hlt hz⟩
  refine h.step hsf hs (fun b hlt hnl => hb b hlt fun hxb => hnl ⟨i, n, x, hx, hxb⟩) hl (fun o m z hm => ?_) (fun o m z m' z' hm hm' => ?_)
  · rcases mem_setOb hm with ⟨hne, hm⟩ | ⟨rfl, rfl⟩
    · exact .inl ⟨⟨m, hm⟩, fun b hlt hown hzb => hb b hlt fun hxb => hne (h.apart hm hx hzb hxb), fun b hlt hown => (how b o hlt hne ⟨m, z, hm⟩).2 hown⟩
    · exact .inr (hy _ (fun b hlt hok => ⟨hok.1, fun hl' => hok.2 (hl b hlt hl')⟩) rfl)
  · rcases mem_setOb hm with ⟨hne, hm⟩ | ⟨e1, rfl⟩
    · rcases mem_setOb hm' with ⟨_, hm'⟩ | ⟨e2, _⟩
      · exact h.uniq _ _ _ _ _ hm hm'
      · exact absurd e2 hne
    · rcases mem_setOb hm' with ⟨hne, _⟩ | ⟨_, rfl⟩
      · exact absurd e1 hne
      · rfl

theorem storeBox_goes (h : At X f a w) (hsf : f.subFree) {t : TypeId} {p x : Operand} {i off : Nat} {y : A} {inf : TypeInfo} {cs : List C} (hop : o.op = .store t p x) (hdst : o.dst = none) (hp : f.getC p = some (.ptr i off)) (hx : f.get x = some (.val y)) (hi : X.P.info? t = some inf) (hbx : f.obj i = some (.box cs))
    (c1 : y.cells.length = inf.size) (c2 : off + y.cells.length ≤ cs.length) (c3 : y.cells.all C.solid = true) (hk : K (f.setOb i (.box (sp cs off y.cells))) = some r) : Goes X E o a w f K r := by
  refine ⟨_, hk, Ext.setOb f i _, fun Kp Q hK => ?_⟩
  obtain ⟨⟨c, ow, hs, hpin⟩, hb, hn⟩ := id h
  have hpv : a.eval p = .pointer (some ⟨c.loc i, off, none⟩) := hs.getC hp
  obtain ⟨us, hvs, hall, hone⟩ := solid_cells hs.rvs (hs.get hx) c3
  obtain ⟨n, hmem⟩ := obj_mem hbx
  have hbxo : BoxOk X.M c ow w (okB X.src c ow f.ob) i cs := hs.ob _ _ _ hmem
  have hlt := hbxo.lt
  obtain ⟨b1, b2, vs, ty, hh, ha⟩ := hbxo
  have hlen : us.length = y.cells.length := hall.length
  have hvl : vs.length = cs.length := ha.length
  have hrun := run_storeCells_at (P := X.P) (c.loc i) off ty us 0 vs.toArray w hh (by simp; omega) hone
  simp only [Nat.add_zero] at hrun
  have hother : ∀ b, b ≠ c.loc i → (w.setRow (c.loc i) (vs.take off ++ us ++ vs.drop (off + us.length)).toArray).heap[b]? = w.heap[b]? := by
    intro b hne
    simp only [World.setRow, Array.getElem?_modify]
    rw [if_neg (Ne.symm hne)]
  have hsz : (w.setRow (c.loc i) (vs.take off ++ us ++ vs.drop (off + us.length)).toArray).heap.size = w.heap.size := by simp [World.setRow]
  have h1 := hs.turn hsf (ow' := ow) (y := .box (sp cs off y.cells)) (w' := w.setRow (c.loc i) (vs.take off ++ us ++ vs.drop (off + us.length)).toArray) hmem (by omega) (fun b hlt hnb => hother b fun e => hnb e.symm) (fun b _ hy => hy) (fun b o _ _ _ => Iff.rfl) (fun ok' hok' hokeq => by
    refine ⟨b1, b2, _, ty, setRow_heap w _ _ _ ty _ hh, ?_⟩
    have hal := ha.sp hall off
    unfold sp at hal ⊢
    have hsub1 := hsf.2 _ _ _ hmem
    have hsub2 := cells_sub (get_sub hsf hx)
    simp only [O.isSub, List.any_eq_false] at hsub1
    refine hal.mono fun u z hz hr => hr.keep ?_ ⟨by omega, fun b hlt' hok => hother b fun e => hok.2 ⟨i, n, _, hmem, e.symm⟩, hok'⟩
    rcases List.mem_append.1 hz with hz | hz
    · rcases List.mem_append.1 hz with hz | hz
      · simpa using hsub1 z (List.mem_of_mem_take hz)
      · exact hsub2 z hz
    · simpa using hsub1 z (List.mem_of_mem_drop hz))
  unfold Oper.wp
  have hlen' : us.length = inf.size := by omega
  have hrun' : (execOp a.eval o).run X.P w = .ok .skip (w.setRow (c.loc i) (vs.take off ++ us ++ vs.drop (off + us.length)).toArray) := by
    simp [execOp, hop, Instr.storeAt, hpv, Instr.sureAddr, storeVar, run_sizeOf hi, hvs, hlen', hrun]
  rw [hrun']
  simp only [Oper.upon, hdst]
  exact hK _ _ ⟨⟨c, ow, h1, hpin⟩, hb.trans ⟨rfl, rfl, rfl, by omega, fun k hk hm => hother k fun e => hm (e ▸ b1)⟩, hn⟩ (rec_store hop hdst (by omega))
end
end Go.V
