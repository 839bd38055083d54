/-
  A call by its contract: the model does what the call's meaning says. Over any program. Conditions: the callee meets its contract.
-/
import Derived.Test.YtdmiboplfgmgiaaWJ3
set_option linter.unusedVariables false
set_option linter.unusedSectionVars false
namespace Go.V
open Go.Ab Go.RowKit

section
variable {M src : Nat → Prop} {c : Cx} {ow : Nat → Option Nat} {f : F} {a : Act} {w : World}

theorem ArgsR.mem {i : Nat} {fr : List (Nat × Nat × S)} {xs : List Operand} (h : ArgsR f i fr xs) : ∀ e ∈ fr, ∃ j x d y, e.1 = i + j ∧ xs[j]? = some x ∧ f.get x = some (.val y) ∧ e.2.2 = .val d ∧ ArgA f d y := by
  induction h with
  | nil => intro e he; cases he
  | cons hx ha hs ih =>
    intro e he
    rcases List.mem_cons.1 he with rfl | he
    · exact ⟨0, _, _, _, rfl, rfl, hx, rfl, ha⟩
    · obtain ⟨j, x, d, y, h1, h2, h3⟩ := ih e he
      exact ⟨j + 1, x, d, y, by omega, by simpa using h2, h3⟩
theorem ArgsR.length {i : Nat} {fr : List (Nat × Nat × S)} {xs : List Operand} (h : ArgsR f i fr xs) : fr.length = xs.length := by
  induction h with
  | nil => rfl
  | cons _ _ _ ih => simp [ih]

theorem rowsIn_mem {x : A} {r : Nat} (h : C.row r ∈ x.cells) : r ∈ rowsIn (.val x) := by
  simp only [rowsIn, List.mem_flatMap]
  exact ⟨_, h, by simp⟩
theorem rowsOf_mem {xs : List Operand} {x : Operand} {s : S} {r : Nat} (hx : x ∈ xs) (hg : f.get x = some s) (hr : r ∈ rowsIn s) : r ∈ rowsOf f xs := by
  simp only [rowsOf, List.mem_flatMap]
  exact ⟨x, hx, by rw [hg]; exact hr⟩

theorem args_sim (h : SimC M src c ow f a w) (hsf : f.subFree) {fr : List (Nat × Nat × S)} {xs : List Operand} (ha : ArgsR f 0 fr xs) {sl : Bool} (hsl : ¬ (sl = true ∧ (rowsOf f xs).isEmpty = false)) :
    SimC (fun b => w.heap.size ≤ b) (fun b => w.heap.size ≤ b ∨ okB src c ow f.ob b ∨ sl = false) c (fun _ => none) ⟨1, fr, []⟩ (actL (xs.map a.eval)) w := by
  have hlive : ∀ b, ¬ live c (fun _ => none) [] b := fun b ⟨_, _, _, hm, _⟩ => by cases hm
  have hC : ∀ (v : Value) (d x : C), ArgC f d x → RelC c ow w (okB src c ow f.ob) v x → (sl = true → ∀ r, x ≠ .row r) → x.isSub = false → RelC c (fun _ => none) w (okB (fun b => w.heap.size ≤ b ∨ okB src c ow f.ob b ∨ sl = false) c (fun _ => none) []) v d := by
    rintro v d x ⟨t, y, rfl, hd⟩ hr hrow hsub
    cases hs : sl with
    | false =>
      obtain ⟨G, g1, _⟩ := data_sound h hd hr
      exact ⟨G, g1, fun b _ => ⟨.inr (.inr rfl), hlive b⟩⟩
    | true =>
      obtain ⟨G, g1, g2⟩ := data_ok h hd hr (hrow hs) hsub
      exact ⟨G, g1, fun b hb => ⟨.inr (.inl (g2 b hb)), hlive b⟩⟩
  refine ⟨rfl, fun s n x hm => ?_, fun o n x hm => (by cases hm), fun o n x m y hm => (by cases hm), h.rvs⟩
  obtain ⟨j, op, d, y, h1, h2, h3, h4, h5⟩ := ha.mem _ hm
  simp only [Nat.zero_add] at h1
  have h4 : x = .val d := h4
  subst h1 h4
  have hr : RelA c ow w (okB src c ow f.ob) (a.eval op) y := h.get h3
  have hsub := cells_sub (get_sub hsf h3)
  have hrow : sl = true → ∀ z ∈ y.cells, ∀ r, z ≠ .row r := by
    rintro hs z hz r rfl
    refine hsl ⟨hs, ?_⟩
    have := rowsOf_mem (List.mem_of_getElem? h2) h3 (rowsIn_mem hz)
    cases hl : rowsOf f xs with
    | nil => rw [hl] at this; cases this
    | cons _ _ => rfl
  refine ⟨a.eval op, by simp [actL, h2], ?_⟩
  cases d with
  | one d =>
    cases y with
    | one x => exact hC _ _ _ h5 hr (fun hs => hrow hs x (List.mem_singleton.2 rfl)) (hsub x (List.mem_singleton.2 rfl))
    | agg _ => cases h5
  | agg ds =>
    cases y with
    | one x => cases h5
    | agg zs =>
      obtain ⟨vs, hvs, hall⟩ := hr
      refine ⟨vs, hvs, ?_⟩
      have key : ∀ {vs : List Value} {ds zs : List C}, All2 (RelC c ow w (okB src c ow f.ob)) vs zs → All2 (ArgC f) ds zs → (∀ z ∈ zs, z.isSub = false ∧ (sl = true → ∀ r, z ≠ .row r)) → All2 (RelC c (fun _ => none) w (okB (fun b => w.heap.size ≤ b ∨ okB src c ow f.ob b ∨ sl = false) c (fun _ => none) [])) vs ds := by
        intro vs ds zs hv
        induction hv generalizing ds with
        | nil => intro hd _; cases hd; exact .nil
        | cons h1 h2 ih =>
          intro hd hz
          cases hd with
          | cons k1 k2 => exact .cons (hC _ _ _ k1 h1 (hz _ (List.mem_cons_self ..)).2 (hz _ (List.mem_cons_self ..)).1) (ih k2 fun z hz' => hz z (List.mem_cons_of_mem _ hz'))
      exact key hall h5 fun z hz => ⟨hsub z hz, fun hs => hrow hs z hz⟩

theorem F0_inj {h : Sh} {x : denV h.tys} {fr : List (Nat × Nat × S)} {p : F} (hob : h.ob = []) (hfr : injFr F0 h.fr (toTVs h.tys x) = some (fr, [])) (hp : F0.inj h x = some p) : p = ⟨1, fr, []⟩ := by
  unfold F.inj at hp
  rw [hfr] at hp
  simp only [hob, injOb] at hp
  injection hp with hp
  exact hp.symm
end

section
variable {X : Ctx} {E : List Con} {f : F} {a : Act} {w : World} {o : Oper} {R : Type} {K : F → Option R} {r : R}
theorem All2.map_right2 {α β γ : Type} {R : α → β → Prop} {S : α → γ → Prop} {g : β → γ} {as : List α} {bs : List β} (h : All2 R as bs) (hf : ∀ a b, b ∈ bs → R a b → S a (g b)) : All2 S as (bs.map g) := by
  induction h with
  | nil => exact .nil
  | cons h hs ih => exact .cons (hf _ _ (List.mem_cons_self ..) h) (ih fun a b hb => hf a b (List.mem_cons_of_mem _ hb))

theorem call1_goes (h : At X f a w) (hsf : f.subFree) {c : Con} (hc : c.Ok X.P) (hob : c.pre.ob = []) {cl : Call} (hop : o.op = .call cl) (hcal : cl.callee = .value (.func c.f)) (hd : inFrame X.n o.dst = true) (hv : evCall1 c f o.dst cl.args.toList K = some r) : Goes X E o a w f K r := by
  unfold evCall1 at hv
  split at hv
  · rename_i d hdst
    split at hv
    · cases hv
    · rename_i hsl
      split at hv
      · rename_i tvs hargs
        obtain ⟨x0, hx0, hv⟩ := kOpt_some hv
        obtain ⟨p0, hp0, hv⟩ := kOpt_some hv
        obtain ⟨y0, hy0, hv⟩ := bind_some hv
        obtain ⟨p, hp, hv⟩ := kOpt_some hv
        rcases cond_some hv with ⟨hpost, hv⟩ | ⟨_, hv⟩
        · refine ⟨_, hv, (Ext.adopt p.ob f).trans (Ext.put _ _ _), fun Kp Q hK => ?_⟩
          obtain ⟨⟨cx, ow, hs, hpin⟩, hb, hn⟩ := id h
          have hs := hs.trim
          obtain ⟨fr, hfr, hargR⟩ := args_inj hargs []
          rw [List.append_nil, ← ofTVs_to hx0] at hfr
          have hp0 := F0_inj hob hfr hp0
          subst hp0
          have hmeet := hc x0 y0 _ p hy0 (by assumption) hp
          obtain ⟨hent, hmeet⟩ := hmeet
          have hcall := hmeet w (fun b => w.heap.size ≤ b) _ _ _ (cl.args.toList.map a.eval) (fun b hb => hb) (fun b hb => .inl hb) (args_sim hs hsf hargR hsl) (by simp [hargR.length])
          unfold Oper.wp
          rw [exec_call hop hcal hent w]
          simp only [Oper.upon]
          have hargs' : cl.args.map a.eval = (cl.args.toList.map a.eval).toArray := by rw [← Array.toList_map, Array.toArray_toList]
          rw [hargs']
          refine hcall.mono fun e w' he => ?_
          obtain ⟨v, us, c', ow', rfl, hres, hbel, hsim, hlen, _⟩ := he
          have hblk : ∀ b, b < w.heap.size → w'.heap[b]? = w.heap[b]? := fun b hb => hbel.block b hb (by omega)
          obtain ⟨c'', ow'', hsim'', hpin'', hrel⟩ := join_sound (f := f) (d := d) (sl := c.post.fr.any (·.2.isSl)) (win := c.win) hs hsf (fun b hb => if_neg (by omega)) hsim (fun b hb' => ⟨hb', X.hM b (Nat.le_trans hb.size hb'), X.hsrc b (X.hM b (Nat.le_trans hb.size hb'))⟩) hbel.size hblk hpost (fun hs' b hb' => by
            rcases Nat.lt_or_ge b w.heap.size with hlt | hge
            · rcases hb' with h1 | h1 | h1
              · omega
              · exact .inr ⟨hlt, h1⟩
              · rw [hs'] at h1; cases h1
            · exact .inl ⟨hge, X.hsrc b (X.hM b (Nat.le_trans hb.size hge))⟩)
          obtain ⟨q1, q2, q3, q4, q5⟩ := okPost_iff hpost
          obtain ⟨r1, r2⟩ := results_all (sl := c.post.fr.any (·.2.isSl)) (ids := p.ob.map (·.1)) hsim hlen q1 q4
          have hat : At X (adopt d c.win f p.ob) a w' := ⟨⟨c'', ow'', hsim'', fun o' ho' => ⟨(hpin'' o' ho').1.trans (hpin o' ho').1, (hpin'' o' ho').2.trans (hpin o' ho').2⟩⟩, hb.trans ⟨hbel.os, hbel.tape, hbel.output, hbel.size, fun k hk _ => hblk k hk⟩, hn⟩
          have hall : All2 (RelA c'' ow'' w' (okB X.src c'' ow'' (adopt d c.win f p.ob).ob)) us ((resAs p.fr).map (shA (callId d))) := r1.map_right2 fun u x hx hr => hrel u x (r2 x hx) hr
          rw [hdst]
          refine hK _ _ (hat.put hsim'' (fun o' ho' => ⟨(hpin'' o' ho').1.trans (hpin o' ho').1, (hpin'' o' ho').2.trans (hpin o' ho').2⟩) (by rw [← hdst]; exact hd) (RelS_res hres hall)) ⟨fun _ => hblk, ⟨v, by rw [hdst], fun ha => by rw [hop] at ha; cases ha⟩, (fun x hx => by rw [hop] at hx; simp [appBase, hcal] at hx), hbel.size⟩
        · cases hv
      · cases hv
  · cases hv

theorem isVal_allocs {op : Op} (h : isVal op = true) : allocs op = false := by cases op <;> first | rfl | cases h
theorem isVal_app {op : Op} (h : isVal op = true) : appBase op = none := by
  cases op with
  | call cl =>
    simp only [isVal] at h
    simp only [appBase]
    split
    · rename_i hc _; rw [hc] at h; cases h
    · rfl
  | _ => rfl
theorem At.noSubs (h : At X f a w) : At X f.noSubs a w := by
  obtain ⟨⟨cx, ow, hs, hpin⟩, hb, hn⟩ := h
  exact ⟨⟨cx, ow, hs.noSubs, hpin⟩, hb, hn⟩
theorem At.frzAll (h : At X f a w) (ids : List Nat) : At X (f.frzAll ids) a w := by
  obtain ⟨⟨cx, ow, hs, hpin⟩, hb, hn⟩ := h
  exact ⟨⟨cx, ow, hs.frzAll X.hsrc ids, hpin⟩, hb, hn⟩
theorem Goes.ext {f g : F} (h : Goes X E o a w g K r) (he : Ext f g) : Goes X E o a w f K r := by
  obtain ⟨k, h1, h2, h3⟩ := h
  exact ⟨k, h1, he.trans h2, h3⟩
theorem conOf_some {E : List Con} {g : FuncId} {c : Con} (h : conOf E g = some c) : c ∈ E ∧ c.f = g := by
  unfold conOf at h
  exact ⟨List.mem_of_find?_eq_some h, by simpa using List.find?_some h⟩
theorem call_goes (h : At X f a w) (hE : ∀ c ∈ E, c.Ok X.P) {cl : Call} (hop : o.op = .call cl) (hd : inFrame X.n o.dst = true) (hv : evCall E f o.dst cl K = some r) : Goes X E o a w f K r := by
  unfold evCall at hv
  split at hv
  · rename_i g hcal
    split at hv
    · rename_i c hcon
      obtain ⟨hmem, rfl⟩ := conOf_some hcon
      split at hv
      · rename_i hob
        split at hv
        · exact (call1_goes (h.noSubs.frzAll _) (subFree_frzAll (subFree_noSubs f) _) (hE c hmem) hob hop hcal hd hv).ext ((Ext.noSubs f).trans (Ext.frzAll _ _))
        · exact (call1_goes h.noSubs (subFree_noSubs f) (hE c hmem) hob hop hcal hd hv).ext (Ext.noSubs f)
      · rename_i hob
        exact callW_goes h (hE c hmem) hop hcal hd (by
          rw [hop]
          simp only [writes, hcal, hcon]
          cases hb : c.pre.ob with
          | nil => exact absurd hb hob
          | cons _ _ => rfl) hv
    · cases hv
  · cases hv

theorem any_goes (h : At X f a w) (hE : ∀ c ∈ E, c.Ok X.P) (hd : inFrame X.n o.dst = true) (hv : evAny X.P E f o K = some r) : Goes X E o a w f K r := by
  unfold evAny at hv
  rcases cond_some hv with ⟨hval, hv⟩ | ⟨_, hv⟩
  · obtain ⟨⟨cx, ow, hs, hpin⟩, hb, hn⟩ := id h
    obtain ⟨s, ⟨v, hrel, hg⟩, hk⟩ := evVal_sound hs hv
    refine ⟨_, hk, Ext.put _ _ _, fun Kp Q hK => ?_⟩
    unfold Oper.wp
    rw [hg w (fun _ _ => rfl)]
    exact hK _ _ (h.put hs hpin hd hrel) ⟨fun _ _ _ => rfl, ⟨v, rfl, fun ha => by rw [isVal_allocs hval] at ha; cases ha⟩, (fun x hx => by rw [isVal_app hval] at hx; cases hx), Nat.le_refl _⟩
  · split at hv
    · rename_i cl hop
      split at hv
      · exact (evMem_sound h.noSubs (subFree_noSubs f) hd hv).ext (Ext.noSubs f)
      · exact call_goes h hE hop hd hv
    · exact (evMem_sound h.noSubs (subFree_noSubs f) hd hv).ext (Ext.noSubs f)
end
end Go.V
