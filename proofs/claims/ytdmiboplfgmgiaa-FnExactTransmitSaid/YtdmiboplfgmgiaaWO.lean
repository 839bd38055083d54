/-
  Code and functions: the model does what their meaning says; a function meets its contract. Over any program. Conditions: the callees meet theirs.
-/
import Derived.Test.YtdmiboplfgmgiaaWN
set_option linter.unusedVariables false
set_option linter.unusedSectionVars false
namespace Go.V
open Go.Ab Go.RowKit

theorem loopM_some {σ R : Type} {step : σ → Option (σ ⊕ R)} {s : σ} {r : R} (h : loopM step s = some r) : ∃ n, iterM step n s = some r := by
  unfold loopM at h
  split at h
  · exact ⟨_, h⟩
  · cases h
theorem iterM_some {σ R : Type} {step : σ → Option (σ ⊕ R)} {n : Nat} {s : σ} {r : R} (h : iterM step n s = some r) : ∃ m y, n = m + 1 ∧ step s = some y ∧ (match y with | .inl s' => iterM step m s' = some r | .inr r' => r' = r) := by
  cases n with
  | zero => cases h
  | succ m =>
    obtain ⟨y, hy, h1⟩ := bind_some (show Option.bind (step s) (Sum.elim (iterM step m) some) = some r from h)
    refine ⟨m, y, rfl, hy, ?_⟩
    cases y with
    | inl s' => exact h1
    | inr r' => injection h1

/-- What a walk ends in. -/
def Ends {R : Type} (X : Ctx) (f : F) (K : Exit → F → Option R) (r : R) (e : Exit) (a : Act) (w : World) : Prop := ∃ g, K e g = some r ∧ Ext f g ∧ At X g a w
def EvOk (X : Ctx) (E : List Con) (cd : Code) : Prop := ∀ {R : Type} (pl : Plan) (f : F) (K : Exit → F → Option R) (r : R), ev X.P X.n E cd pl f K = some r → ∀ a w, At X f a w → cd.wp X.P (Ends X f K r) a w

section
variable {X : Ctx} {E : List Con}
theorem seq_ok {x y : Code} (hx : EvOk X E x) (hy : EvOk X E y) : EvOk X E (.seq x y) := by
  intro R pl f K r hv a w hat
  have plain : ∀ p q, ev X.P X.n E x p f (fun e g => match e with
      | .normal => ev X.P X.n E y q g K
      | e => K e g) = some r → (Code.seq x y).wp X.P (Ends X f K r) a w := by
    intro p q hv
    refine wp_seq (Code.wp_mono ?_ (hx p f _ r hv a w hat))
    rintro e a' w' ⟨g, h1, h2, h3⟩
    cases e with
    | normal =>
      refine Code.wp_mono ?_ (hy q g K r h1 a' w' h3)
      rintro e a'' w'' ⟨k, k1, k2, k3⟩
      exact ⟨k, k1, h2.trans k2, k3⟩
    | _ => exact ⟨g, h1, h2, h3⟩
  cases pl with
  | cut h p q =>
    rcases cond_some (show cond (f.wf && h.wf) _ _ = some r from hv) with ⟨hw, hv⟩ | ⟨_, hv⟩
    · simp only [Bool.and_eq_true] at hw
      obtain ⟨s, hs, hv⟩ := bind_some hv
      refine wp_seq (Code.wp_mono ?_ (hx p f _ s hs a w hat))
      rintro e a' w' ⟨g, h1, h2, h3⟩
      cases e with
      | normal =>
        obtain ⟨k, k1, k2, k3⟩ := fit_sound (X := X) h2 hw.1 hw.2 h1
        rw [k1] at hv
        refine Code.wp_mono ?_ (hy q k K r hv a' w' (k3 a' w' h3))
        rintro e a'' w'' ⟨k', l1, l2, l3⟩
        exact ⟨k', l1, k2.trans l2, l3⟩
      | _ => cases h1
    · cases hv
  | cutR h p q =>
    rcases cond_some (show cond (f.wf && h.wf) _ _ = some r from hv) with ⟨hw, hv⟩ | ⟨_, hv⟩
    · simp only [Bool.and_eq_true] at hw
      obtain ⟨s, hs, hv⟩ := bind_some hv
      refine wp_seq (Code.wp_mono ?_ (hx p f _ s hs a w hat))
      rintro e a' w' ⟨g, h1, h2, h3⟩
      have other : (K e g).map Sum.inr = some s → Ends X f K r e a' w' := by
        intro h1
        obtain ⟨y, hy, rfl⟩ := Option.map_eq_some_iff.1 h1
        injection hv with hv
        subst hv
        exact ⟨g, hy, h2, h3⟩
      cases e with
      | normal =>
        obtain ⟨y, hy', rfl⟩ := Option.map_eq_some_iff.1 h1
        obtain ⟨k, k1, k2, k3⟩ := fit_sound (X := X) h2 hw.1 hw.2 hy'
        have hv : kOpt (f.inj h y) (fun g => ev X.P X.n E _ q g K) = some r := hv
        rw [k1] at hv
        refine Code.wp_mono ?_ (hy q k K r hv a' w' (k3 a' w' h3))
        rintro e a'' w'' ⟨k', l1, l2, l3⟩
        exact ⟨k', l1, k2.trans l2, l3⟩
      | _ => exact other h1
    · cases hv
  | z => exact plain _ _ hv
  | seq _ _ => exact plain _ _ hv
  | cond _ _ => exact plain _ _ hv
  | block _ => exact plain _ _ hv
  | loop _ _ => exact plain _ _ hv

theorem loop_ok {x : Code} (hx : EvOk X E x) : EvOk X E (.loop x) := by
  intro R pl f K r hv a w hat
  cases pl with
  | loop h p =>
    rcases cond_some (show cond (f.wf && h.wf) _ _ = some r from hv) with ⟨hw, hv⟩ | ⟨_, hv⟩
    · simp only [Bool.and_eq_true] at hw
      obtain ⟨s0, hs0, hv⟩ := kOpt_some hv
      obtain ⟨n, hn⟩ := loopM_some hv
      obtain ⟨k0, q1, q2, q3⟩ := fit_sound (X := X) (.refl f) hw.1 hw.2 hs0
      refine wp_loop_ghost (fun k a w => ∃ s, iterM (fun s => kOpt (f.inj h s) fun g => ev X.P X.n E x (R := denV h.tys ⊕ R) p g fun e g' => match e with
        | .normal => (f.fit g' h).map Sum.inl
        | e => (K e g').map Sum.inr) k s = some r ∧ ∃ g, f.inj h s = some g ∧ Ext f g ∧ At X g a w) n ⟨s0, hn, k0, q1, q2, q3 a w hat⟩ ?_
      rintro k a w ⟨s, hs, g, hg, hext, hat⟩
      obtain ⟨m, y, rfl, hstep, hy⟩ := iterM_some hs
      rw [hg] at hstep
      refine Code.wp_mono ?_ (hx p g _ y hstep a w hat)
      rintro e a' w' ⟨g', h1, h2, h3⟩
      have other : (K e g').map Sum.inr = some y → Ends X f K r e a' w' := by
        intro h1
        obtain ⟨z, hz, rfl⟩ := Option.map_eq_some_iff.1 h1
        have hy : z = r := hy
        subst hy
        exact ⟨g', hz, hext.trans h2, h3⟩
      cases e with
      | normal =>
        obtain ⟨s', hs', rfl⟩ := Option.map_eq_some_iff.1 h1
        obtain ⟨k, k1, k2, k3⟩ := fit_sound (X := X) (hext.trans h2) hw.1 hw.2 hs'
        exact ⟨m, Nat.lt_succ_self m, s', hy, k, k1, k2, k3 a' w' h3⟩
      | _ => exact other h1
    · cases hv
  | _ => cases hv

theorem ev_ok (hE : ∀ c ∈ E, c.Ok X.P) (hm : X.P.follows .mixedOrders = true) : ∀ cd : Code, EvOk X E cd := by
  intro cd
  induction cd with
  | skip => intro R pl f K r hv a w hat; exact wp_skip ⟨f, hv, .refl _, hat⟩
  | ret => intro R pl f K r hv a w hat; exact wp_ret ⟨f, hv, .refl _, hat⟩
  | exit id => intro R pl f K r hv a w hat; exact wp_exit ⟨f, hv, .refl _, hat⟩
  | region id ops b =>
    intro R pl f K r hv a w hat
    cases b with
    | false => exact wp_region_list (ops_sound hE ops.toList f a w hat hv fun g a' w' h1 h2 h3 => ⟨g, h1, h2, h3⟩)
    | true =>
      rcases cond_some (show cond (Region.noSelect ops) _ _ = some r from hv) with ⟨hns, hv⟩ | ⟨_, hv⟩
      · have h1 : (Code.region id ops true).wp X.P (noPan (Ends X f K r)) a w :=
          wp_region_any hm (wpAny_of_R _ _ _ _ ((draw_sound hE hns _ _ _ f a _ ops.size (ordOf_depth _ _ _ _) hat.drew hv fun g a' w' h1 h2 h3 => ⟨g, h1, h2, h3⟩).1 rfl))
        refine Code.wp_mono (fun e a' w' hq => ?_) h1
        cases e with
        | panic c => exact hq.elim
        | _ => exact hq
      · cases hv
  | seq x y hx hy => exact seq_ok hx hy
  | cond c x y hx hy =>
    intro R pl f K r hv a w hat
    unfold ev at hv
    split at hv
    · rename_i b hc
      obtain ⟨⟨cx, ow, hs, hpin⟩, _, _⟩ := id hat
      have hb := RelC_bool (c := cx) (ow := ow) (hs.getC hc)
      refine wp_cond_split hb (fun hb1 => ?_) (fun hb1 => ?_)
      · subst hb1; exact hx _ f K r hv a w hat
      · subst hb1; exact hy _ f K r hv a w hat
    · cases hv
  | block id x hx =>
    intro R pl f K r hv a w hat
    refine wp_block (Code.wp_mono ?_ (hx pl.l f _ r hv a w hat))
    rintro e a' w' ⟨g, h1, h2, h3⟩
    cases e with
    | exit j =>
      simp only [Exit.inBlock] at h1 ⊢
      split
      · rename_i he; rw [if_pos he] at h1; exact ⟨g, h1, h2, h3⟩
      · rename_i he; rw [if_neg he] at h1; exact ⟨g, h1, h2, h3⟩
    | _ => exact ⟨g, h1, h2, h3⟩
  | loop x hx => exact loop_ok hx
  | _ => intro R pl f K r hv a w hat; cases hv
end

/-! ### functions -/
section
variable {M src : Nat → Prop} {c : Cx} {ow : Nat → Option Nat} {f : F} {a : Act} {w : World} {P : Program}
theorem resA1_sound (h : SimC M src c ow f a w) {r : ResultVar} {x : A} (hr : resA1 P f r = some x) :
    ∃ v, RelA c ow w (okB src c ow f.ob) v x ∧ (rvSem a.tmps r).run P w = .ok v w := by
  cases r with
  | tmp t =>
    simp only [resA1] at hr
    split at hr
    · rename_i x' hl
      injection hr with hr
      subst hr
      obtain ⟨n, hm⟩ := look_mem hl
      obtain ⟨v, hv, h1⟩ := h.fr t _ _ hm
      exact ⟨v, h1, by simp [rvSem, Array.getD_eq_getD_getElem?, hv]⟩
    · cases hr
  | cell t ty =>
    simp only [resA1] at hr
    split at hr
    · rename_i i off hl
      split at hr
      · rename_i cs hb
        obtain ⟨n, hm⟩ := look_mem hl
        obtain ⟨u, hu, h1⟩ := h.fr t _ _ hm
        have hu' : u = .pointer (some ⟨c.loc i, off, none⟩) := h1
        subst hu'
        have hbx : BoxOk M c ow w (okB src c ow f.ob) i cs := h.obj hb
        obtain ⟨_, _, vs, tt, hh, ha⟩ := hbx
        obtain ⟨v, hr', hl'⟩ := rdC_sound hr ha
        have h2 := hl' w (c.loc i) 0 (cells_of_block hh)
        rw [Nat.zero_add] at h2
        refine ⟨v, hr', ?_⟩
        simp [rvSem, Array.getD_eq_getD_getElem?, hu, asAddr, h2]
      · cases hr
    · cases hr
theorem resVs_sound (h : SimC M src c ow f a w) : ∀ {rs : List ResultVar} {i : Nat} {xs : List (Nat × Nat × S)}, resVs P f i rs = some xs → ∃ vs : List Value, vs.length = rs.length ∧ (∀ s n x, (s, n, x) ∈ xs → ∃ j v, s = i + j ∧ vs[j]? = some v ∧ RelS c ow w (okB src c ow f.ob) v x) ∧
    (rs.mapM (rvSem a.tmps)).run P w = .ok vs w := by
  intro rs
  induction rs with
  | nil => intro i xs hr; injection hr with hr; subst hr; exact ⟨[], rfl, (fun _ _ _ hm => by cases hm), rfl⟩
  | cons r rs ih =>
    intro i xs hr
    unfold resVs at hr
    split at hr
    · rename_i x xs' h1 h2
      injection hr with hr
      subst hr
      obtain ⟨v, g1, g2⟩ := resA1_sound (P := P) h h1
      obtain ⟨vs, g0, g3, g4⟩ := ih h2
      refine ⟨v :: vs, by simp [g0], fun s n y hm => ?_, ?_⟩
      · rcases List.mem_cons.1 hm with he | hm
        · injection he with e1 he
          injection he with e2 e3
          subst e1 e3
          exact ⟨0, v, rfl, rfl, g1⟩
        · obtain ⟨j, u, q1, q2, q3⟩ := g3 s n y hm
          exact ⟨j + 1, u, by omega, by simpa using q2, q3⟩
      · simp only [List.mapM_cons, Sem.run_bind, g2, Result.andThen_ok, g4]
        rfl
    · cases hr
theorem results_sound (h : SimC M src c ow f a w) {fn : Func} {xs : List (Nat × Nat × S)} (hr : resVs P f 0 fn.results.toList = some xs) : ∃ v vs, (results fn a.tmps).run P w = .ok v w ∧ ResIs v vs ∧ vs.length = fn.results.size ∧ ∀ s n x, (s, n, x) ∈ xs → ∃ v, vs[s]? = some v ∧ RelS c ow w (okB src c ow f.ob) v x := by
  obtain ⟨vs, h0, h1, h2⟩ := resVs_sound (P := P) h hr
  have he : fn.results = fn.results.toList.toArray := by simp
  have h3 : (results fn a.tmps).run P w = .ok (if h : vs.toArray.size = 1 then vs.toArray[0] else .tuple vs.toArray) w := by
    rw [results_eq, he, List.mapM_toArray]
    simp only [Sem.run_bind, map_eq_pure_bind, bind_assoc, pure_bind, h2, Result.andThen_ok]
    rfl
  refine ⟨_, vs, h3, ?_, by simpa using h0, fun s n x hm => ?_⟩
  · match vs with
    | [] => rfl
    | [v] => rfl
    | v :: u :: r => simp [ResIs]
  · obtain ⟨j, v, q1, q2, q3⟩ := h1 s n x hm
    rw [Nat.zero_add] at q1
    subst q1
    exact ⟨v, q2, q3⟩
theorem injFr_len : ∀ {f : F} {hs : List (Nat × ST)} {xs ys : List TV} {fr : List (Nat × Nat × S)}, injFr f hs xs = some (fr, ys) → fr.length = hs.length
  | f, [], xs, ys, fr, h => by injection h with h; injection h with h _; subst h; rfl
  | f, (s, .keep) :: hs, xs, ys, fr, h => by
    simp only [injFr] at h
    split at h
    · split at h
      · rename_i hr; injection h with h; injection h with h _; subst h; simp [injFr_len hr]
      · cases h
    · cases h
  | f, (s, .one c) :: hs, xs, ys, fr, h => by
    simp only [injFr] at h
    split at h
    · split at h
      · rename_i hr; injection h with h; injection h with h _; subst h; simp [injFr_len hr]
      · cases h
    · cases h
  | f, (s, .agg cs) :: hs, xs, ys, fr, h => by
    simp only [injFr] at h
    split at h
    · split at h
      · rename_i hr; injection h with h; injection h with h _; subst h; simp [injFr_len hr]
      · cases h
    · cases h
theorem inj_len {h : Sh} {x : denV h.tys} {p : F} (hp : f.inj h x = some p) : p.fr.length = h.fr.length := by
  unfold F.inj at hp
  split at hp
  · rename_i fr xs hfr
    split at hp
    · injection hp with hp; subst hp; exact injFr_len hfr
    · cases hp
  · cases hp
end

/-- A function whose meaning is c.sem meets its contract. -/
theorem fn_ok {P : Program} {E : List Con} {c : Con} {fn : Func} {pl : Plan} (hf : P.funcs[c.f]? = some fn) (hn : (fn.name == "runtime.NumGoroutine") = false) (hm : P.follows .mixedOrders = true) (hE : ∀ e ∈ E, e.Ok P)
    (hsem : ∀ x y, c.sem x = some y → evFn P E fn pl c.pre c.post x = some y) : c.Ok P := by
  intro x y f g hx hfx hgy
  have hv := hsem x y hx
  unfold evFn at hv
  split at hv
  · rename_i cd hb
    rcases cond_some hv with ⟨hcd, hv⟩ | ⟨_, hv⟩
    · simp only [Bool.and_eq_true] at hcd
      obtain ⟨hw, hl, hnt⟩ := hcd
      have hl : c.post.fr.length = fn.results.size := Nat.eq_of_beq_eq_true hl
      have hnt : c.pre.fr.length ≤ fn.ntmps := Nat.le_of_ble_eq_true hnt
      obtain ⟨f', hf', hv⟩ := kOpt_some hv
      rw [hfx] at hf'
      injection hf' with hf'
      subst hf'
      refine ⟨enters_of hf hn (by rw [hb]; rfl), fun w M src cx ow vs hM hsrc hs hvl => ?_⟩
      refine calls_of_wp hf hb ?_
      let X : Ctx := ⟨P, fn.ntmps, w, M, src, cx, hM, hsrc⟩
      have hvl' : vs.length ≤ fn.ntmps := by rw [hvl, inj_len hfx]; exact hnt
      have hat : At X f { tmps := vs.toArray ++ Array.replicate (fn.ntmps - vs.toArray.size) undef, defers := [] } w := by
        refine ⟨⟨cx, ow, ⟨rfl, fun s n x hm => ?_, hs.ob, hs.uniq, hs.rvs⟩, fun o _ => ⟨rfl, rfl⟩⟩, BelowM.refl _ _, by simp; show _ = fn.ntmps; omega⟩
        obtain ⟨v, hv', h1⟩ := hs.fr s n x hm
        have hv' : vs[s]? = some v := by simpa [actL] using hv'
        have hlt : s < vs.length := (List.getElem?_eq_some_iff.1 hv').1
        exact ⟨v, by rw [Array.getElem?_append_left (by simpa using hlt)]; simpa using hv', h1⟩
      refine Code.wp_mono ?_ (ev_ok (X := X) hE hm cd pl f _ y hv _ w hat)
      rintro e a w' ⟨g', h1, h2, ⟨c1, ow1, hs1, hpin1⟩, hb1, hn1⟩
      have fin : (kOpt (resVs P g' 0 fn.results.toList) fun rs => F0.fit ⟨g'.ctr + 1, rs, g'.ob⟩ c.post) = some y → a.defers = [] ∧ ∃ v, (results fn a.tmps).run P w' = .ok v w' ∧
          ∃ v' us c' ow', Ending.returned v = .returned v' ∧ ResIs v' us ∧ BelowM M w w' ∧ SimC M src c' ow' g (actL us) w' ∧ us.length = g.fr.length ∧ ∀ o, pinned o = true → c'.loc o = cx.loc o ∧ c'.rv o = cx.rv o := by
        intro h1
        obtain ⟨rs, hrs, h1⟩ := kOpt_some h1
        obtain ⟨v, us, r1, r2, r3, r4⟩ := results_sound (P := P) hs1 hrs
        let X' : Ctx := ⟨P, us.length, w, M, src, cx, hM, hsrc⟩
        have hat' : At X' ⟨g'.ctr + 1, rs, g'.ob⟩ (actL us) w' := by
          refine ⟨⟨c1, ow1, ⟨rfl, fun s n x hm => ?_, hs1.ob, hs1.uniq, hs1.rvs⟩, hpin1⟩, hb1, by simp [actL]; rfl⟩
          obtain ⟨u, q1, q2⟩ := r4 s n x hm
          exact ⟨u, by simpa [actL] using q1, q2⟩
        obtain ⟨k, k1, k2, k3⟩ := fit_sound (X := X') (f := F0) (g := ⟨g'.ctr + 1, rs, g'.ob⟩) ⟨Nat.zero_le _, fun _ _ _ _ hlt => absurd hlt (Nat.not_lt_zero _), fun _ _ _ _ hlt => absurd hlt (Nat.not_lt_zero _)⟩ rfl hw h1
        rw [hgy] at k1
        injection k1 with k1
        subst k1
        obtain ⟨⟨c2, ow2, hs2, hpin2⟩, hb2, hn2⟩ := k3 _ _ hat'
        exact ⟨hs1.defers, v, r1, v, us, c2, ow2, rfl, r2, hb2, hs2, by rw [inj_len hgy, hl, r3], hpin2⟩
      cases e with
      | ret => exact fin h1
      | normal => exact fin h1
      | _ => cases h1
    · cases hv
  · cases hv
def AllOk (P : Program) : List Con → Prop
  | [] => True
  | c :: cs => c.Ok P ∧ AllOk P cs
theorem AllOk.mem {P : Program} : ∀ {E : List Con}, AllOk P E → ∀ e ∈ E, e.Ok P
  | [], _, e, he => by cases he
  | c :: cs, h, e, he => by
    rcases List.mem_cons.1 he with rfl | he
    · exact h.1
    · exact AllOk.mem h.2 e he
end Go.V
