/-
  A call of a callee that writes into windows: the model does what the call's meaning says. Over any program. Conditions: the callee meets its contract.
-/
import Derived.Test.YtdmiboplfgmgiaaWJ2
set_option linter.unusedVariables false
set_option linter.unusedSectionVars false
namespace Go.V
open Go.Ab Go.RowKit

inductive InfoR (M : Nat → Prop) (c : Cx) (ow : Nat → Option Nat) (f : F) (w : World) (ok : Nat → Prop) : List (Nat × OT) → List (Nat × C) → List Tgt → List (Nat × Value × List Nat) → Prop
  | nil : InfoR M c ow f w ok [] [] [] []
  | cons {p k : Nat} {t : Ty} {y : C} {x : Tgt} {v : Value} {G : List Nat} {hs : List (Nat × OT)} {cs : List (Nat × C)} {xs : List Tgt} {is : List (Nat × Value × List Nat)} (h : TgtOk M c ow f w k t x v G) (hv : ∀ v', RelC c ow w ok v' y → v' = v) (hs' : InfoR M c ow f w ok hs cs xs is) : InfoR M c ow f w ok ((p, .win k t) :: hs) ((p, y) :: cs) (x :: xs) ((p, v, G) :: is)

section
variable {M src : Nat → Prop} {c : Cx} {ow : Nat → Option Nat} {f : F} {a : Act} {w : World} {ok : Nat → Prop}
theorem info_of (h : SimC M src c ow f a w) {hs : List (Nat × OT)} {ps : List (Nat × C)} {ts : List Tgt} (ht : TgtsR f hs ps ts) (hp : ∀ e ∈ ps, ∃ v, RelC c ow w (okB src c ow f.ob) v e.2) : ∃ is, InfoR M c ow f w (okB src c ow f.ob) hs ps ts is := by
  induction ht with
  | nil => exact ⟨[], .nil⟩
  | cons h1 _ ih =>
    obtain ⟨is, h2⟩ := ih fun e he => hp e (List.mem_cons_of_mem _ he)
    obtain ⟨v, hv⟩ := hp _ (List.mem_cons_self ..)
    obtain ⟨G, hG⟩ := tgt_ok h h1 hv
    exact ⟨_, .cons hG (fun v' hv' => tgt_val h1 hv' hv) h2⟩
variable {hs : List (Nat × OT)} {ps : List (Nat × C)} {ts : List Tgt} {is : List (Nat × Value × List Nat)}
theorem InfoR.ids (h : InfoR M c ow f w ok hs ps ts is) : is.map (·.1) = ps.map (·.1) := by
  induction h with
  | nil => rfl
  | cons _ _ _ ih => simp [ih]
theorem InfoR.root (h : InfoR M c ow f w ok hs ps ts is) : ∀ e ∈ is, ∃ x, x ∈ ts ∧ ∀ b ∈ e.2.2, M b ∧ ow b = some x.root ∧ Unf w b := by
  induction h with
  | nil => intro e he; cases he
  | cons h _ _ ih =>
    intro e he
    rcases List.mem_cons.1 he with rfl | he
    · exact ⟨_, List.mem_cons_self .., h.own⟩
    · obtain ⟨x, h1, h2⟩ := ih e he
      exact ⟨x, List.mem_cons_of_mem _ h1, h2⟩
theorem InfoR.val (h : InfoR M c ow f w ok hs ps ts is) : ∀ e ∈ ps, ∃ i ∈ is, i.1 = e.1 ∧ ∀ v, RelC c ow w ok v e.2 → v = i.2.1 := by
  induction h with
  | nil => intro e he; cases he
  | cons h hv _ ih =>
    intro e he
    rcases List.mem_cons.1 he with rfl | he
    · exact ⟨_, List.mem_cons_self .., rfl, hv⟩
    · obtain ⟨i, h1, h2⟩ := ih e he
      exact ⟨i, List.mem_cons_of_mem _ h1, h2⟩
theorem InfoR.sl (h : InfoR M c ow f w ok hs ps ts is) : ∀ e ∈ is, ∃ ad n k, e.2.1 = .slice ad n k := by
  induction h with
  | nil => intro e he; cases he
  | cons h hv _ ih =>
    intro e he
    rcases List.mem_cons.1 he with rfl | he
    · obtain ⟨l, _, hr⟩ := h.tv
      obtain ⟨ad, cap, hx, _⟩ := Rep.len hr
      exact ⟨ad, _, cap, hx⟩
    · exact ih e he
theorem InfoR.obs (h : InfoR M c ow f w ok hs ps ts is) (rest : List TV) : ∃ ob, injOb F0 hs (ts.map Tgt.tv ++ rest) = some (ob, rest) ∧ ob.map (·.1) = ps.map (·.1) ∧ ∀ e ∈ ob, ∃ k t, ∃ l : List (den t), ∃ i ∈ is, i.1 = e.1 ∧ e.2.2 = .win k t l ∧ 0 < k ∧ tyLen t = k ∧ Rep w i.2.1 (leafT (.sl t) l) i.2.2 ∧ i.2.2.Nodup := by
  induction h with
  | nil => exact ⟨[], rfl, rfl, fun e he => by cases he⟩
  | @cons p k t y x v G hs cs xs is h hv _ ih =>
    obtain ⟨ob, h1, h2, h3⟩ := ih
    obtain ⟨l, hl, hr⟩ := h.tv
    refine ⟨(p, 0, .win k t l) :: ob, ?_, by simp [h2], fun e he => ?_⟩
    · rw [List.map_cons, hl]
      show (match castTy (.sl t) (.sl t) l, injOb F0 hs (xs.map Tgt.tv ++ rest) with
        | some l, some (r, zs) => some ((p, F0.ctr, O.win k t l) :: r, zs)
        | _, _ => none) = _
      rw [castTy_self, h1]
      rfl
    · rcases List.mem_cons.1 he with rfl | he
      · exact ⟨k, t, l, _, List.mem_cons_self .., rfl, rfl, h.kt.1, h.kt.2, hr, h.nodup⟩
      · obtain ⟨k, t, l, i, k1, k2⟩ := h3 e he
        exact ⟨k, t, l, i, List.mem_cons_of_mem _ k1, k2⟩
theorem InfoR.zip (h : InfoR M c ow f w ok hs ps ts is) : ∀ q ∈ ts.zip is, ∃ k t, TgtOk M c ow f w k t q.1 q.2.2.1 q.2.2.2 := by
  induction h with
  | nil => intro q hq; cases hq
  | cons h hv _ ih =>
    intro q hq
    rcases List.mem_cons.1 hq with rfl | hq
    · exact ⟨_, _, h⟩
    · exact ih q hq
theorem InfoR.of_zip (h : InfoR M c ow f w ok hs ps ts is) : ∀ e ∈ is, ∃ x, (x, e) ∈ ts.zip is := by
  induction h with
  | nil => intro e he; cases he
  | cons h hv _ ih =>
    intro e he
    rcases List.mem_cons.1 he with rfl | he
    · exact ⟨_, List.mem_cons_self ..⟩
    · obtain ⟨x, hx⟩ := ih e he
      exact ⟨x, List.mem_cons_of_mem _ hx⟩
/-- One block lies in the blocks of one window alone. -/
theorem InfoR.one (h : InfoR M c ow f w ok hs ps ts is) (hn : (ts.map Tgt.root).Nodup) : ∀ q ∈ ts.zip is, ∀ e ∈ is, ∀ b, b ∈ e.2.2 → ow b = some q.1.root → e = q.2 := by
  induction h with
  | nil => intro q hq; cases hq
  | @cons p k t y x v G hs cs xs is h hv hr ih =>
    simp only [List.map_cons, List.nodup_cons] at hn
    intro q hq e he b hb ho
    rcases List.mem_cons.1 hq with rfl | hq
    · rcases List.mem_cons.1 he with rfl | he
      · rfl
      · obtain ⟨x', h1, h2⟩ := hr.root e he
        have := (h2 b hb).2.1
        rw [ho] at this
        injection this with this
        exact absurd (List.mem_map.2 ⟨x', h1, this.symm⟩) hn.1
    · rcases List.mem_cons.1 he with rfl | he
      · have := (h.own b hb).2.1
        rw [ho] at this
        injection this with this
        exact absurd (List.mem_map.2 ⟨q.1, (List.of_mem_zip hq).1, this⟩) hn.1
      · exact ih hn.2 q hq e he b hb ho
theorem find_fst_nodup {α : Type} {l : List (Nat × α)} (hn : (l.map (·.1)).Nodup) {e : Nat × α} (he : e ∈ l) : l.find? (fun x => x.1 == e.1) = some e := by
  induction l with
  | nil => cases he
  | cons x xs ih =>
    simp only [List.map_cons, List.nodup_cons] at hn
    rcases List.mem_cons.1 he with rfl | he
    · simp
    · have : x.1 ≠ e.1 := fun h => hn.1 (List.mem_map.2 ⟨e, he, h.symm⟩)
      rw [List.find?_cons_of_neg (by simpa using this)]
      exact ih hn.2 he
theorem setOb_uniq {f : F} (h : f.uniq) (i : Nat) (x : O) : (f.setOb i x).uniq := by
  intro o n y m z hy hz
  rcases mem_setOb hy with ⟨hne, hy⟩ | ⟨e1, rfl⟩
  · rcases mem_setOb hz with ⟨_, hz⟩ | ⟨e2, _⟩
    · exact h _ _ _ _ _ hy hz
    · exact absurd e2 hne
  · rcases mem_setOb hz with ⟨hne, _⟩ | ⟨_, rfl⟩
    · exact absurd e1 hne
    · rfl
/-- What is handed back. -/
theorem updAll_ob {Q : Nat → O → Prop} : ∀ {ts : List Tgt} {es : List (Nat × Nat × O)} {f1 g : F}, updAll f1 ts es = some g → (∀ q ∈ ts.zip es, ∀ f1 g, q.1.upd f1 q.2.2.2 = some g → ∃ y, g = f1.setOb q.1.root y ∧ Q q.1.root y) →
    g.fr = f1.fr ∧ Ext f1 g ∧ (f1.uniq → g.uniq) ∧ ∀ o n y, (o, n, y) ∈ g.ob → ((o, n, y) ∈ f1.ob ∧ o ∉ ts.map Tgt.root) ∨ Q o y
  | [], [], f1, g, h, hq => by injection h with h; subst h; exact ⟨rfl, .refl _, id, fun o n y hm => .inl ⟨hm, by simp⟩⟩
  | [], _ :: _, f1, g, h, hq => by cases h
  | _ :: _, [], f1, g, h, hq => by cases h
  | x :: xs, e :: es, f1, g, h, hq => by
    simp only [updAll] at h
    split at h
    · rename_i f2 h2
      obtain ⟨y, rfl, hQ⟩ := hq _ (List.mem_cons_self ..) f1 f2 h2
      obtain ⟨i1, i2, i3, i4⟩ := updAll_ob h fun q hq' => hq q (List.mem_cons_of_mem _ hq')
      refine ⟨i1, (Ext.setOb _ _ _).trans i2, fun hu => i3 (setOb_uniq hu _ _), fun o n z hm => ?_⟩
      rcases i4 o n z hm with ⟨h3, h4⟩ | h3
      · rcases mem_setOb h3 with ⟨hne, h5⟩ | ⟨rfl, rfl⟩
        · exact .inl ⟨h5, by simp only [List.map_cons, List.mem_cons, not_or]; exact ⟨hne, h4⟩⟩
        · exact .inr hQ
      · exact .inr h3
    · cases h
theorem zip3 {α β γ : Type} {ka : β → Nat} {kb : γ → Nat} : ∀ {ts : List α} {is : List β} {es : List γ}, is.map ka = es.map kb → ∀ q ∈ ts.zip es, ∃ i, (q.1, i) ∈ ts.zip is ∧ ka i = kb q.2
  | [], is, es, h, q, hq => by cases hq
  | _ :: _, is, [], h, q, hq => by cases hq
  | _ :: _, [], _ :: _, h, q, hq => by cases h
  | t :: ts, i :: is, e :: es, h, q, hq => by
    simp only [List.map_cons, List.cons.injEq] at h
    rcases List.mem_cons.1 hq with rfl | hq
    · exact ⟨i, List.mem_cons_self .., h.1⟩
    · obtain ⟨j, h1, h2⟩ := zip3 h.2 q hq
      exact ⟨j, List.mem_cons_of_mem _ h1, h2⟩
end

section
variable {X : Ctx} {E : List Con} {f : F} {a : Act} {w : World} {o : Oper} {R : Type} {K : F → Option R} {r : R}
theorem okPostW_iff {p : F} (h : okPostW p = true) : p.fr.map (·.1) = List.range p.fr.length ∧ ∀ e ∈ p.fr, okS false [] e.2.2 = true := by
  simp only [okPostW, Bool.and_eq_true, beq_iff_eq, List.all_eq_true] at h
  exact h
theorem flatA {c c' : Cx} {ow ow' : Nat → Option Nat} {w : World} {ok ok' : Nat → Prop} {v : Value} {x : A} (hx : okA false [] x = true) (h : RelA c ow w ok v x) : RelA c' ow' w ok' v x := by
  have hC : ∀ (v : Value) (x : C), okC false [] x = true → RelC c ow w ok v x → RelC c' ow' w ok' v x := by
    intro v x hx hr
    cases x with
    | v t y =>
      obtain ⟨G, g1, g2⟩ := hr
      obtain ⟨rfl, _⟩ := flat_lit g1 (by simpa [okC] using hx)
      exact ⟨[], g1, by simp⟩
    | row r => simp [okC] at hx
    | _ => cases hx
  cases x with
  | one y => exact hC v y hx h
  | agg ys =>
    obtain ⟨vs, rfl, ha⟩ := h
    simp only [okA, List.all_eq_true] at hx
    exact ⟨vs, rfl, ha.mono fun u z hz hr => hC u z (hx z hz) hr⟩

theorem callW_goes (h : At X f a w) {c : Con} (hc : c.Ok X.P) {cl : Call} (hop : o.op = .call cl) (hcal : cl.callee = .value (.func c.f)) (hd : inFrame X.n o.dst = true) (hwr : writes E o.op = true) (hv : evCallW c f o.dst cl.args.toList K = some r) : Goes X E o a w f K r := by
  classical
  unfold evCallW at hv
  split at hv
  · rename_i d hdst
    split at hv
    · rename_i tvs ps hargs
      split at hv
      · rename_i hnp
        obtain ⟨hnd, hpinned⟩ := hnp
        have hnd := nodupB_sound hnd
        obtain ⟨ts, hts, hv⟩ := evTgts_some hv
        split at hv
        · rename_i hroots
          have hroots := nodupB_sound hroots
          obtain ⟨x0, hx0, hv⟩ := kOpt_some hv
          obtain ⟨p0, hp0, hv⟩ := kOpt_some hv
          obtain ⟨y0, hy0, hv⟩ := bind_some hv
          obtain ⟨p, hp, hv⟩ := kOpt_some hv
          split at hv
          · rename_i hpost
            obtain ⟨hpid, hpost⟩ := hpost
            obtain ⟨g, hg, hv⟩ := kOpt_some hv
            obtain ⟨⟨cx, ow0, hs0, hpin⟩, hb, hn⟩ := id h
            have hs := hs0.trim
            generalize hows : (fun b => if b < w.heap.size then ow0 b else none) = ow at hs
            have hown : ∀ b, w.heap.size ≤ b → ow b = none := fun b hb' => by rw [← hows]; exact if_neg (by omega)
            obtain ⟨fr, hfr, hargR, hps⟩ := argsW_inj hargs (ts.map Tgt.tv)
            obtain ⟨is, hI⟩ := info_of hs hts fun e he => by
              obtain ⟨z, y, k1, k2, k3⟩ := hps e he
              have hr : RelA cx ow w (okB X.src cx ow f.ob) (a.eval z) y := hs.get k2
              cases y with
              | one y => rw [List.mem_singleton.1 k3]; exact ⟨_, hr⟩
              | agg ys =>
                obtain ⟨vs, _, hall⟩ := hr
                obtain ⟨j, hj⟩ := List.getElem?_of_mem k3
                obtain ⟨u, _, hu⟩ := hall.get hj
                exact ⟨u, hu⟩
            have hids := hI.ids
            have hisnd : (is.map (·.1)).Nodup := by rw [hids]; exact hnd
            obtain ⟨ob, hob, hobid, hobw⟩ := hI.obs []
            have hp0' : p0 = ⟨1, fr, ob⟩ := by
              unfold F.inj at hp0
              rw [ofTVs_to hx0, hfr] at hp0
              simp only at hp0
              rw [List.append_nil] at hob
              rw [hob] at hp0
              injection hp0 with hp0
              exact hp0.symm
            subst hp0'
            obtain ⟨hent, hmeet⟩ := hc x0 y0 _ p hy0 (by assumption) hp
            let rvP : Nat → Value := fun p => ((is.find? fun e => e.1 == p).map (·.2.1)).getD (.slice none 0 0)
            let owP : Nat → Option Nat := fun b => if hx : ∃ e ∈ is, b ∈ e.2.2 then some hx.choose.1 else none
            let M' : Nat → Prop := fun b => w.heap.size ≤ b ∨ ∃ e ∈ is, b ∈ e.2.2
            have hrvP : ∀ e ∈ is, rvP e.1 = e.2.1 := fun e he => by
              show ((is.find? fun x => x.1 == e.1).map (·.2.1)).getD _ = _
              rw [find_fst_nodup hisnd he]; rfl
            have hone : ∀ e ∈ is, ∀ e' ∈ is, ∀ b, b ∈ e.2.2 → b ∈ e'.2.2 → e = e' := fun e he e' he' b hb1 hb2 => by
              obtain ⟨x, hx⟩ := hI.of_zip e' he'
              obtain ⟨k, t, htk⟩ := hI.zip _ hx
              exact hI.one hroots _ hx e he b hb1 (htk.own b hb2).2.1
            have howP : ∀ e ∈ is, ∀ b ∈ e.2.2, owP b = some e.1 := fun e he b hb' => by
              have hx : ∃ e ∈ is, b ∈ e.2.2 := ⟨e, he, hb'⟩
              show (if hx : ∃ e ∈ is, b ∈ e.2.2 then some hx.choose.1 else none) = _
              rw [dif_pos hx]
              have := hone _ hx.choose_spec.1 e he b hx.choose_spec.2 hb'
              rw [this]
            let cP : Cx := ⟨fun _ => 0, rvP⟩
            have hunf : ∀ e ∈ is, ∀ b ∈ e.2.2, X.M b ∧ Unf w b := fun e he b hb' => by
              obtain ⟨x, _, h2⟩ := hI.root e he
              exact ⟨(h2 b hb').1, (h2 b hb').2.2⟩
            have hsim0 : SimC M' M' cP owP ⟨1, fr, ob⟩ (actL (cl.args.toList.map a.eval)) w := by
              refine ⟨rfl, fun s n x hm => ?_, fun o' n x hm => ?_, fun o' n x m y hx hy => ?_, fun q => ?_⟩
              · obtain ⟨j, op, d', y, h1, h2, h3, h4, h5⟩ := hargR.mem _ hm
                simp only [Nat.zero_add] at h1
                have h4 : x = .val d' := h4
                subst h1 h4
                have hr : RelA cx ow w (okB X.src cx ow f.ob) (a.eval op) y := hs.get h3
                have hC : ∀ (v : Value) (d' z : C), ArgWC f ps d' z → RelC cx ow w (okB X.src cx ow f.ob) v z → RelC cP owP w (okB M' cP owP ob) v d' := by
                  intro v d' z hz hvz
                  rcases hz with ⟨t, y, rfl, hfl, hdt⟩ | ⟨q, rfl, hq⟩
                  · obtain ⟨G, g1, _⟩ := data_sound hs hdt hvz
                    obtain ⟨rfl, _⟩ := flat_lit g1 hfl
                    exact ⟨[], g1, by simp⟩
                  · obtain ⟨i, hi, hie, hval⟩ := hI.val _ hq
                    have hval' := hval v hvz
                    have hie : i.1 = q := hie
                    show v = rvP q
                    rw [← hie, hrvP i hi, hval']
                refine ⟨a.eval op, by simp [actL, h2], ?_⟩
                cases d' with
                | one d' =>
                  cases y with
                  | one z => exact hC _ _ _ h5 hr
                  | agg _ => cases h5
                | agg ds =>
                  cases y with
                  | one z => cases h5
                  | agg zs =>
                    obtain ⟨vs, hvs, hall⟩ := hr
                    refine ⟨vs, hvs, ?_⟩
                    have key : ∀ {vs : List Value} {ds zs : List C}, All2 (RelC cx ow w (okB X.src cx ow f.ob)) vs zs → All2 (ArgWC f ps) ds zs → All2 (RelC cP owP w (okB M' cP owP ob)) vs ds := by
                      intro vs ds zs hv'
                      induction hv' generalizing ds with
                      | nil => intro hd'; cases hd'; exact .nil
                      | cons h1 h2 ih =>
                        intro hd'
                        cases hd' with
                        | cons k1 k2 => exact .cons (hC _ _ _ k1 h1) (ih k2)
                    exact key hall h5
              · obtain ⟨k, t, l, i, hi, hie, hwx, hk0, hkt, hrep, hndG⟩ := hobw _ hm
                have hie : i.1 = o' := hie
                have hwx : x = .win k t l := hwx
                subst hwx hie
                refine ⟨hk0, hkt, i.2.2, ?_, hndG, fun b hb' => ⟨.inr ⟨i, hi, hb'⟩, howP i hi b hb', (hunf i hi b hb').2⟩⟩
                show Rep w (rvP i.1) _ _
                rw [hrvP i hi]
                exact hrep
              · have hnob : (ob.map (·.1)).Nodup := by rw [hobid]; exact hnd
                have := find_fst_nodup hnob hx
                have h2 := find_fst_nodup hnob hy
                rw [this] at h2
                injection h2 with h2
                injection h2 with _ h2
                injection h2
              · show ∃ ad n k, rvP q = .slice ad n k
                show ∃ ad n k, ((is.find? fun e => e.1 == q).map (·.2.1)).getD (.slice none 0 0) = .slice ad n k
                cases hf : is.find? fun e => e.1 == q with
                | none => exact ⟨_, _, _, rfl⟩
                | some e => exact hI.sl e (List.mem_of_find?_eq_some hf)
            have hcall := hmeet w M' M' cP owP (cl.args.toList.map a.eval) (fun b hb' => .inl hb') (fun b hb' => hb') hsim0 (by simp [hargR.length])
            let rootOf : Nat → Option Nat := fun q => ((is.zip ts).find? fun e => e.1.1 == q).map (·.2.root)
            have hzids : ((is.zip ts).map fun e => (e.1.1, e.2)).map (·.1) = is.map (·.1) ∨ True := .inr trivial
            have hrootOf : ∀ q ∈ ts.zip is, rootOf q.2.1 = some q.1.root := by
              have key : ∀ (ts : List Tgt) (is : List (Nat × Value × List Nat)), (is.map (·.1)).Nodup → ∀ q ∈ ts.zip is, ((is.zip ts).find? fun e => e.1.1 == q.2.1).map (·.2.root) = some q.1.root := by
                intro ts
                induction ts with
                | nil => intro is _ q hq; cases hq
                | cons t ts ih =>
                  intro is hn q hq
                  cases is with
                  | nil => cases hq
                  | cons i is =>
                    simp only [List.map_cons, List.nodup_cons] at hn
                    rcases List.mem_cons.1 hq with rfl | hq
                    · simp
                    · have hne : i.1 ≠ q.2.1 := fun he => hn.1 (List.mem_map.2 ⟨q.2, (List.of_mem_zip hq).2, he.symm⟩)
                      rw [List.zip_cons_cons, List.find?_cons_of_neg (by simpa using hne)]
                      exact ih is hn.2 q hq
              exact key ts is hisnd
            let ow2 : (Nat → Option Nat) → Nat → Option Nat := fun ow1 b => if M' b then (ow1 b).bind rootOf else ow b
            have hMold : ∀ q ∈ ts.zip is, ∀ b, b < w.heap.size → ow b = some q.1.root → M' b → b ∈ q.2.2.2 := by
              intro q hq b hlt ho hm
              rcases hm with hm | ⟨e, he, hbe⟩
              · omega
              · have := hI.one hroots q hq e he b hbe ho
                rw [← this]; exact hbe
            have hMX : ∀ b, M' b → X.M b := fun b hm => by
              rcases hm with hm | ⟨e, he, hbe⟩
              · exact X.hM b (Nat.le_trans hb.size hm)
              · exact (hunf e he b hbe).1
            have hupd := updAll_ob (Q := fun _ _ => True) hg (fun q hq f1 g1 hu => by
              obtain ⟨t1, e1, n1, y1⟩ := q
              cases t1 with
              | whole r k t l =>
                cases y1 with
                | win k' t' l' =>
                  simp only [Tgt.upd] at hu
                  split at hu
                  · obtain ⟨z, hz, rfl⟩ := Option.map_eq_some_iff.1 hu
                    exact ⟨_, rfl, trivial⟩
                  · cases hu
                | _ => cases hu
              | part r k i off T0 L el t l =>
                cases y1 with
                | win k' t' l' =>
                  simp only [Tgt.upd] at hu
                  split at hu
                  · injection hu with hu; exact ⟨_, hu.symm, trivial⟩
                  · cases hu
                | _ => cases hu)
            refine ⟨_, hv, (Ext.noSubs f).trans (hupd.2.1.trans (Ext.put _ _ _)), fun Kp Q hK => ?_⟩
            unfold Oper.wp
            rw [exec_call hop hcal hent w]
            simp only [Oper.upon]
            have hargs' : cl.args.map a.eval = (cl.args.toList.map a.eval).toArray := by rw [← Array.toList_map, Array.toArray_toList]
            rw [hargs']
            refine hcall.mono fun e w1 he => ?_
            obtain ⟨v, us, c1, ow1, rfl, hres, hbel, hsim, hlen, hpin1⟩ := he
            obtain ⟨q1, q2⟩ := okPostW_iff hpost
            obtain ⟨r1, r2⟩ := results_all (sl := false) (ids := []) hsim hlen q1 q2
            have hpinP : ∀ e ∈ is, c1.rv e.1 = e.2.1 := fun e he => by
              have hm : e.1 ∈ ps.map (·.1) := by rw [← hids]; exact List.mem_map.2 ⟨e, he, rfl⟩
              obtain ⟨e', he', hee⟩ := List.mem_map.1 hm
              have hpp : pinned e.1 = true := by rw [← hee]; exact List.all_eq_true.1 hpinned e' he'
              rw [(hpin1 e.1 hpp).2]
              exact hrvP e he
            have hkeep : ∀ b, b < w.heap.size → ¬ M' b → w1.heap[b]? = w.heap[b]? := fun b hlt hm => hbel.block b hlt hm
            have hQ := updAll_ob (Q := fun o' y => ∃ k t, ∃ l : List (den t), y = .win k t l ∧ o' ∈ ts.map Tgt.root ∧ WinOk X.M cx (ow2 ow1) w1 o' k t l) hg (fun q hq f1 g1 hu => by
              obtain ⟨i, hzi, hie⟩ := zip3 (ka := fun i : Nat × Value × List Nat => i.1) (kb := fun e : Nat × Nat × O => e.1) (hids.trans hpid.symm) q hq
              obtain ⟨k, t, htk⟩ := hI.zip _ hzi
              have hi : i ∈ is := (List.of_mem_zip hzi).2
              have hqe : q.2 ∈ p.ob := (List.of_mem_zip hq).2
              obtain ⟨x, ⟨q21, q22, q23⟩⟩ := q
              have hie : i.1 = q21 := hie
              subst hie
              have hwin := hsim.ob _ _ _ hqe
              have hwinx : ∃ k' t', ∃ l' : List (den t'), q23 = .win k' t' l' := by
                cases q23 with
                | win k' t' l' => exact ⟨_, _, _, rfl⟩
                | box _ => cases x <;> simp [Tgt.upd] at hu
                | row _ _ _ _ _ => cases x <;> simp [Tgt.upd] at hu
              obtain ⟨k', t', l', rfl⟩ := hwinx
              obtain ⟨w0', w1', G', w2', w3', w4'⟩ := (hwin : WinOk M' c1 ow1 w1 i.1 k' t' l')
              rw [hpinP i hi] at w2'
              obtain ⟨k2, T2, L2, Gr, b1, b2, b3, b4, b5, b6⟩ := htk.back w1 G' k' t' l' f1 g1 w2' w3' hu (fun b hlt ho hnG => hkeep b hlt fun hm => hnG (hMold _ hzi b hlt ho hm)) (fun b hbG hlt ho => hMold _ hzi b hlt ho (w4' b hbG).1)
              refine ⟨_, b1, k2, T2, L2, rfl, List.mem_map.2 ⟨x, (List.of_mem_zip hq).1, rfl⟩, b2, b3, Gr, b4, b5, fun b hbG => ?_⟩
              rcases b6 b hbG with ⟨m1, m2, m3, m4, m5⟩ | hbG'
              · have hnm : ¬ M' b := fun hm => m3 (hMold _ hzi b m1 m2 hm)
                exact ⟨m4, (if_neg hnm).trans m2, m5.keep (hkeep b m1 hnm)⟩
              · obtain ⟨m1, m2, m3⟩ := w4' b hbG'
                refine ⟨hMX b m1, ?_, m3⟩
                show (if M' b then (ow1 b).bind rootOf else ow b) = _
                rw [if_pos m1, m2]
                exact hrootOf _ hzi)
            obtain ⟨u1, u2, u3, u4⟩ := hQ
            have hroot : ∀ q, q ∈ ts.map Tgt.root → ∃ n k T L, (q, n, O.win k T L) ∈ f.noSubs.ob := by
              intro q hq
              obtain ⟨x, hx, rfl⟩ := List.mem_map.1 hq
              have : ∃ i, (x, i) ∈ ts.zip is := by
                have key : ∀ {hs : List (Nat × OT)} {ps : List (Nat × C)} {ts : List Tgt} {is : List (Nat × Value × List Nat)}, InfoR X.M cx ow f w (okB X.src cx ow f.ob) hs ps ts is → ∀ x ∈ ts, ∃ i, (x, i) ∈ ts.zip is := by
                  intro hs ps ts is hI
                  induction hI with
                  | nil => intro x hx; cases hx
                  | cons _ _ _ ih =>
                    intro x hx
                    rcases List.mem_cons.1 hx with rfl | hx
                    · exact ⟨_, List.mem_cons_self ..⟩
                    · obtain ⟨i, hi⟩ := ih x hx
                      exact ⟨i, List.mem_cons_of_mem _ hi⟩
                exact key hI x hx
              obtain ⟨i, hi⟩ := this
              obtain ⟨k, t, htk⟩ := hI.zip _ hi
              obtain ⟨k, T2, L2, hob2⟩ := htk.here
              obtain ⟨n, hm⟩ := obj_mem hob2
              exact ⟨n, k, T2, L2, List.mem_map.2 ⟨(x.root, n, .win k T2 L2), hm, by simp [O.isSub]⟩⟩
            have hlive : ∀ b, b < w.heap.size → M' b → live cx ow f.noSubs.ob b := by
              intro b hlt hm
              rcases hm with hm | ⟨e, he, hbe⟩
              · omega
              · obtain ⟨x, hx, h2⟩ := hI.root e he
                obtain ⟨n, k, T2, L2, hm⟩ := hroot x.root (List.mem_map.2 ⟨x, hx, rfl⟩)
                exact ⟨_, _, _, hm, (h2 b hbe).2.1⟩
            have hs' := hs.noSubs
            have hsim2 : SimC X.M X.src cx (ow2 ow1) ⟨g.ctr, f.noSubs.fr, g.ob⟩ a w1 := by
              refine hs'.step (subFree_noSubs f) hbel.size (fun b hlt hnl => hkeep b hlt fun hm => hnl (hlive b hlt hm)) (fun b hlt hl => ?_) (fun o' n y hy => ?_) (u3 hs'.uniq)
              · obtain ⟨o', n, y, hy, hyb⟩ := hl
                rcases u4 o' n y hy with ⟨h1, h2⟩ | ⟨k, t, l, rfl, h2, h3⟩
                · cases y with
                  | box cs => exact ⟨o', n, _, h1, hyb⟩
                  | row _ _ _ _ _ => exact ⟨o', n, _, h1, hyb⟩
                  | win k t l =>
                    have hyb : (if M' b then (ow1 b).bind rootOf else ow b) = some o' := hyb
                    split at hyb
                    · rename_i hm; exact hlive b hlt hm
                    · exact ⟨o', n, _, h1, hyb⟩
                · have hyb : (if M' b then (ow1 b).bind rootOf else ow b) = some o' := hyb
                  split at hyb
                  · rename_i hm; exact hlive b hlt hm
                  · obtain ⟨n', k', T2, L2, hm⟩ := hroot o' h2
                    exact ⟨o', n', _, hm, hyb⟩
              · rcases u4 o' n y hy with ⟨h1, h2⟩ | ⟨k, t, l, rfl, h2, h3⟩
                · refine .inl ⟨⟨n, h1⟩, fun b hlt ho _ => hkeep b hlt fun hm => ?_, fun b hlt ho => ?_⟩
                  · rcases hm with hm | ⟨e, he, hbe⟩
                    · omega
                    · obtain ⟨x, hx, h5⟩ := hI.root e he
                      have := (h5 b hbe).2.1
                      rw [ho] at this
                      injection this with this
                      exact h2 (List.mem_map.2 ⟨x, hx, this.symm⟩)
                  · show (if M' b then (ow1 b).bind rootOf else ow b) = some o'
                    rw [if_neg]
                    · exact ho
                    · rintro (hm | ⟨e, he, hbe⟩)
                      · omega
                      · obtain ⟨x, hx, h5⟩ := hI.root e he
                        have := (h5 b hbe).2.1
                        rw [ho] at this
                        injection this with this
                        exact h2 (List.mem_map.2 ⟨x, hx, this.symm⟩)
                · exact .inr h3
            have hgeq : (⟨g.ctr, f.noSubs.fr, g.ob⟩ : F) = g := by rw [← u1]
            rw [hgeq] at hsim2
            have hat : At X g a w1 := ⟨⟨cx, _, hsim2, hpin⟩, hb.trans ⟨hbel.os, hbel.tape, hbel.output, hbel.size, fun k hk hnm => hkeep k hk fun hm => hnm (hMX k hm)⟩, hn⟩
            have hall : All2 (RelA cx (ow2 ow1) w1 (okB X.src cx (ow2 ow1) g.ob)) us (resAs p.fr) := r1.mono fun u x hx hr => flatA (r2 x hx) hr
            rw [hdst]
            exact hK _ _ (hat.put hsim2 hpin (by rw [← hdst]; exact hd) (RelS_res hres hall)) ⟨(fun hw => by rw [hwr] at hw; cases hw), ⟨v, by rw [hdst], fun ha => by rw [hop] at ha; cases ha⟩, (fun x hx => by rw [hop] at hx; simp [appBase, hcal] at hx), hbel.size⟩
          · cases hv
        · cases hv
      · cases hv
    · cases hv
  · cases hv
end
end Go.V
