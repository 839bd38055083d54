/-
  Objects of a typed frame over the steps of the model: a row becomes data, a new box, a new row. Over any program. Conditions: none.
-/
import Derived.Test.YtdmiboplfgmgiaaW9
set_option linter.unusedVariables false
set_option linter.unusedSectionVars false
namespace Go.V
open Go.Ab Go.RowKit

section
variable {M src : Nat → Prop} {c : Cx} {ow : Nat → Option Nat} {f g : F} {a : Act} {w : World} {ok : Nat → Prop}

/-! ### slices within windows forgotten -/
theorem noSubC_le (cs : List C) : All2 C.le (cs.map noSubC) cs := by
  induction cs with
  | nil => exact .nil
  | cons t ts ih => exact .cons (by unfold noSubC; split <;> simp [C.le]) ih
theorem O.noSub_le (x : O) : x.noSub.le x := by
  cases x with
  | box cs => exact .box (noSubC_le cs)
  | row e k t l deep => exact .row id
  | win k t l => exact .win
theorem O.noSub_self {x : O} (h : x.isSub = false) : x.noSub = x := by
  cases x with
  | box cs =>
    simp only [O.isSub, List.any_eq_false] at h
    simp only [O.noSub]
    congr 1
    induction cs with
    | nil => rfl
    | cons c cs ih =>
      rw [List.map_cons, ih fun x hx => h x (List.mem_cons_of_mem _ hx)]
      simp [noSubC, h c (List.mem_cons_self ..)]
  | row _ _ _ _ _ => rfl
  | win _ _ _ => rfl
theorem O.isSub_noSub (x : O) : x.noSub.isSub = false := by
  cases x with
  | box cs =>
    simp only [O.noSub, O.isSub, List.any_eq_false, List.mem_map]
    rintro t ⟨u, _, rfl⟩
    unfold noSubC
    split
    · simp [C.isSub]
    · assumption
  | row _ _ _ _ _ => rfl
  | win _ _ _ => rfl
theorem noSubs_mem {o n : Nat} {x : O} (h : (o, n, x) ∈ f.noSubs.ob) : ∃ m y, (o, m, y) ∈ f.ob ∧ x = y.noSub := by
  simp only [F.noSubs, List.mem_map] at h
  obtain ⟨⟨o', m, y⟩, hm, he⟩ := h
  split at he
  · injection he with e1 he; injection he with e2 e3; subst e1 e3
    exact ⟨m, y, hm, rfl⟩
  · rename_i hs
    injection he with e1 he; injection he with e2 e3; subst e1 e2 e3
    exact ⟨m, y, hm, (O.noSub_self (by simpa using hs)).symm⟩
theorem SimC.noSubs (h : SimC M src c ow f a w) : SimC M src c ow f.noSubs a w := by
  refine h.weak (fun s n x hm => ⟨n, (List.mem_filter.1 hm).1⟩) (fun o n x hm => ?_) (fun o n x m y hx hy => ?_)
  · obtain ⟨m, y, hy, rfl⟩ := noSubs_mem hm
    exact ⟨m, y, hy, O.noSub_le y⟩
  · obtain ⟨_, x', hx', rfl⟩ := noSubs_mem hx
    obtain ⟨_, y', hy', rfl⟩ := noSubs_mem hy
    rw [h.uniq _ _ _ _ _ hx' hy']
theorem subFree_noSubs (f : F) : f.noSubs.subFree := by
  refine ⟨fun s n x h => ?_, fun o n x h => ?_⟩
  · simpa using (List.mem_filter.1 h).2
  · obtain ⟨m, y, _, rfl⟩ := noSubs_mem h
    exact O.isSub_noSub y
theorem Ext.noSubs (f : F) : Ext f f.noSubs := by
  refine ⟨Nat.le_succ _, fun s n x hm _ => (List.mem_filter.1 hm).1, fun o n x hm hn => ?_⟩
  simp only [F.noSubs, List.mem_map] at hm
  obtain ⟨⟨o', m, y⟩, hm, he⟩ := hm
  split at he
  · injection he with _ he; injection he with e _; omega
  · rw [← he]; exact hm

/-! ### a row becomes data -/
theorem frzC_self {r : Nat} {t : Ty} {l : List (den t)} {x : C} (h : x.names r = false) : frzC r t l x = x := by
  cases x with
  | row r' => simp [C.names] at h; simp [frzC, h]
  | rp r' k i off => simp [C.names] at h; simp [frzC, h]
  | sub r' k i off t x => simp [C.names] at h; simp [frzC, h]
  | _ => rfl
theorem frzCs_self {r : Nat} {t : Ty} {l : List (den t)} : ∀ {cs : List C}, cs.any (C.names r) = false → cs.map (frzC r t l) = cs
  | [], _ => rfl
  | x :: xs, h => by
    simp only [List.any_cons, Bool.or_eq_false_iff] at h
    rw [List.map_cons, frzC_self h.1, frzCs_self h.2]
theorem A.frz_self {r : Nat} {t : Ty} {l : List (den t)} {x : A} (h : x.names r = false) : x.frz r t l = x := by
  cases x with
  | one y => simp only [A.frz]; rw [frzC_self h]
  | agg cs => simp only [A.frz]; rw [frzCs_self h]
theorem S.frz_self {r : Nat} {t : Ty} {l : List (den t)} {x : S} (h : x.names r = false) : x.frz r t l = x := by
  cases x with
  | val y => simp only [S.frz]; rw [A.frz_self h]
  | tup xs =>
    simp only [S.frz, S.names] at h ⊢
    congr 1
    induction xs with
    | nil => rfl
    | cons y ys ih =>
      simp only [List.any_cons, Bool.or_eq_false_iff] at h
      rw [List.map_cons, A.frz_self h.1, ih h.2]
  | un => rfl
theorem O.frz_self {r : Nat} {t : Ty} {l : List (den t)} {x : O} (h : x.names r = false) : x.frz r t l = x := by
  cases x with
  | box cs => simp only [O.frz]; rw [frzCs_self h]
  | row _ _ _ _ _ => rfl
  | win _ _ _ => rfl
theorem frzC_sound {ok' : Nat → Prop} {r : Nat} {t : Ty} {l : List (den t)} {x : C} {v : Value} (h : RelC c ow w ok v x) (hg : ∀ b, b < w.heap.size → ok b → ok' b) (hr : ∃ G, Rep w (c.rv r) (leafT (.sl t) l) G ∧ ∀ b ∈ G, ok' b) : RelC c ow w ok' v (frzC r t l x) := by
  cases x with
  | row r' =>
    simp only [frzC]
    split
    · rename_i he; subst he; have h : v = c.rv r' := h; subst h; exact hr
    · exact h
  | rp r' k i off =>
    simp only [frzC]
    split
    · trivial
    · exact h
  | sub r' k i off t x =>
    simp only [frzC]
    split
    · trivial
    · exact h
  | v _ _ => exact RelC.good h hg
  | nil => exact h
  | ptr _ _ => exact h
  | ep _ _ _ => exact RelC.good h hg
  | any => trivial
theorem All2.map_right {α β γ : Type} {R : α → β → Prop} {S : α → γ → Prop} {f : β → γ} {as : List α} {bs : List β} (h : All2 R as bs) (hf : ∀ a b, R a b → S a (f b)) : All2 S as (bs.map f) := by
  induction h with
  | nil => exact .nil
  | cons h hs ih => exact .cons (hf _ _ h) ih
theorem A.frz_sound {ok' : Nat → Prop} {r : Nat} {t : Ty} {l : List (den t)} {x : A} {v : Value} (h : RelA c ow w ok v x) (hg : ∀ b, b < w.heap.size → ok b → ok' b) (hr : ∃ G, Rep w (c.rv r) (leafT (.sl t) l) G ∧ ∀ b ∈ G, ok' b) : RelA c ow w ok' v (x.frz r t l) := by
  cases x with
  | one y => exact frzC_sound h hg hr
  | agg ts => obtain ⟨vs, rfl, ha⟩ := h; exact ⟨vs, rfl, ha.map_right fun u t hu => frzC_sound hu hg hr⟩
theorem S.frz_sound {ok' : Nat → Prop} {r : Nat} {t : Ty} {l : List (den t)} {x : S} {v : Value} (h : RelS c ow w ok v x) (hg : ∀ b, b < w.heap.size → ok b → ok' b) (hr : ∃ G, Rep w (c.rv r) (leafT (.sl t) l) G ∧ ∀ b ∈ G, ok' b) : RelS c ow w ok' v (x.frz r t l) := by
  cases x with
  | val y => exact A.frz_sound h hg hr
  | tup xs => obtain ⟨vs, rfl, ha⟩ := h; exact ⟨vs, rfl, ha.map_right fun u t hu => A.frz_sound hu hg hr⟩
  | un => exact h
theorem O.frz_blk (r : Nat) (t : Ty) (l : List (den t)) (o b : Nat) (y : O) : (y.frz r t l).blk c ow o b ↔ y.blk c ow o b := by cases y <;> exact Iff.rfl

/-- Row r is data in g. -/
structure Frz (f g : F) (r : Nat) (t : Ty) (l : List (den t)) : Prop where
  fr : ∀ s n x, (s, n, x) ∈ g.fr → ∃ m y, (s, m, y) ∈ f.fr ∧ x = y.frz r t l
  ob : ∀ o n x, (o, n, x) ∈ g.ob → o ≠ r ∧ ∃ m y, (o, m, y) ∈ f.ob ∧ x = y.frz r t l
theorem frzRow_frz {r e k : Nat} {t : Ty} {l : List (den t)} {deep : Bool} (hr : f.obj r = some (.row e k t l deep)) : Frz f (f.frzRow r) r t l := by
  unfold F.frzRow
  rw [hr]
  refine ⟨fun s n x hm => ?_, fun o n x hm => ?_⟩
  · simp only [List.mem_map] at hm
    obtain ⟨⟨s', m, y⟩, hm, he⟩ := hm
    split at he
    · injection he with e1 he; injection he with e2 e3; subst e1 e3; exact ⟨m, y, hm, rfl⟩
    · rename_i hn; injection he with e1 he; injection he with e2 e3; subst e1 e2 e3; exact ⟨m, y, hm, (S.frz_self (by simpa using hn)).symm⟩
  · simp only [List.mem_map, List.mem_filter] at hm
    obtain ⟨⟨o', m, y⟩, ⟨hm, hne⟩, he⟩ := hm
    have hne' : o' ≠ r := by simpa using hne
    split at he
    · injection he with e1 he; injection he with e2 e3; subst e1 e3; exact ⟨hne', m, y, hm, rfl⟩
    · rename_i hn; injection he with e1 he; injection he with e2 e3; subst e1 e2 e3; exact ⟨hne', m, y, hm, (O.frz_self (by simpa using hn)).symm⟩
theorem Frz.live {r : Nat} {t : Ty} {l : List (den t)} (hf : Frz f g r t l) {b : Nat} (h : live c ow g.ob b) : live c ow f.ob b := by
  obtain ⟨o, n, x, hm, hx⟩ := h
  obtain ⟨_, m, y, hy, rfl⟩ := hf.ob o n x hm
  exact ⟨o, m, y, hy, (O.frz_blk r t l o b y).1 hx⟩
theorem SimC.frz (h : SimC M src c ow f a w) (hsrc : ∀ b, M b → src b) {r n e k : Nat} {t : Ty} {l : List (den t)} {deep : Bool} (hr : (r, n, .row e k t l deep) ∈ f.ob) (hf : Frz f g r t l) : SimC M src c ow g a w ∧ ∀ b, (c.rv r).ownBlock = some b → okB src c ow g.ob b := by
  have hok := h.ob _ _ _ hr
  have hg : ∀ b, b < w.heap.size → okB src c ow f.ob b → okB src c ow g.ob b := fun b _ hb => ⟨hb.1, fun hl => hb.2 (hf.live hl)⟩
  have hmain : ∀ b, (c.rv r).ownBlock = some b → okB src c ow g.ob b := by
    intro b hb
    obtain ⟨_, _, r2, _⟩ := id hok
    refine ⟨hsrc b (r2 b hb).1, fun ⟨o, m, x, hm, hx⟩ => ?_⟩
    obtain ⟨hne, m', y, hy, rfl⟩ := hf.ob o m x hm
    exact hne (h.apart hy hr ((O.frz_blk r t l o b y).1 hx) hb)
  have hdata : ∃ G, Rep w (c.rv r) (leafT (.sl t) l) G ∧ ∀ b ∈ G, okB src c ow g.ob b := by
    obtain ⟨r0, r1, r2, xs, G, r3, r4, r5, r6⟩ := hok
    obtain ⟨G', g1, g2⟩ := own_rep r3 r0 r1 r4
    exact ⟨G', g1, fun b hb => (g2 b hb).elim (hmain b) fun hb' => hg b (r4.lt b hb') (r5 b hb')⟩
  refine ⟨⟨h.defers, fun s n x hm => ?_, fun o n x hm => ?_, fun o n x m y hx hy => ?_, h.rvs⟩, hmain⟩
  · obtain ⟨m, y, hm', rfl⟩ := hf.fr s n x hm
    obtain ⟨v, hv, h1⟩ := h.fr _ _ _ hm'
    exact ⟨v, hv, S.frz_sound h1 hg hdata⟩
  · obtain ⟨hne, m, y, hy, rfl⟩ := hf.ob o n x hm
    have ho := h.ob _ _ _ hy
    cases y with
    | box cs =>
      obtain ⟨b1, b2, vs, ty, b3, b4⟩ := ho
      exact ⟨b1, b2, vs, ty, b3, b4.map_right fun u t hu => frzC_sound hu hg hdata⟩
    | row e' k' t' l' deep' =>
      obtain ⟨r0, r1, r2, xs, G, r3, r4, r5, r6⟩ := ho
      exact ⟨r0, r1, r2, xs, G, r3, r4, fun b hb => hg b (r4.lt b hb) (r5 b hb), r6⟩
    | win _ _ _ => exact ho
  · obtain ⟨_, _, z, hz, rfl⟩ := hf.ob _ _ _ hx
    obtain ⟨_, _, z', hz', rfl⟩ := hf.ob _ _ _ hy
    rw [h.uniq _ _ _ _ _ hz hz']
theorem SimC.frzRow (h : SimC M src c ow f a w) (hsrc : ∀ b, M b → src b) (r : Nat) : SimC M src c ow (f.frzRow r) a w := by
  cases hr : f.obj r with
  | none => unfold F.frzRow; rw [hr]; exact h
  | some x =>
    cases x with
    | row e k t l deep => obtain ⟨n, hm⟩ := obj_mem hr; exact (h.frz hsrc hm (frzRow_frz hr)).1
    | box _ => unfold F.frzRow; rw [hr]; exact h
    | win _ _ _ => unfold F.frzRow; rw [hr]; exact h
theorem Ext.frzRow (f : F) (r : Nat) : Ext f (f.frzRow r) := by
  unfold F.frzRow
  split
  · refine ⟨Nat.le_succ _, fun s n x hm hn => ?_, fun o n x hm hn => ?_⟩
    · simp only [List.mem_map] at hm
      obtain ⟨⟨s', m, y⟩, hm, he⟩ := hm
      split at he
      · injection he with _ he; injection he with e _; omega
      · rw [← he]; exact hm
    · simp only [List.mem_map, List.mem_filter] at hm
      obtain ⟨⟨o', m, y⟩, ⟨hm, _⟩, he⟩ := hm
      split at he
      · injection he with _ he; injection he with e _; omega
      · rw [← he]; exact hm
  · exact .refl _
theorem Ext.frzAll (f : F) (ids : List Nat) : Ext f (f.frzAll ids) := by
  induction ids generalizing f with
  | nil => exact .refl _
  | cons r rs ih => exact (Ext.frzRow f r).trans (ih (f.frzRow r))
theorem SimC.frzAll (h : SimC M src c ow f a w) (hsrc : ∀ b, M b → src b) (ids : List Nat) : SimC M src c ow (f.frzAll ids) a w := by
  induction ids generalizing f with
  | nil => exact h
  | cons r rs ih => exact ih (h.frzRow hsrc r)
theorem frzC_isSub {r : Nat} {t : Ty} {l : List (den t)} {x : C} (h : x.isSub = false) : (frzC r t l x).isSub = false := by
  cases x with
  | row r' => simp only [frzC]; split <;> rfl
  | rp r' k i off => simp only [frzC]; split <;> rfl
  | sub _ _ _ _ _ _ => cases h
  | _ => rfl
theorem A.frz_isSub {r : Nat} {t : Ty} {l : List (den t)} {x : A} (h : x.isSub = false) : (x.frz r t l).isSub = false := by
  cases x with
  | one y => exact frzC_isSub h
  | agg cs =>
    simp only [A.isSub, A.frz, List.any_eq_false, List.mem_map] at h ⊢
    rintro _ ⟨u, hu, rfl⟩
    rw [frzC_isSub (by simpa using h u hu)]; simp
theorem S.frz_isSub {r : Nat} {t : Ty} {l : List (den t)} {x : S} (h : x.isSub = false) : (x.frz r t l).isSub = false := by
  cases x with
  | val y => exact A.frz_isSub h
  | tup xs =>
    simp only [S.isSub, S.frz, List.any_eq_false, List.mem_map] at h ⊢
    rintro _ ⟨u, hu, rfl⟩
    rw [A.frz_isSub (by simpa using h u hu)]; simp
  | un => rfl
theorem O.frz_isSub {r : Nat} {t : Ty} {l : List (den t)} {x : O} (h : x.isSub = false) : (x.frz r t l).isSub = false := by
  cases x with
  | box cs =>
    simp only [O.isSub, O.frz, List.any_eq_false, List.mem_map] at h ⊢
    rintro _ ⟨u, hu, rfl⟩
    rw [frzC_isSub (by simpa using h u hu)]; simp
  | row _ _ _ _ _ => rfl
  | win _ _ _ => rfl
theorem subFree_frzRow (h : f.subFree) (r : Nat) : (f.frzRow r).subFree := by
  cases hr : f.obj r with
  | none => unfold F.frzRow; rw [hr]; exact h
  | some x =>
    cases x with
    | row e k t l deep =>
      have hf := frzRow_frz hr
      refine ⟨fun s n x hm => ?_, fun o n x hm => ?_⟩
      · obtain ⟨m, y, hm', rfl⟩ := hf.fr s n x hm; exact S.frz_isSub (h.1 _ _ _ hm')
      · obtain ⟨_, m, y, hm', rfl⟩ := hf.ob o n x hm; exact O.frz_isSub (h.2 _ _ _ hm')
    | box _ => unfold F.frzRow; rw [hr]; exact h
    | win _ _ _ => unfold F.frzRow; rw [hr]; exact h
theorem subFree_frzAll (h : f.subFree) (ids : List Nat) : (f.frzAll ids).subFree := by
  induction ids generalizing f with
  | nil => exact h
  | cons r rs ih => exact ih (subFree_frzRow h r)
theorem mem_frzRow {r o n : Nat} {x : O} (h : (o, n, x) ∈ (f.frzRow r).ob) : ∃ m y, (o, m, y) ∈ f.ob := by
  cases hr : f.obj r with
  | none => unfold F.frzRow at h; rw [hr] at h; exact ⟨n, x, h⟩
  | some z =>
    cases z with
    | row e k t l deep => obtain ⟨_, m, y, hy, _⟩ := (frzRow_frz hr).ob o n x h; exact ⟨m, y, hy⟩
    | box _ => unfold F.frzRow at h; rw [hr] at h; exact ⟨n, x, h⟩
    | win _ _ _ => unfold F.frzRow at h; rw [hr] at h; exact ⟨n, x, h⟩
theorem mem_frzAll {ids : List Nat} {o n : Nat} {x : O} (h : (o, n, x) ∈ (f.frzAll ids).ob) : ∃ m y, (o, m, y) ∈ f.ob := by
  induction ids generalizing f with
  | nil => exact ⟨n, x, h⟩
  | cons r rs ih => obtain ⟨m, y, hy⟩ := ih (f := f.frzRow r) h; exact mem_frzRow hy
theorem live_frzRow {r b : Nat} (h : live c ow (f.frzRow r).ob b) : live c ow f.ob b := by
  cases hr : f.obj r with
  | none => unfold F.frzRow at h; rw [hr] at h; exact h
  | some z =>
    cases z with
    | row e k t l deep => exact (frzRow_frz hr).live h
    | box _ => unfold F.frzRow at h; rw [hr] at h; exact h
    | win _ _ _ => unfold F.frzRow at h; rw [hr] at h; exact h
theorem live_frzAll {ids : List Nat} {b : Nat} : live c ow (f.frzAll ids).ob b → live c ow f.ob b := by
  induction ids generalizing f with
  | nil => exact id
  | cons r rs ih => exact fun h => live_frzRow (ih (f := f.frzRow r) h)
theorem obj_of_mem (h : SimC M src c ow f a w) {o n : Nat} {x : O} (hm : (o, n, x) ∈ f.ob) : f.obj o = some x := by
  unfold F.obj
  cases hf : f.ob.find? fun e => e.1 == o with
  | none => have := List.find?_eq_none.1 hf _ hm; simp at this
  | some p =>
    obtain ⟨o', n', y⟩ := p
    have h1 := List.mem_of_find?_eq_some hf
    have h2 := List.find?_some hf
    simp at h2
    subst h2
    rw [h.uniq _ _ _ _ _ h1 hm]
    rfl
/-- A row that has become data: its own block is let, and it is no object any more. -/
theorem frzAll_own (h : SimC M src c ow f a w) (hsrc : ∀ b, M b → src b) {ids : List Nat} {r : Nat} (hr : r ∈ ids) {n e k : Nat} {t : Ty} {l : List (den t)} {deep : Bool} (hm : (r, n, .row e k t l deep) ∈ f.ob) :
    (∀ b, (c.rv r).ownBlock = some b → okB src c ow (f.frzAll ids).ob b) ∧ ∀ n x, (r, n, x) ∉ (f.frzAll ids).ob := by
  induction ids generalizing f n with
  | nil => cases hr
  | cons r1 rs ih =>
    have h1 := h.frzRow hsrc r1
    by_cases he : r = r1
    · subst he
      have hobj := obj_of_mem h hm
      have hfz := frzRow_frz hobj
      have hf := h.frz hsrc hm hfz
      refine ⟨fun g hg => ?_, fun n x hx => ?_⟩
      · have := hf.2 g hg
        exact ⟨this.1, fun hl => this.2 (live_frzAll (f := f.frzRow r) (ids := rs) hl)⟩
      · obtain ⟨m, y, hy⟩ := mem_frzAll (f := f.frzRow r) (ids := rs) hx
        exact (hfz.ob _ _ _ hy).1 rfl
    · have hr' : r ∈ rs := (List.mem_cons.1 hr).resolve_left he
      have hx : ∃ m, (r, m, .row e k t l deep) ∈ (f.frzRow r1).ob := by
        unfold F.frzRow
        split
        · rename_i e1 k1 t1 l1 deep1 hrow
          refine ⟨n, ?_⟩
          simp only [List.mem_map, List.mem_filter]
          exact ⟨(r, n, .row e k t l deep), ⟨hm, by simpa using he⟩, by simp [O.names]⟩
        · exact ⟨n, hm⟩
      obtain ⟨m, hm'⟩ := hx
      exact ih h1 hr' hm'

/-! ### a new object -/
theorem live_scrub {d b : Nat} (h : live c ow (f.scrub d).ob b) : live c ow f.ob b := by
  obtain ⟨o, n, x, hm, hx⟩ := h
  obtain ⟨_, m, y, hy, rfl⟩ := scrub_mem' hm
  refine ⟨o, m, y, hy, ?_⟩
  cases y <;> exact hx
theorem okB_but {c' : Cx} {d : Nat} (hf : ∀ o n x, (o, n, x) ∈ f.ob → o ≠ d) (k : c.but c' d) : okB src c' ow f.ob = okB src c ow f.ob := by
  have hblk : ∀ o n x, (o, n, x) ∈ f.ob → ∀ b, x.blk c' ow o b ↔ x.blk c ow o b := by
    intro o n x hm b
    have hne := hf o n x hm
    cases x with
    | box cs => simp [O.blk, k.loc o hne]
    | row e kk t l deep => simp [O.blk, k.rv o hne]
    | win _ _ _ => exact Iff.rfl
  funext b
  apply propext
  constructor
  · rintro ⟨h1, h2⟩
    exact ⟨h1, fun ⟨o, n, x, hm, hx⟩ => h2 ⟨o, n, x, hm, (hblk o n x hm b).2 hx⟩⟩
  · rintro ⟨h1, h2⟩
    exact ⟨h1, fun ⟨o, n, x, hm, hx⟩ => h2 ⟨o, n, x, hm, (hblk o n x hm b).1 hx⟩⟩
theorem All2.scrub {vs : List Value} {cs : List C} (h : All2 (RelC c ow w ok) vs cs) (d : Nat) : All2 (RelC c ow w ok) vs (cs.map (scrubC d)) := h.map_right fun u x hr => by
  unfold scrubC
  split
  · trivial
  · exact hr
theorem Ext.add (f : F) (d : Nat) (x : O) : Ext f (f.add d x) := by
  refine (Ext.scrub f d).trans ⟨Nat.le_succ _, fun _ _ _ h _ => h, fun o n y hm hn => ?_⟩
  rcases List.mem_cons.1 hm with he | hm
  · injection he with _ he; injection he with e _; simp [F.scrub] at hn e; omega
  · exact hm
theorem Ext.newOb (f : F) (d : Nat) (x : O) (y : C) : Ext f (f.newOb d x y) := (Ext.add f d x).trans (Ext.put _ _ _)
/-- The model lays a new variable: the frame does. -/
theorem newBox_sound (h : SimC M src c ow f a w) (hsf : f.subFree) {d : Nat} (hd : d < a.tmps.size) {vs : List Value} {cs : List C} (ty : TypeId) (hv : All2 (RelC c ow w (okB src c ow f.ob)) vs cs) (hcs : ∀ x ∈ cs, x.isSub = false) (hM : M w.heap.size) :
    ∃ ow', SimC M src (c.setLoc d w.heap.size) ow' (f.newOb d (.box (cs.map (scrubC d))) (.ptr d 0)) (a.put (some d) (.pointer (some ⟨w.heap.size, 0, none⟩))) (w.alloc (.cells vs.toArray ty (0, 0))) := by
  have h1 := h.scrub d
  have hf := free_scrub f d
  have h2 := h1.recx hf (c.but_loc d w.heap.size) h.rvs
  have hloc : (c.setLoc d w.heap.size).loc d = w.heap.size := by simp [Cx.setLoc]
  have hsz : (w.alloc (.cells vs.toArray ty (0, 0))).heap.size = w.heap.size + 1 := by simp
  have hblk : ∀ b, b < w.heap.size → (w.alloc (.cells vs.toArray ty (0, 0))).heap[b]? = w.heap[b]? := fun b hb => Below.heap_alloc _ _ _ hb
  let ow' : Nat → Option Nat := fun b => if b = w.heap.size then some d else ow b
  have ho : ∀ b, b < w.heap.size → ow' b = ow b := fun b hb => by simp only [ow']; rw [if_neg (by omega)]
  have hokeq : okB src (c.setLoc d w.heap.size) ow (f.scrub d).ob = okB src c ow (f.scrub d).ob := okB_but (fun o n x hm => (hf.2 o n x hm).1) (c.but_loc d w.heap.size)
  have h3 := h2.add (subFree_scrub hsf d) (w' := w.alloc (.cells vs.toArray ty (0, 0))) (ow' := ow') (d := d) (m := (f.scrub d).ctr) (n' := (f.scrub d).ctr + 1) (x := .box (cs.map (scrubC d))) (fun o n y hy => (hf.2 o n y hy).1) (by omega) hblk ho (fun b hb => by have hb : (c.setLoc d w.heap.size).loc d = b := hb; omega) ?_
  · exact ⟨ow', h3.put (d := d) (v := .pointer (some ⟨w.heap.size, 0, none⟩)) hd (by simp [RelS, RelA, RelC, Cx.setLoc])⟩
  · refine ⟨by rw [hloc]; exact hM, by rw [hloc]; simp [ow'], vs, ty, by rw [hloc]; exact heap_alloc_new w _, ?_⟩
    have hv1 := hv.scrub d
    refine hv1.mono fun u x hx hr => ?_
    have hns : x.isSub = false := by obtain ⟨y, hy, rfl⟩ := List.mem_map.1 hx; exact C.isSub_scrub (hcs y hy)
    have hnm : x.names d = false := by obtain ⟨y, hy, rfl⟩ := List.mem_map.1 hx; exact C.names_scrub d y
    refine (hr.but hnm (c.but_loc d w.heap.size)).keep hns ⟨by omega, fun b hb _ => hblk b hb, fun b hb hok => ⟨hok.1, fun hl => ?_⟩⟩
    obtain ⟨o, n, y, hy, hyb⟩ := hl
    rcases List.mem_cons.1 hy with he | hy
    · injection he with e1 he; injection he with _ e2; subst e1 e2
      have hyb : (c.setLoc o w.heap.size).loc o = b := hyb
      omega
    · refine hok.2 (live_scrub (d := d) ⟨o, n, y, hy, ?_⟩)
      have hne := (hf.2 o n y hy).1
      cases y with
      | box _ => simpa [O.blk, Cx.setLoc, hne] using hyb
      | row _ _ _ _ _ => exact hyb
      | win _ _ _ => show ow b = some o; rw [← ho b hb]; exact hyb
theorem run_newVar {P : Program} {t : TypeId} {v : Value} (w : World) : (newVar t v).run P w = .ok ⟨w.heap.size, 0, none⟩ (w.alloc (.cells v.cells t (0, 0))) := by
  simp [newVar, newRow]
end
end Go.V
