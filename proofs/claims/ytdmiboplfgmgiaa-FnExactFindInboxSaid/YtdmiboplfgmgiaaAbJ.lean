/-
  An object renamed; nil as an empty row, in a slot or in a box. Over any program. Conditions: none.
-/
import Derived.Test.YtdmiboplfgmgiaaAbI
namespace Go.Ab
open Go.RowKit

def renT (d e : Nat) : T → T
  | .row r => .row (if r = d then e else r)
  | .ptr o off => .ptr (if o = d then e else o) off
  | .rp r k i off => .rp (if r = d then e else r) k i off
  | t => t
def renV (d e : Nat) : AV → AV
  | .one t => .one (renT d e t)
  | .agg ts => .agg (ts.map (renT d e))
def renS (d e : Nat) : Slot → Slot
  | .val x => .val (renV d e x)
  | .tup xs => .tup (xs.map (renV d e))
def renO (d e : Nat) : LO → LO
  | .box cs => .box (cs.map (renT d e))
  | x => x
/-- Object d gets the name e. -/
def St.rename (st : St) (d e : Nat) : St :=
  ⟨st.fr.map fun x => (x.1, x.2.1, renS d e x.2.2), st.ob.map fun x => (if x.1 = d then e else x.1, renO d e x.2)⟩
/-- Is e a name that nothing bears? -/
def St.unused (st : St) (e : Nat) : Bool := (st.fr.all fun x => !x.2.2.names e) && st.ob.all fun x => x.1 != e && (match x.2 with | .box cs => cs.all fun t => !t.names e | _ => true)

/-- nil in slot s becomes the empty row d. -/
def St.nilSlot (st : St) (s d e k : Nat) : St := ⟨(s, none, .val (.one (.row d))) :: st.fr.filter fun x => x.1 != s, (d, .row e k [] true) :: st.ob⟩
/-- nil in a cell of box i becomes the empty row d. -/
def St.nilBox (st : St) (i off d e k : Nat) : St := ⟨st.fr, (d, .row e k [] true) :: setBox i off [.row d] st.ob⟩

section
variable {B : Nat} {src : Nat → Prop} {c : Cx} {ow : Nat → Option Nat} {st : St} {a : Act} {w : World} {P : Program} {o : Oper}

theorem unused_free {e : Nat} (h : st.unused e = true) : st.free e := by
  simp only [St.unused, Bool.and_eq_true, List.all_eq_true] at h
  refine ⟨fun s g x hm => by simpa using h.1 _ hm, fun o' x hm => ?_⟩
  obtain ⟨h1, h2⟩ := h.2 _ hm
  refine ⟨by simpa using h1, fun cs hx t ht => ?_⟩
  subst hx
  simp only [List.all_eq_true] at h2
  simpa using h2 t ht

def Cx.ren (c : Cx) (d e : Nat) : Cx := ⟨fun o => if o = e then c.loc d else c.loc o, fun o => if o = e then c.rv d else c.rv o⟩
theorem renT_sound {ok : Nat → Prop} {d e : Nat} {t : T} {v : Value} (h : RelT c w ok v t) (hn : t.names e = false) : RelT (c.ren d e) w ok v (renT d e t) := by
  cases t with
  | row r =>
    simp [T.names] at hn
    simp only [RelT, renT, Cx.ren] at h ⊢
    by_cases hr : r = d
    · subst hr; simp; exact h
    · simp [hr, hn]; exact h
  | ptr o off =>
    simp [T.names] at hn
    simp only [RelT, renT, Cx.ren] at h ⊢
    by_cases hr : o = d
    · subst hr; simp; exact h
    · simp [hr, hn]; exact h
  | rp r k i off =>
    simp [T.names] at hn
    obtain ⟨g, n, cap, h1, h2⟩ := h
    refine ⟨g, n, cap, ?_, h2⟩
    simp only [Cx.ren]
    by_cases hr : r = d
    · subst hr; simpa using h1
    · simpa [hr, hn] using h1
  | lit _ => exact h
  | sl _ => exact h
  | nil => exact h
  | ep _ _ => exact h
  | any => exact h
theorem All2.map_right' {α β γ : Type} {R : α → β → Prop} {S : α → γ → Prop} {f : β → γ} {as : List α} {bs : List β} (h : All2 R as bs) (hf : ∀ a b, b ∈ bs → R a b → S a (f b)) : All2 S as (bs.map f) := by
  induction h with
  | nil => exact .nil
  | cons h hs ih => exact .cons (hf _ _ (List.mem_cons_self ..) h) (ih fun a b hb => hf a b (List.mem_cons_of_mem _ hb))
theorem renV_sound {ok : Nat → Prop} {d e : Nat} {x : AV} {v : Value} (h : RelV c w ok v x) (hn : x.names e = false) : RelV (c.ren d e) w ok v (renV d e x) := by
  cases x with
  | one t => exact renT_sound h hn
  | agg ts =>
    obtain ⟨vs, rfl, ha⟩ := h
    simp only [AV.names, List.any_eq_false] at hn
    exact ⟨vs, rfl, ha.map_right' fun u t ht hu => renT_sound hu (by simpa using hn t ht)⟩
theorem renS_sound {ok : Nat → Prop} {d e : Nat} {x : Slot} {v : Value} (h : RelS c w ok v x) (hn : x.names e = false) : RelS (c.ren d e) w ok v (renS d e x) := by
  cases x with
  | val x => exact renV_sound h hn
  | tup xs =>
    obtain ⟨vs, rfl, ha⟩ := h
    simp only [Slot.names, List.any_eq_false] at hn
    exact ⟨vs, rfl, ha.map_right' fun u t ht hu => renV_sound hu (by simpa using hn t ht)⟩

theorem SimC.rename (h : SimC B src c ow st a w) {d e : Nat} (hu : st.unused e = true) : SimC B src (c.ren d e) (fun b => (ow b).map fun o => if o = d then e else o) (st.rename d e) a w := by
  have hf := unused_free hu
  have hmem : ∀ o' x, (o', x) ∈ (st.rename d e).ob → ∃ o1 y, (o1, y) ∈ st.ob ∧ o' = (if o1 = d then e else o1) ∧ x = renO d e y ∧ o1 ≠ e := by
    intro o' x hm
    simp only [St.rename, List.mem_map] at hm
    obtain ⟨⟨o1, y⟩, hy, he⟩ := hm
    injection he with e1 e2
    exact ⟨o1, y, hy, e1.symm, e2.symm, (hf.2 _ _ hy).1⟩
  have hloc : ∀ o1, o1 ≠ e → (c.ren d e).loc (if o1 = d then e else o1) = c.loc o1 ∧ (c.ren d e).rv (if o1 = d then e else o1) = c.rv o1 := by
    intro o1 hne
    by_cases hd : o1 = d
    · subst hd; simp [Cx.ren]
    · simp [Cx.ren, hd, hne]
  have hmain : ∀ o1 y, o1 ≠ e → (renO d e y).main (c.ren d e) (if o1 = d then e else o1) = y.main c o1 := by
    intro o1 y hne
    obtain ⟨h1, h2⟩ := hloc o1 hne
    cases y with
    | box cs => simp only [renO, LO.main, h1]
    | row e' k es dp => simp only [renO, LO.main, h2]
  have hok : okB src (c.ren d e) (st.rename d e).ob = okB src c st.ob := by
    funext b
    apply propext
    refine and_congr_right fun _ => not_congr ⟨?_, ?_⟩
    · rintro ⟨o', x, hm, hx⟩
      obtain ⟨o1, y, hy, rfl, rfl, hne⟩ := hmem o' x hm
      exact ⟨o1, y, hy, by rw [hmain o1 y hne] at hx; exact hx⟩
    · rintro ⟨o1, y, hy, hx⟩
      refine ⟨if o1 = d then e else o1, renO d e y, List.mem_map.2 ⟨(o1, y), hy, rfl⟩, ?_⟩
      rw [hmain o1 y (hf.2 _ _ hy).1]
      exact hx
  refine ⟨h.defers, h.base, fun s g x hm => ?_, fun o' x hm => ?_, fun o' x y hx hy => ?_, fun r => ?_⟩
  · simp only [St.rename, List.mem_map] at hm
    obtain ⟨⟨s1, g1, x1⟩, hm1, he⟩ := hm
    injection he with e1 he
    injection he with e2 e3
    subst e1 e2 e3
    obtain ⟨v, hv, h1, h2⟩ := h.fr _ _ _ hm1
    exact ⟨v, hv, fun hg => by rw [hok]; exact renS_sound (h1 hg) (hf.1 _ _ _ hm1), h2⟩
  · rw [hok]
    obtain ⟨o1, y, hy, rfl, rfl, hne⟩ := hmem o' x hm
    obtain ⟨l1, l2⟩ := hloc o1 hne
    have ho := h.ob _ _ hy
    cases y with
    | box cs =>
      obtain ⟨b1, b2, vs, ty, b3, b4⟩ := ho
      refine ⟨by rw [l1]; exact b1, by rw [l1]; simp [b2], vs, ty, by rw [l1]; exact b3, b4.map_right' fun u t ht hu => renT_sound hu ((hf.2 _ _ hy).2 cs rfl t ht)⟩
    | row e' k es dp =>
      obtain ⟨r0, r1, r2, xs, F, r3, r4, r5, r6⟩ := ho
      refine ⟨r0, r1, fun g hg => ?_, xs, F, by rw [l2]; exact r3, r4, r5, fun hd => ?_⟩
      · rw [l2] at hg; simp [r2 g hg]
      · obtain ⟨n1, n2⟩ := r6 hd
        refine ⟨n1, fun b hb => ?_⟩
        obtain ⟨m1, m2, m3, m4⟩ := n2 b hb
        exact ⟨m1, by simp [m2], by rw [l2]; exact m3, m4⟩
  · obtain ⟨o1, y1, hy1, q1, rfl, hne1⟩ := hmem o' x hx
    obtain ⟨o2, y2, hy2, q2, rfl, hne2⟩ := hmem o' y hy
    have : o1 = o2 := by
      rw [q1] at q2
      by_cases h1 : o1 = d <;> by_cases h2 : o2 = d
      · rw [h1, h2]
      · rw [if_pos h1, if_neg h2] at q2; exact absurd q2.symm hne2
      · rw [if_neg h1, if_pos h2] at q2; exact absurd q2 hne1
      · rw [if_neg h1, if_neg h2] at q2; exact q2
    subst this
    rw [h.uniq _ _ _ hy1 hy2]
  · simp only [Cx.ren]
    split
    · exact h.rvs d
    · exact h.rvs r

theorem addNil (h : SimC B src c ow st a w) (hsrc : ∀ b, B ≤ b → src b) {d e k : Nat} (hf : st.free d) (hk : 0 < k) : ∃ ow', SimC B src (c.setRv d (.slice none 0 0)) ow' ⟨st.fr, (d, .row e k [] true) :: st.ob⟩ a w :=
  h.addRow hsrc hf (Nat.le_refl _) (fun _ _ => rfl) (v := .slice none 0 0) (es := []) (xs := []) (F := []) (e := e) (k := k) ⟨by simp, .inl ⟨rfl, rfl⟩⟩ hk (by simp) (fun g hg => by cases hg) .nil (by simp) (fun _ => by simp)

theorem SimC.nilSlot (h : SimC B src c ow st a w) (hsrc : ∀ b, B ≤ b → src b) {s d e k : Nat} (hu : st.unused d = true) (hk : 0 < k) (hl : st.look s = some (none, .val (.one .nil))) : Sim B src (st.nilSlot s d e k) a w := by
  obtain ⟨v, hv, h1, _⟩ := h.fr s _ _ (look_mem hl)
  have hvn : v = .slice none 0 0 := h1 rfl
  obtain ⟨ow', h2⟩ := addNil (e := e) h hsrc (unused_free hu) hk
  refine ⟨_, ow', h2.defers, h2.base, fun s' g x hm => ?_, h2.ob, h2.uniq, h2.rvs⟩
  rcases List.mem_cons.1 hm with he | hm
  · injection he with e1 he
    injection he with e2 e3
    subst e1 e2 e3
    exact ⟨v, hv, fun _ => by simp [RelS, RelV, RelT, Cx.setRv, hvn], fun h => by cases h⟩
  · exact h2.fr s' g x (List.mem_filter.1 hm).1

theorem SimC.nilBox (h : SimC B src c ow st a w) (hsrc : ∀ b, B ≤ b → src b) {i off d e k : Nat} {cs : List T} (hu : st.unused d = true) (hk : 0 < k) (hb : st.box i = some cs) (hc : cs[off]? = some .nil) : Sim B src (st.nilBox i off d e k) a w := by
  obtain ⟨ow', h2⟩ := addNil (e := e) h hsrc (unused_free hu) hk
  have hne : i ≠ d := ((unused_free hu).2 _ _ (box_mem hb)).1
  have hlive : ∀ b, live (c.setRv d (.slice none 0 0)) ((d, .row e k [] true) :: setBox i off [.row d] st.ob) b → live (c.setRv d (.slice none 0 0)) ((d, .row e k [] true) :: st.ob) b := by
    rintro b ⟨o', x, hm, hx⟩
    rcases List.mem_cons.1 hm with he | hm
    · exact ⟨o', x, List.mem_cons.2 (.inl he), hx⟩
    · obtain ⟨o2, x2, hm2, hx2⟩ := live_setBox (c := c.setRv d (.slice none 0 0)) ⟨o', x, hm, hx⟩
      exact ⟨o2, x2, List.mem_cons_of_mem _ hm2, hx2⟩
  have kp : Keeps w w (okB src (c.setRv d (.slice none 0 0)) ((d, .row e k [] true) :: st.ob)) (okB src (c.setRv d (.slice none 0 0)) ((d, .row e k [] true) :: setBox i off [.row d] st.ob)) :=
    ⟨Nat.le_refl _, fun _ _ _ => rfl, fun b _ hb => ⟨hb.1, fun hl => hb.2 (hlive b hl)⟩⟩
  refine ⟨_, ow', h2.defers, h2.base, fun s g x hm => ?_, fun o' x hm => ?_, fun o' x y hx hy => ?_, h2.rvs⟩
  · obtain ⟨v, hv, h1, h3⟩ := h2.fr s g x hm
    exact ⟨v, hv, fun hg => (h1 hg).keep kp, h3⟩
  · have keepOb : ∀ o' x, (o', x) ∈ (d, LO.row e k [] true) :: st.ob → ObOk B (c.setRv d (.slice none 0 0)) ow' w (okB src (c.setRv d (.slice none 0 0)) ((d, .row e k [] true) :: setBox i off [.row d] st.ob)) o' x := by
      intro o' x hm
      have ho := h2.ob o' x hm
      cases x with
      | box cs => exact BoxOk.keep ho kp rfl (fun _ _ h => h)
      | row e' k' es' dp' => exact RowOk.keep ho kp (fun _ _ => rfl) (fun _ _ h => h)
    rcases List.mem_cons.1 hm with he | hm
    · exact keepOb o' x (List.mem_cons.2 (.inl he))
    · rcases mem_setBox hm with ⟨_, hm⟩ | ⟨rfl, y, hy, rfl⟩
      · exact keepOb o' x (List.mem_cons_of_mem _ hm)
      · have := h.uniq _ _ _ hy (box_mem hb)
        subst this
        have ho := keepOb _ _ (List.mem_cons_of_mem _ hy)
        obtain ⟨b1, b2, vs, ty, b3, b4⟩ := ho
        refine ⟨b1, b2, vs, ty, b3, ?_⟩
        obtain ⟨u, hu1, hu2⟩ := b4.get hc
        have hu3 : u = .slice none 0 0 := hu2
        have hsp := b4.sp (.cons (show RelT (c.setRv d (.slice none 0 0)) w _ u (.row d) by simp [RelT, Cx.setRv, hu3]) .nil) off
        have hvs : sp vs off [u] = vs := by
          unfold sp
          have hlt : off < vs.length := (List.getElem?_eq_some_iff.1 hu1).1
          have hge : vs[off] = u := (List.getElem?_eq_some_iff.1 hu1).2
          rw [List.append_assoc]
          have : [u] ++ vs.drop (off + [u].length) = vs.drop off := by rw [List.drop_eq_getElem_cons hlt, hge]; rfl
          rw [this, List.take_append_drop]
        rw [hvs] at hsp
        exact hsp
  · rcases List.mem_cons.1 hx with he | hx1
    · injection he with e1 e2
      rcases List.mem_cons.1 hy with he' | hy1
      · injection he' with e3 e4; rw [e2, e4]
      · rcases mem_setBox hy1 with ⟨_, hm⟩ | ⟨e3, y', hy', _⟩
        · exact absurd e1 ((unused_free hu).2 _ _ hm).1
        · exact absurd (e3 ▸ e1) hne
    · rcases List.mem_cons.1 hy with he' | hy1
      · injection he' with e3 e4
        rcases mem_setBox hx1 with ⟨_, hm⟩ | ⟨e5, y', hy', _⟩
        · exact absurd e3 ((unused_free hu).2 _ _ hm).1
        · exact absurd (e5 ▸ e3) hne
      · rcases mem_setBox hx1 with ⟨hn1, hm1⟩ | ⟨e1, y1, hm1, rfl⟩
        · rcases mem_setBox hy1 with ⟨_, hm2⟩ | ⟨e2, _⟩
          · exact h.uniq _ _ _ hm1 hm2
          · exact absurd e2 hn1
        · rcases mem_setBox hy1 with ⟨hn2, _⟩ | ⟨_, y2, hm2, rfl⟩
          · exact absurd e1 hn2
          · rw [h.uniq _ _ _ hm1 hm2]
end
end Go.Ab
