/-
  Leaves that are moved into a row (a row of the call's own gives its memory to the new one); slice literals; append. Over any program. Conditions: the obligations that the abstract operations list.
-/
import Derived.Test.YtdmiboplfgmgiaaAbD
namespace Go.Ab
open Go.RowKit

def frzRow (st : St) (r : Nat) : St :=
  match st.row r with
  | some (_, _, es, _) => st.freeze r es
  | none => st
def St.freezeAll (st : St) (ids : List Nat) : St := ids.foldl frzRow st

/-- A leaf as an element's cell: its data, the rows that it takes up, whether its memory is the row's own then. -/
def mvT (st : St) : T → Option (T × List Nat × Bool)
  | .lit v => some (.lit v, [], true)
  | .nil => some (.sl [], [], true)
  | .sl es => some (.sl es, [], false)
  | .row r => (st.row r).map fun x => (.sl x.2.2.1, [r], x.2.2.2)
  | _ => none
def mvL (st : St) : List T → Option (List T × List Nat × Bool)
  | [] => some ([], [], true)
  | t :: ts =>
    match mvT st t, mvL st ts with
    | some (t', i1, d1), some (ts', i2, d2) => some (t' :: ts', i1 ++ i2, d1 && d2)
    | _, _ => none

section
variable {B : Nat} {src : Nat → Prop} {c : Cx} {ow : Nat → Option Nat} {st : St} {a : Act} {w : World} {P : Program} {o : Oper}

/-- Facts on blocks that a leaf takes up. -/
def Taken (B : Nat) (c : Cx) (ow : Nat → Option Nat) (w : World) (ok : Nat → Prop) (ids : List Nat) (dp : Bool) (F : List Nat) : Prop :=
  (∀ b ∈ F, ok b ∨ ∃ r ∈ ids, (c.rv r).ownBlock = some b) ∧ (dp = true → F.Nodup ∧ ∀ b ∈ F, B ≤ b ∧ Unf w b ∧ ∃ r ∈ ids, ow b = some r)

theorem mvT_sound (h : SimC B src c ow st a w) {t t' : T} {v : Value} {ids : List Nat} {dp : Bool} (hm : mvT st t = some (t', ids, dp)) (hv : RelT c w (okB src c st.ob) v t) : ∃ F, Rep w v t' F ∧ Taken B c ow w (okB src c st.ob) ids dp F := by
  cases t with
  | lit u =>
    injection hm with hm; injection hm with e1 hm; injection hm with e2 e3; subst e1 e2 e3
    obtain ⟨rfl, hp⟩ := hv
    exact ⟨[], .lit hp, by simp, fun _ => by simp⟩
  | nil =>
    injection hm with hm; injection hm with e1 hm; injection hm with e2 e3; subst e1 e2 e3
    have : v = .slice none 0 0 := hv
    subst this
    exact ⟨[], .nil (Nat.zero_le _), by simp, fun _ => by simp⟩
  | sl es =>
    injection hm with hm; injection hm with e1 hm; injection hm with e2 e3; subst e1 e2 e3
    obtain ⟨F, h1, h2⟩ := hv
    exact ⟨F, h1, fun b hb => .inl (h2 b hb), fun h => by cases h⟩
  | row r =>
    obtain ⟨⟨e, k, es, deep⟩, hr, he⟩ := Option.map_eq_some_iff.1 hm
    injection he with e1 he; injection he with e2 e3; subst e1 e2 e3
    have : v = c.rv r := hv
    subst this
    obtain ⟨r0, r1, r2, xs, F, r3, r4, r5, r6⟩ := h.ob _ _ (row_mem hr)
    have r3' := r3
    obtain ⟨hl, hform⟩ := r3
    rcases hform with ⟨hnil, h0⟩ | ⟨g, cap, cur, hrv, hB, hh, h1, h2, h3, h4⟩
    · have : es = [] := List.length_eq_zero_iff.1 h0
      subst this
      rw [hnil]
      exact ⟨[], .nil (Nat.zero_le _), by simp, fun _ => by simp⟩
    · rcases Nat.eq_zero_or_pos es.length with h0 | h0
      · have : es = [] := List.length_eq_zero_iff.1 h0
        subst this
        rw [hrv]
        exact ⟨[], .nil h2, by simp, fun _ => by simp⟩
      · have hob : (c.rv r).ownBlock = some g := by simp [hrv, Value.ownBlock]
        refine ⟨g :: F, ?_, fun b hb => ?_, fun hd => ?_⟩
        · rw [hrv]
          refine .cons rfl h0 r0 r1 h1 h2 hl (fun j u hu => ?_) r4
          rw [Nat.zero_add]
          rw [← h4, List.getElem?_take] at hu
          split at hu
          · simp only [World.cell?, hh]
            simpa using hu
          · cases hu
        · rcases List.mem_cons.1 hb with rfl | hb
          · exact .inr ⟨r, List.mem_singleton.2 rfl, hob⟩
          · exact .inl (r5 b hb)
        · obtain ⟨n1, n2⟩ := r6 hd
          refine ⟨List.nodup_cons.2 ⟨fun hg => (n2 g hg).2.2.1 hob, n1⟩, fun b hb => ?_⟩
          rcases List.mem_cons.1 hb with rfl | hb
          · exact ⟨hB, ⟨cur, e, hh⟩, r, List.mem_singleton.2 rfl, r2 _ hob⟩
          · obtain ⟨m1, m2, m3, m4⟩ := n2 b hb
            exact ⟨m1, m4, r, List.mem_singleton.2 rfl, m2⟩
  | ptr _ _ => cases hm
  | ep _ _ => cases hm
  | rp _ _ _ _ => cases hm
  | any => cases hm

theorem Taken.append {ok : Nat → Prop} {i1 i2 : List Nat} {d1 d2 : Bool} {F G : List Nat} (h1 : Taken B c ow w ok i1 d1 F) (h2 : Taken B c ow w ok i2 d2 G) (hn : (i1 ++ i2).Nodup) : Taken B c ow w ok (i1 ++ i2) (d1 && d2) (F ++ G) := by
  refine ⟨fun b hb => ?_, fun hd => ?_⟩
  · rcases List.mem_append.1 hb with hb | hb
    · exact (h1.1 b hb).imp id fun ⟨r, hr, he⟩ => ⟨r, List.mem_append_left _ hr, he⟩
    · exact (h2.1 b hb).imp id fun ⟨r, hr, he⟩ => ⟨r, List.mem_append_right _ hr, he⟩
  · simp only [Bool.and_eq_true] at hd
    obtain ⟨n1, a1⟩ := h1.2 hd.1
    obtain ⟨n2, a2⟩ := h2.2 hd.2
    refine ⟨List.nodup_append.2 ⟨n1, n2, fun x hx y hy hxy => ?_⟩, fun b hb => ?_⟩
    · subst hxy
      obtain ⟨_, _, r1, hr1, e1⟩ := a1 x hx
      obtain ⟨_, _, r2, hr2, e2⟩ := a2 x hy
      rw [e1] at e2
      injection e2 with e2
      subst e2
      exact (List.nodup_append.1 hn).2.2 r1 hr1 r1 hr2 rfl
    · rcases List.mem_append.1 hb with hb | hb
      · obtain ⟨p1, p2, r, hr, he⟩ := a1 b hb; exact ⟨p1, p2, r, List.mem_append_left _ hr, he⟩
      · obtain ⟨p1, p2, r, hr, he⟩ := a2 b hb; exact ⟨p1, p2, r, List.mem_append_right _ hr, he⟩

theorem mvL_sound (h : SimC B src c ow st a w) : ∀ {ts ts' : List T} {vs : List Value} {ids : List Nat} {dp : Bool}, mvL st ts = some (ts', ids, dp) → All2 (RelT c w (okB src c st.ob)) vs ts → ids.Nodup → ∃ F, RepL w vs ts' F ∧ Taken B c ow w (okB src c st.ob) ids dp F := by
  intro ts
  induction ts with
  | nil =>
    intro ts' vs ids dp hm hv _
    injection hm with hm; injection hm with e1 hm; injection hm with e2 e3; subst e1 e2 e3
    cases hv
    exact ⟨[], .nil, by simp, fun _ => by simp⟩
  | cons t ts ih =>
    intro ts' vs ids dp hm hv hn
    unfold mvL at hm
    split at hm
    · rename_i t' i1 d1 ts'' i2 d2 h1 h2
      injection hm with hm; injection hm with e1 hm; injection hm with e2 e3; subst e1 e2 e3
      cases hv with
      | cons hr hrs =>
        obtain ⟨F, f1, f2⟩ := mvT_sound h h1 hr
        obtain ⟨G, g1, g2⟩ := ih h2 hrs (List.nodup_append.1 hn).2.1
        exact ⟨F ++ G, .cons f1 g1, f2.append g2 hn⟩
    · cases hm

theorem live_frzRow {r b : Nat} (h : live c (frzRow st r).ob b) : live c st.ob b := by
  unfold frzRow at h
  split at h
  · exact live_freeze h
  · exact h
theorem live_freezeAll {ids : List Nat} {b : Nat} : live c (st.freezeAll ids).ob b → live c st.ob b := by
  induction ids generalizing st with
  | nil => exact id
  | cons r rs ih => exact fun h => live_frzRow (ih (st := frzRow st r) h)
theorem mem_frzRow {r o' : Nat} {x : LO} (h : (o', x) ∈ (frzRow st r).ob) : ∃ y, (o', y) ∈ st.ob := by
  unfold frzRow at h
  split at h
  · obtain ⟨_, y, hy, _⟩ := mem_freeze h; exact ⟨y, hy⟩
  · exact ⟨x, h⟩
theorem mem_freezeAll {ids : List Nat} {o' : Nat} {x : LO} (h : (o', x) ∈ (st.freezeAll ids).ob) : ∃ y, (o', y) ∈ st.ob := by
  induction ids generalizing st with
  | nil => exact ⟨x, h⟩
  | cons r rs ih => obtain ⟨y, hy⟩ := ih (st := frzRow st r) h; exact mem_frzRow hy

theorem row_of_mem (h : SimC B src c ow st a w) {r e k : Nat} {es : List (List T)} {deep : Bool} (hm : (r, .row e k es deep) ∈ st.ob) : st.row r = some (e, k, es, deep) := by
  unfold St.row
  cases hf : st.ob.find? fun e => e.1 == r with
  | none =>
    have := List.find?_eq_none.1 hf _ hm
    simp at this
  | some p =>
    obtain ⟨r', x⟩ := p
    have h1 := List.mem_of_find?_eq_some hf
    have h2 := List.find?_some hf
    simp at h2
    subst h2
    have := h.uniq _ _ _ h1 hm
    subst this
    rfl

theorem SimC.frzRow (h : SimC B src c ow st a w) (hsrc : ∀ b, B ≤ b → src b) (r : Nat) : SimC B src c ow (frzRow st r) a w := by
  unfold Go.Ab.frzRow
  split
  · rename_i e k es deep hr
    exact (h.freeze hsrc (row_mem hr)).1
  · exact h
theorem SimC.freezeAll (h : SimC B src c ow st a w) (hsrc : ∀ b, B ≤ b → src b) (ids : List Nat) : SimC B src c ow (st.freezeAll ids) a w := by
  induction ids generalizing st with
  | nil => exact h
  | cons r rs ih => exact ih (h.frzRow hsrc r)
/-- A frozen row's own block is let, and it is no object any more. -/
theorem freezeAll_own (h : SimC B src c ow st a w) (hsrc : ∀ b, B ≤ b → src b) {ids : List Nat} {r : Nat} (hr : r ∈ ids) {e k : Nat} {es : List (List T)} {deep : Bool} (hm : (r, .row e k es deep) ∈ st.ob) :
    (∀ g, (c.rv r).ownBlock = some g → okB src c (st.freezeAll ids).ob g) ∧ ∀ x, (r, x) ∉ (st.freezeAll ids).ob := by
  induction ids generalizing st with
  | nil => cases hr
  | cons r1 rs ih =>
    have h1 := h.frzRow hsrc r1
    by_cases he : r = r1
    · subst he
      have hf := h.freeze hsrc hm
      have hfr : Go.Ab.frzRow st r = st.freeze r es := by unfold Go.Ab.frzRow; rw [row_of_mem h hm]
      refine ⟨fun g hg => ?_, fun x hx => ?_⟩
      · have := hf.2.2 g hg
        rw [← hfr] at this
        exact ⟨this.1, fun hl => this.2 (live_freezeAll (st := Go.Ab.frzRow st r) (ids := rs) hl)⟩
      · obtain ⟨y, hy⟩ := mem_freezeAll (st := Go.Ab.frzRow st r) (ids := rs) hx
        rw [hfr] at hy
        exact (mem_freeze hy).1 rfl
    · have hr' : r ∈ rs := (List.mem_cons.1 hr).resolve_left he
      refine ih h1 hr' ?_
      unfold Go.Ab.frzRow
      split
      · rename_i e1 k1 es1 deep1 hrow
        simp only [St.freeze, List.mem_map, List.mem_filter]
        exact ⟨(r, .row e k es deep), ⟨hm, by simpa using he⟩, rfl⟩
      · exact hm
theorem mvT_ids {t t' : T} {ids : List Nat} {dp : Bool} (hm : mvT st t = some (t', ids, dp)) : ∀ r ∈ ids, ∃ e k es deep, (r, LO.row e k es deep) ∈ st.ob := by
  cases t with
  | row r =>
    obtain ⟨⟨e, k, es, deep⟩, hr, he⟩ := Option.map_eq_some_iff.1 hm
    injection he with e1 he; injection he with e2 e3; subst e1 e2 e3
    intro r' hr'
    rw [List.mem_singleton.1 hr']
    exact ⟨e, k, es, deep, row_mem hr⟩
  | lit u => injection hm with hm; injection hm with e1 hm; injection hm with e2 e3; subst e2; simp
  | nil => injection hm with hm; injection hm with e1 hm; injection hm with e2 e3; subst e2; simp
  | sl es => injection hm with hm; injection hm with e1 hm; injection hm with e2 e3; subst e2; simp
  | ptr _ _ => cases hm
  | ep _ _ => cases hm
  | rp _ _ _ _ => cases hm
  | any => cases hm
theorem mvL_ids : ∀ {ts ts' : List T} {ids : List Nat} {dp : Bool}, mvL st ts = some (ts', ids, dp) → ∀ r ∈ ids, ∃ e k es deep, (r, LO.row e k es deep) ∈ st.ob := by
  intro ts
  induction ts with
  | nil => intro ts' ids dp hm; injection hm with hm; injection hm with e1 hm; injection hm with e2 e3; subst e2; simp
  | cons t ts ih =>
    intro ts' ids dp hm
    unfold mvL at hm
    split at hm
    · rename_i t' i1 d1 ts'' i2 d2 h1 h2
      injection hm with hm; injection hm with e1 hm; injection hm with e2 e3; subst e2
      intro r hr
      exact (List.mem_append.1 hr).elim (mvT_ids h1 r) (ih h2 r)
    · cases hm

/-- Behind the freezing, what was taken up is let, and owned by rows that are no more. -/
theorem Taken.frozen (h : SimC B src c ow st a w) (hsrc : ∀ b, B ≤ b → src b) {ids all : List Nat} {dp : Bool} {F : List Nat} (hsub : ∀ r ∈ ids, r ∈ all) (hids : ∀ r ∈ ids, ∃ e k es deep, (r, LO.row e k es deep) ∈ st.ob) (ht : Taken B c ow w (okB src c st.ob) ids dp F) :
    (∀ b ∈ F, okB src c (st.freezeAll all).ob b) ∧ (dp = true → F.Nodup ∧ ∀ b ∈ F, B ≤ b ∧ Unf w b ∧ ∃ r, ow b = some r ∧ ∀ x, (r, x) ∉ (st.freezeAll all).ob) := by
  refine ⟨fun b hb => ?_, fun hd => ?_⟩
  · rcases ht.1 b hb with hok | ⟨r, hr, he⟩
    · exact ⟨hok.1, fun hl => hok.2 (live_freezeAll hl)⟩
    · obtain ⟨e, k, es, deep, hm⟩ := hids r hr
      exact (freezeAll_own h hsrc (hsub r hr) hm).1 b he
  · obtain ⟨n1, n2⟩ := ht.2 hd
    refine ⟨n1, fun b hb => ?_⟩
    obtain ⟨m1, m2, r, hr, he⟩ := n2 b hb
    obtain ⟨e, k, es, deep, hm⟩ := hids r hr
    exact ⟨m1, m2, r, he, (freezeAll_own h hsrc (hsub r hr) hm).2⟩
end
end Go.Ab
