/-
  Steps that forget: a frame that says less is met too. Over any program. Conditions: none.
-/
import Derived.Test.YtdmiboplfgmgiaaWK
set_option linter.unusedVariables false
set_option linter.unusedSectionVars false
namespace Go.V
open Go.Ab Go.RowKit

section
variable {M src : Nat → Prop} {c : Cx} {ow : Nat → Option Nat} {f g : F} {a : Act} {w : World}

theorem tyLn_eq : ∀ t : Ty, tyLn t = tyLen t
  | .pair a b => by simp [tyLn, tyLen, tyLn_eq a, tyLn_eq b]
  | .int _ => rfl
  | .bool => rfl
  | .str => rfl
  | .sl _ => rfl

theorem unused_free {e : Nat} (h : f.unused e = true) : f.free e := by
  simp only [F.unused, Bool.and_eq_true, List.all_eq_true] at h
  refine ⟨fun s n x hm => by simpa using h.1 _ hm, fun o n x hm => ?_⟩
  have := h.2 _ hm
  simpa using this

/-! ### another number -/
def Cx.ren (c : Cx) (d e : Nat) : Cx := ⟨fun o => if o = e then c.loc d else c.loc o, fun o => if o = e then c.rv d else c.rv o⟩
def renOw (ow : Nat → Option Nat) (d e : Nat) (b : Nat) : Option Nat := if ow b = some e then none else (ow b).map fun o => if o = d then e else o
theorem renOw_of {d e b o : Nat} (h : ow b = some o) (hne : o ≠ e) : renOw ow d e b = some (if o = d then e else o) := by
  unfold renOw
  rw [if_neg (by rw [h]; simpa using hne), h]
  rfl
theorem renOw_to {d e b o : Nat} (h : renOw ow d e b = some (if o = d then e else o)) (hne : o ≠ e) : ow b = some o := by
  unfold renOw at h
  split at h
  · cases h
  · rename_i hn
    obtain ⟨q, hq, h1⟩ := Option.map_eq_some_iff.1 h
    have hqe : q ≠ e := fun he => hn (by rw [hq, he])
    have : q = o := by
      by_cases h2 : q = d <;> by_cases h3 : o = d
      · rw [h2, h3]
      · rw [if_pos h2, if_neg h3] at h1; exact absurd h1.symm hne
      · rw [if_neg h2, if_pos h3] at h1; exact absurd h1 hqe
      · rw [if_neg h2, if_neg h3] at h1; exact h1
    rw [hq, this]
theorem ren_cx {d e o : Nat} (hne : o ≠ e) : (c.ren d e).loc (if o = d then e else o) = c.loc o ∧ (c.ren d e).rv (if o = d then e else o) = c.rv o := by
  by_cases hd : o = d
  · subst hd; simp [Cx.ren]
  · simp [Cx.ren, hd, hne]
theorem renC_sound {ok : Nat → Prop} {d e : Nat} {x : C} {v : Value} (h : RelC c ow w ok v x) (hn : x.names e = false) : RelC (c.ren d e) (renOw ow d e) w ok v (renC d e x) := by
  cases x with
  | row r =>
    have hn : r ≠ e := by simpa [C.names] using hn
    show v = (c.ren d e).rv _
    rw [(ren_cx hn).2]; exact h
  | ptr o off =>
    have hn : o ≠ e := by simpa [C.names] using hn
    show v = .pointer (some ⟨(c.ren d e).loc _, off, none⟩)
    rw [(ren_cx hn).1]; exact h
  | rp r k i off =>
    have hn : r ≠ e := by simpa [C.names] using hn
    obtain ⟨g, b0, n, cap, h1, h2⟩ := h
    exact ⟨g, b0, n, cap, by rw [(ren_cx hn).2]; exact h1, h2⟩
  | sub r k i off t x =>
    have hn : r ≠ e := by simpa [C.names] using hn
    obtain ⟨g, b0, n, cap, h1, h2, G, h3, h4⟩ := h
    exact ⟨g, b0, n, cap, by rw [(ren_cx hn).2]; exact h1, h2, G, h3, fun b hb => renOw_of (h4 b hb) hn⟩
  | v _ _ => exact h
  | nil => exact h
  | ep _ _ _ => exact h
  | any => exact h
theorem A.ren_sound {ok : Nat → Prop} {d e : Nat} {x : A} {v : Value} (h : RelA c ow w ok v x) (hn : x.names e = false) : RelA (c.ren d e) (renOw ow d e) w ok v (x.ren d e) := by
  cases x with
  | one t => exact renC_sound h hn
  | agg ts =>
    obtain ⟨vs, rfl, ha⟩ := h
    simp only [A.names, List.any_eq_false] at hn
    exact ⟨vs, rfl, ha.map_right2 fun u t ht hu => renC_sound hu (by simpa using hn t ht)⟩
theorem S.ren_sound {ok : Nat → Prop} {d e : Nat} {x : S} {v : Value} (h : RelS c ow w ok v x) (hn : x.names e = false) : RelS (c.ren d e) (renOw ow d e) w ok v (x.ren d e) := by
  cases x with
  | val x => exact A.ren_sound h hn
  | tup xs =>
    obtain ⟨vs, rfl, ha⟩ := h
    simp only [S.names, List.any_eq_false] at hn
    exact ⟨vs, rfl, ha.map_right2 fun u t ht hu => A.ren_sound hu (by simpa using hn t ht)⟩
  | un => exact h
theorem renC_self {d e : Nat} {x : C} (h : x.names d = false) : renC d e x = x := by
  cases x with
  | row r => have : r ≠ d := by simpa [C.names] using h
             simp [renC, this]
  | ptr o off => have : o ≠ d := by simpa [C.names] using h
                 simp [renC, this]
  | rp r k i off => have : r ≠ d := by simpa [C.names] using h
                    simp [renC, this]
  | sub r k i off t x => have : r ≠ d := by simpa [C.names] using h
                         simp [renC, this]
  | v _ _ => rfl
  | nil => rfl
  | ep _ _ _ => rfl
  | any => rfl
theorem map_self {α : Type} {f : α → α} : ∀ {l : List α}, (∀ x ∈ l, f x = x) → l.map f = l
  | [], _ => rfl
  | x :: xs, h => by rw [List.map_cons, h x (List.mem_cons_self ..), map_self fun y hy => h y (List.mem_cons_of_mem _ hy)]
theorem A.ren_self {d e : Nat} {x : A} (h : x.names d = false) : x.ren d e = x := by
  cases x with
  | one t => simp only [A.ren]; rw [renC_self h]
  | agg ts => simp only [A.names, List.any_eq_false] at h; simp only [A.ren]; rw [map_self fun y hy => renC_self (by simpa using h y hy)]
theorem S.ren_self {d e : Nat} {x : S} (h : x.names d = false) : x.ren d e = x := by
  cases x with
  | val x => simp only [S.ren]; rw [A.ren_self h]
  | tup xs => simp only [S.names, List.any_eq_false] at h; simp only [S.ren]; rw [map_self fun y hy => A.ren_self (by simpa using h y hy)]
  | un => rfl
theorem O.ren_self {d e : Nat} {x : O} (h : x.names d = false) : x.ren d e = x := by
  cases x with
  | box cs => simp only [O.names, List.any_eq_false] at h; simp only [O.ren]; rw [map_self fun y hy => renC_self (by simpa using h y hy)]
  | row _ _ _ _ _ => rfl
  | win _ _ _ => rfl

def F.ren (f : F) (d e : Nat) : F := ⟨f.ctr + 1, f.fr.map (fun x => if x.2.2.names d then (x.1, f.ctr, x.2.2.ren d e) else x), f.ob.map fun x => if x.1 = d then (e, f.ctr, x.2.2.ren d e) else if x.2.2.names d then (x.1, f.ctr, x.2.2.ren d e) else x⟩
theorem ren_fr {d e s n : Nat} {x : S} (h : (s, n, x) ∈ (f.ren d e).fr) : ∃ m y, (s, m, y) ∈ f.fr ∧ x = y.ren d e ∧ (n < f.ctr → (s, n, x) ∈ f.fr) := by
  simp only [F.ren, List.mem_map] at h
  obtain ⟨⟨s1, m, y⟩, hm, he⟩ := h
  cases hn : y.names d with
  | true =>
    simp only [hn, if_true] at he
    injection he with e1 he
    injection he with e2 e3
    subst e1 e3
    exact ⟨m, y, hm, rfl, fun hlt => by omega⟩
  | false =>
    simp only [hn] at he
    injection he with e1 he
    injection he with e2 e3
    subst e1 e2 e3
    exact ⟨m, y, hm, (S.ren_self hn).symm, fun _ => hm⟩
theorem ren_ob {d e o n : Nat} {x : O} (h : (o, n, x) ∈ (f.ren d e).ob) : ∃ o1 m y, (o1, m, y) ∈ f.ob ∧ o = (if o1 = d then e else o1) ∧ x = y.ren d e ∧ (n < f.ctr → (o, n, x) ∈ f.ob) := by
  simp only [F.ren, List.mem_map] at h
  obtain ⟨⟨o1, m, y⟩, hm, he⟩ := h
  by_cases hd : o1 = d
  · simp only [hd, if_true] at he
    injection he with e1 he
    injection he with e2 e3
    subst e1 e3
    exact ⟨o1, m, y, hm, by rw [if_pos hd], rfl, fun hlt => by omega⟩
  · simp only [hd, if_false] at he
    cases hn : y.names d with
    | true =>
      simp only [hn, if_true] at he
      injection he with e1 he
      injection he with e2 e3
      subst e1 e3
      exact ⟨o1, m, y, hm, by rw [if_neg hd], rfl, fun hlt => by omega⟩
    | false =>
      simp only [hn] at he
      injection he with e1 he
      injection he with e2 e3
      subst e1 e2 e3
      exact ⟨o1, m, y, hm, by rw [if_neg hd], (O.ren_self hn).symm, fun _ => hm⟩
theorem Ext.ren (f : F) (d e : Nat) : Ext f (f.ren d e) := ⟨Nat.le_succ _, fun s n x hm hn => by obtain ⟨_, _, _, _, h⟩ := ren_fr hm; exact h hn, fun o n x hm hn => by obtain ⟨_, _, _, _, _, _, h⟩ := ren_ob hm; exact h hn⟩
theorem ren_mem {d e o1 m : Nat} {y : O} (h : (o1, m, y) ∈ f.ob) : ∃ n, ((if o1 = d then e else o1), n, y.ren d e) ∈ (f.ren d e).ob := by
  simp only [F.ren, List.mem_map]
  by_cases hd : o1 = d
  · exact ⟨f.ctr, (o1, m, y), h, by simp [hd]⟩
  · cases hn : y.names d with
    | true => exact ⟨f.ctr, (o1, m, y), h, by simp [hd, hn]⟩
    | false => exact ⟨m, (o1, m, y), h, by simp [hd, hn, O.ren_self hn]⟩

theorem SimC.ren (h : SimC M src c ow f a w) {d e : Nat} (hf : f.free e) : SimC M src (c.ren d e) (renOw ow d e) (f.ren d e) a w := by
  have hblk : ∀ o1 m y, (o1, m, y) ∈ f.ob → ∀ b, (y.ren d e).blk (c.ren d e) (renOw ow d e) (if o1 = d then e else o1) b ↔ y.blk c ow o1 b := by
    intro o1 m y hy b
    have hne := (hf.2 o1 m y hy).1
    obtain ⟨h1, h2⟩ := ren_cx (c := c) (d := d) hne
    cases y with
    | box cs => simp only [O.ren, O.blk, h1]
    | row e' k t l dp => simp only [O.ren, O.blk, h2]
    | win k t l => exact ⟨fun hb => renOw_to hb hne, fun hb => renOw_of hb hne⟩
  have hok : okB src (c.ren d e) (renOw ow d e) (f.ren d e).ob = okB src c ow f.ob := by
    funext b
    apply propext
    refine and_congr_right fun _ => not_congr ⟨?_, ?_⟩
    · rintro ⟨o', n, x, hm, hx⟩
      obtain ⟨o1, m, y, hy, rfl, rfl, _⟩ := ren_ob hm
      exact ⟨o1, m, y, hy, (hblk o1 m y hy b).1 hx⟩
    · rintro ⟨o1, m, y, hy, hx⟩
      obtain ⟨n, hn⟩ := ren_mem (d := d) (e := e) hy
      exact ⟨_, n, _, hn, (hblk o1 m y hy b).2 hx⟩
  refine ⟨h.defers, fun s n x hm => ?_, fun o' n x hm => ?_, fun o' n x m' y hx hy => ?_, fun r => ?_⟩
  · obtain ⟨m, y, hy, rfl, _⟩ := ren_fr hm
    obtain ⟨v, hv, h1⟩ := h.fr s m y hy
    exact ⟨v, hv, by rw [hok]; exact S.ren_sound h1 (hf.1 s m y hy)⟩
  · rw [hok]
    obtain ⟨o1, m, y, hy, rfl, rfl, _⟩ := ren_ob hm
    obtain ⟨hne, hnm⟩ := hf.2 o1 m y hy
    obtain ⟨l1, l2⟩ := ren_cx (c := c) (d := d) hne
    have ho := h.ob _ _ _ hy
    cases y with
    | box cs =>
      obtain ⟨b1, b2, vs, ty, b3, b4⟩ := ho
      simp only [O.names, List.any_eq_false] at hnm
      exact ⟨by rw [l1]; exact b1, by rw [l1]; exact renOw_of b2 hne, vs, ty, by rw [l1]; exact b3, b4.map_right2 fun u t ht hu => renC_sound hu (by simpa using hnm t ht)⟩
    | row e' k t l dp =>
      obtain ⟨r0, r1, r2, xs, G, r3, r4, r5, r6⟩ := ho
      refine ⟨r0, r1, fun g hg => ?_, xs, G, by rw [l2]; exact r3, r4, r5, fun hd => ?_⟩
      · rw [l2] at hg; exact ⟨(r2 g hg).1, renOw_of (r2 g hg).2 hne⟩
      · obtain ⟨n1, n2⟩ := r6 hd
        refine ⟨n1, fun b hb => ?_⟩
        obtain ⟨m1, m2, m3, m4⟩ := n2 b hb
        exact ⟨m1, renOw_of m2 hne, by rw [l2]; exact m3, m4⟩
    | win k t l =>
      obtain ⟨r0, r1, G, r2, r3, r4⟩ := ho
      exact ⟨r0, r1, G, by rw [l2]; exact r2, r3, fun b hb => ⟨(r4 b hb).1, renOw_of (r4 b hb).2.1 hne, (r4 b hb).2.2⟩⟩
  · obtain ⟨o1, m1, y1, hy1, q1, rfl, _⟩ := ren_ob hx
    obtain ⟨o2, m2, y2, hy2, q2, rfl, _⟩ := ren_ob hy
    have hne1 := (hf.2 _ _ _ hy1).1
    have hne2 := (hf.2 _ _ _ hy2).1
    have : o1 = o2 := by
      rw [q1] at q2
      by_cases h1 : o1 = d <;> by_cases h2 : o2 = d
      · rw [h1, h2]
      · rw [if_pos h1, if_neg h2] at q2; exact absurd q2.symm hne2
      · rw [if_neg h1, if_pos h2] at q2; exact absurd q2 hne1
      · rw [if_neg h1, if_neg h2] at q2; exact q2
    subst this
    rw [h.uniq _ _ _ _ _ hy1 hy2]
  · simp only [Cx.ren]
    split
    · exact h.rvs d
    · exact h.rvs r

/-! ### nil as an empty row -/
theorem SimC.addNil (h : SimC M src c ow f a w) {d m n e k : Nat} {t : Ty} (hf : f.free d) (hk : 0 < k) (ht : tyLen t = k) : SimC M src (c.setRv d (.slice none 0 0)) ow ⟨n, f.fr, (d, m, .row e k t [] true) :: f.ob⟩ a w := by
  have h1 := h.recx hf (Cx.but_rv c d (.slice none 0 0)) (fun r => by
    simp only [Cx.setRv]
    split
    · exact ⟨_, _, _, rfl⟩
    · exact h.rvs r)
  have hrv : (c.setRv d (.slice none 0 0)).rv d = .slice none 0 0 := by simp [Cx.setRv]
  have hok : okB src (c.setRv d (.slice none 0 0)) ow ((d, m, .row e k t [] true) :: f.ob) = okB src (c.setRv d (.slice none 0 0)) ow f.ob := by
    funext b
    apply propext
    refine and_congr_right fun _ => not_congr ⟨?_, ?_⟩
    · rintro ⟨o', n', x, hm, hx⟩
      rcases List.mem_cons.1 hm with he | hm
      · injection he with e1 he
        injection he with e2 e3
        subst e1 e3
        have hx : ((c.setRv o' (.slice none 0 0)).rv o').ownBlock = some b := hx
        rw [hrv] at hx
        cases hx
      · exact ⟨o', n', x, hm, hx⟩
    · rintro ⟨o', n', x, hm, hx⟩
      exact ⟨o', n', x, List.mem_cons_of_mem _ hm, hx⟩
  refine ⟨h1.defers, fun s n x hm => ?_, fun o' n x hm => ?_, fun o' n x m' y hx hy => ?_, h1.rvs⟩
  · obtain ⟨v, hv, h2⟩ := h1.fr s n x hm
    exact ⟨v, hv, by rw [hok]; exact h2⟩
  · rw [hok]
    rcases List.mem_cons.1 hm with he | hm
    · injection he with e1 he
      injection he with e2 e3
      subst e1 e3
      refine ⟨hk, ht, fun g hg => ?_, [], [], ?_, .nil, by simp, fun _ => by simp⟩
      · rw [hrv] at hg; cases hg
      · rw [hrv]; exact ⟨by simp, .inl ⟨rfl, rfl⟩⟩
    · exact h1.ob o' n x hm
  · rcases List.mem_cons.1 hx with he | hx1
    · injection he with e1 e2
      injection e2 with _ e2
      rcases List.mem_cons.1 hy with he' | hy1
      · injection he' with e3 e4
        injection e4 with _ e4
        rw [e2, e4]
      · exact absurd e1 ((hf.2 _ _ _ hy1).1)
    · rcases List.mem_cons.1 hy with he' | hy1
      · injection he' with e3 e4
        exact absurd e3 ((hf.2 _ _ _ hx1).1)
      · exact h1.uniq _ _ _ _ _ hx1 hy1
theorem All2.setR {α β : Type} {R : α → β → Prop} {as : List α} {bs : List β} (h : All2 R as bs) {j : Nat} {b b' : β} (hj : bs[j]? = some b) (hr : ∀ u, R u b → R u b') : All2 R as (bs.set j b') := by
  induction h generalizing j with
  | nil => simp at hj
  | cons h hs ih =>
    cases j with
    | zero => simp at hj; subst hj; exact .cons (hr _ h) hs
    | succ j => exact .cons h (ih (by simpa using hj))
theorem setC_sound {ok : Nat → Prop} {x : A} {v : Value} {j : Nat} {y y' : C} (h : RelA c ow w ok v x) (hj : x.cells[j]? = some y) (hr : ∀ u, RelC c ow w ok u y → RelC c ow w ok u y') : RelA c ow w ok v (x.setC j y') := by
  cases x with
  | one z =>
    simp only [A.cells] at hj
    cases j with
    | zero => simp at hj; subst hj; exact hr v h
    | succ j => simp at hj
  | agg zs =>
    obtain ⟨vs, hv, ha⟩ := h
    exact ⟨vs, hv, ha.setR hj hr⟩
/-- A slot says something else of the same value. -/
theorem SimC.slot (h : SimC M src c ow f a w) {s : Nat} {x x' : S} (hl : f.look s = some x) (hr : ∀ v, RelS c ow w (okB src c ow f.ob) v x → RelS c ow w (okB src c ow f.ob) v x') : SimC M src c ow (f.put (some s) x') a w := by
  refine ⟨h.defers, fun s' n y hm => ?_, h.ob, h.uniq, h.rvs⟩
  simp only [F.put, List.mem_cons, List.mem_filter] at hm
  rcases hm with hm | ⟨hm, hne⟩
  · injection hm with e1 hm
    injection hm with e2 e3
    subst e1 e2 e3
    obtain ⟨n, hn⟩ := look_mem hl
    obtain ⟨v, hv, h1⟩ := h.fr _ _ _ hn
    exact ⟨v, hv, hr v h1⟩
  · exact h.fr s' n y hm
/-- A box says something else of the same cells. -/
theorem SimC.boxed (h : SimC M src c ow f a w) {i : Nat} {cs cs' : List C} (hb : f.obj i = some (.box cs)) (hr : ∀ vs, All2 (RelC c ow w (okB src c ow f.ob)) vs cs → All2 (RelC c ow w (okB src c ow f.ob)) vs cs') : SimC M src c ow (f.setOb i (.box cs')) a w := by
  obtain ⟨n0, hn0⟩ := obj_mem hb
  have hok : okB src c ow (f.setOb i (.box cs')).ob = okB src c ow f.ob := by
    funext b
    apply propext
    refine and_congr_right fun _ => not_congr ⟨?_, ?_⟩
    · rintro ⟨o', n', x, hm, hx⟩
      rcases mem_setOb hm with ⟨_, hm⟩ | ⟨rfl, rfl⟩
      · exact ⟨o', n', x, hm, hx⟩
      · exact ⟨o', n0, _, hn0, hx⟩
    · rintro ⟨o', n', x, hm, hx⟩
      by_cases hi : o' = i
      · subst hi
        have := h.uniq _ _ _ _ _ hm hn0
        subst this
        exact ⟨o', f.ctr, .box cs', List.mem_map.2 ⟨_, hm, by simp⟩, hx⟩
      · exact ⟨o', n', x, List.mem_map.2 ⟨_, hm, by simp [hi]⟩, hx⟩
  refine ⟨h.defers, fun s n x hm => ?_, fun o' n x hm => ?_, fun o' n x m y hx hy => ?_, h.rvs⟩
  · rw [hok]; exact h.fr s n x hm
  · rw [hok]
    rcases mem_setOb hm with ⟨_, hm⟩ | ⟨rfl, rfl⟩
    · exact h.ob o' n x hm
    · obtain ⟨b1, b2, vs, ty, b3, b4⟩ := h.ob _ _ _ hn0
      exact ⟨b1, b2, vs, ty, b3, hr vs b4⟩
  · rcases mem_setOb hx with ⟨hne, hx⟩ | ⟨e1, rfl⟩
    · rcases mem_setOb hy with ⟨_, hy⟩ | ⟨e2, _⟩
      · exact h.uniq _ _ _ _ _ hx hy
      · exact absurd e2 hne
    · rcases mem_setOb hy with ⟨hne, _⟩ | ⟨_, rfl⟩
      · exact absurd e1 hne
      · rfl
end

section
variable {X : Ctx} {f g : F} {a : Act} {w : World}
theorem Pins.ren {c : Cx} (h : Pins X c) {d e : Nat} (he : pinned e = false) : Pins X (c.ren d e) := fun o ho => by
  have hne : o ≠ e := by rintro rfl; rw [he] at ho; cases ho
  simp only [Cx.ren, if_neg hne]
  exact h o ho
theorem wk_sound {x : Wk} (hx : f.wk x = some g) : Ext f g ∧ ∀ a w, At X f a w → At X g a w := by
  cases x with
  | pick ss os =>
    injection hx with hx
    subst hx
    refine ⟨⟨Nat.le_refl _, fun s n x hm _ => (List.mem_filter.1 hm).1, fun o n x hm _ => (List.mem_filter.1 hm).1⟩, fun a w h => ?_⟩
    obtain ⟨⟨cx, ow, hs, hpin⟩, hb, hn⟩ := h
    refine ⟨⟨cx, ow, hs.weak (fun s n x hm => ⟨n, (List.mem_filter.1 hm).1⟩) (fun o n x hm => ⟨n, x, (List.mem_filter.1 hm).1, O.le_refl x⟩) (fun o n x m y hx hy => hs.uniq _ _ _ _ _ (List.mem_filter.1 hx).1 (List.mem_filter.1 hy).1), hpin⟩, hb, hn⟩
  | frz r =>
    injection hx with hx
    subst hx
    refine ⟨Ext.frzRow f r, fun a w h => ?_⟩
    obtain ⟨⟨cx, ow, hs, hpin⟩, hb, hn⟩ := h
    exact ⟨⟨cx, ow, hs.frzRow X.hsrc r, hpin⟩, hb, hn⟩
  | ren d e =>
    simp only [F.wk] at hx
    split at hx
    · rename_i hc
      injection hx with hx
      have hx : f.ren d e = g := hx
      subst hx
      refine ⟨Ext.ren f d e, fun a w h => ?_⟩
      obtain ⟨⟨cx, ow, hs, hpin⟩, hb, hn⟩ := h
      exact ⟨⟨_, _, hs.ren (unused_free hc.1), hpin.ren hc.2.2⟩, hb, hn⟩
    · cases hx
  | nilS s j i e k t =>
    simp only [F.wk] at hx
    split at hx
    · rename_i x hl
      split at hx
      · rename_i hj
        split at hx
        · rename_i hc
          obtain ⟨c1, c2, c3, c4⟩ := hc
          injection hx with hx
          subst hx
          refine ⟨⟨by simp [F.put]; omega, fun s' n y hm hlt => ?_, fun o n y hm hlt => ?_⟩, fun a w h => ?_⟩
          · simp only [F.put, List.mem_cons, List.mem_filter] at hm
            rcases hm with hm | hm
            · injection hm with _ hm; injection hm with e1 _; omega
            · exact hm.1
          · rcases List.mem_cons.1 hm with he | hm
            · injection he with _ he; injection he with e1 _; omega
            · exact hm
          · obtain ⟨⟨cx, ow, hs, hpin⟩, hb, hn⟩ := h
            have h1 := hs.addNil (m := f.ctr) (n := f.ctr + 1) (e := e) (unused_free c1) c3 (by rw [← tyLn_eq]; exact c4)
            refine ⟨⟨_, ow, h1.slot (x := .val x) hl fun v hv => setC_sound hv hj fun u hu => ?_, hpin.rv c2 _⟩, hb, hn⟩
            have hu : u = .slice none 0 0 := hu
            show u = (cx.setRv i (.slice none 0 0)).rv i
            rw [hu]; simp [Cx.setRv]
        · cases hx
      · cases hx
    · cases hx
  | nilB o j i e k t =>
    simp only [F.wk] at hx
    split at hx
    · rename_i cs hl
      split at hx
      · rename_i hj
        split at hx
        · rename_i hc
          obtain ⟨c1, c2, c3, c4⟩ := hc
          injection hx with hx
          subst hx
          have hne : o ≠ i := by
            obtain ⟨n, hm⟩ := obj_mem hl
            exact ((unused_free c1).2 _ _ _ hm).1
          refine ⟨⟨by simp [F.setOb]; omega, fun s' n y hm hlt => hm, fun o' n y hm hlt => ?_⟩, fun a w h => ?_⟩
          · simp only [F.setOb, List.mem_map] at hm
            obtain ⟨⟨o1, m, z⟩, hz, he⟩ := hm
            split at he
            · injection he with _ he; injection he with e1 _; omega
            · rw [← he]
              rcases List.mem_cons.1 hz with he2 | hz
              · injection he2 with _ he2; injection he2 with e1 _
                injection he with _ he; injection he with e2 _
                omega
              · exact hz
          · obtain ⟨⟨cx, ow, hs, hpin⟩, hb, hn⟩ := h
            have h1 := hs.addNil (m := f.ctr) (n := f.ctr + 1) (e := e) (unused_free c1) c3 (by rw [← tyLn_eq]; exact c4)
            have hl' : (⟨f.ctr + 1, f.fr, (i, f.ctr, .row e k t [] true) :: f.ob⟩ : F).obj o = some (.box cs) := by
              unfold F.obj at hl ⊢
              rw [List.find?_cons_of_neg (by simpa using Ne.symm hne)]
              exact hl
            refine ⟨⟨_, ow, h1.boxed hl' fun vs hv => hv.setR hj fun u hu => ?_, hpin.rv c2 _⟩, hb, hn⟩
            have hu : u = .slice none 0 0 := hu
            show u = (cx.setRv i (.slice none 0 0)).rv i
            rw [hu]; simp [Cx.setRv]
        · cases hx
      · cases hx
    · cases hx
theorem wks_sound : ∀ {xs : List Wk} {f g : F}, f.wks xs = some g → Ext f g ∧ ∀ a w, At X f a w → At X g a w
  | [], f, g, h => by injection h with h; subst h; exact ⟨.refl _, fun _ _ h => h⟩
  | x :: xs, f, g, h => by
    simp only [F.wks] at h
    split at h
    · rename_i k hk
      obtain ⟨h1, h2⟩ := wk_sound (X := X) hk
      obtain ⟨h3, h4⟩ := wks_sound h
      exact ⟨h1.trans h3, fun a w hat => h4 a w (h2 a w hat)⟩
    · cases h
end
end Go.V
