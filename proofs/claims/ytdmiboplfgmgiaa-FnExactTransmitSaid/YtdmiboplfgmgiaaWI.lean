/-
  A call by its contract. Over any program. Conditions: none beyond the meaning.
-/
import Derived.Test.YtdmiboplfgmgiaaWH
set_option linter.unusedVariables false
set_option linter.unusedSectionVars false
namespace Go.V
open Go.Ab Go.RowKit

section
variable {c c' : Cx} {ow : Nat → Option Nat} {w : World} {ok : Nat → Prop} {v : Value}
theorem RelC.agree {x : C} (h : RelC c ow w ok v x) (k : ∀ o, x.names o = true → c'.loc o = c.loc o ∧ c'.rv o = c.rv o) : RelC c' ow w ok v x := by
  cases x with
  | row r => have := (k r (by simp [C.names])).2; simp only [RelC] at h ⊢; rw [this]; exact h
  | ptr o off => have := (k o (by simp [C.names])).1; simp only [RelC] at h ⊢; rw [this]; exact h
  | rp r k' i off => have := (k r (by simp [C.names])).2; simp only [RelC] at h ⊢; rw [this]; exact h
  | sub r k' i off t x => have := (k r (by simp [C.names])).2; simp only [RelC] at h ⊢; rw [this]; exact h
  | v _ _ => exact h
  | nil => exact h
  | ep _ _ _ => exact h
  | any => exact h
theorem RelA.agree {x : A} (h : RelA c ow w ok v x) (k : ∀ o, x.names o = true → c'.loc o = c.loc o ∧ c'.rv o = c.rv o) : RelA c' ow w ok v x := by
  cases x with
  | one t => exact RelC.agree h k
  | agg ts =>
    obtain ⟨vs, hv, ha⟩ := h
    exact ⟨vs, hv, ha.mono fun a b hb hr => hr.agree fun o ho => k o (by simp only [A.names, List.any_eq_true]; exact ⟨b, hb, ho⟩)⟩
theorem RelS.agree {x : S} (h : RelS c ow w ok v x) (k : ∀ o, x.names o = true → c'.loc o = c.loc o ∧ c'.rv o = c.rv o) : RelS c' ow w ok v x := by
  cases x with
  | val x => exact RelA.agree h k
  | tup xs =>
    obtain ⟨vs, hv, ha⟩ := h
    exact ⟨vs, hv, ha.mono fun a b hb hr => hr.agree fun o ho => k o (by simp only [S.names, List.any_eq_true]; exact ⟨b, hb, ho⟩)⟩
  | un => exact h
end

/-! ### what is taken over -/
/-- An object with some cells forgotten. -/
inductive O.sc : O → O → Prop
  | refl {x : O} : O.sc x x
  | box {cs' cs : List C} (h : All2 C.le cs' cs) : O.sc (.box cs') (.box cs)
theorem O.sc.le {x y : O} (h : O.sc x y) : x.le y := by
  cases h with
  | refl => exact O.le_refl _
  | box h => exact .box h
theorem C.le_trans {x y z : C} (h : x.le y) (k : y.le z) : x.le z := by
  rcases h with rfl | rfl
  · exact k
  · exact .inr rfl
theorem All2.le_trans : ∀ {xs ys zs : List C}, All2 C.le xs ys → All2 C.le ys zs → All2 C.le xs zs
  | [], _, _, .nil, .nil => .nil
  | _ :: _, _, _, .cons h hs, .cons k ks => .cons (C.le_trans h k) (All2.le_trans hs ks)
theorem O.sc.trans {x y z : O} (h : O.sc x y) (k : O.sc y z) : O.sc x z := by
  cases h with
  | refl => exact k
  | box h =>
    cases k with
    | refl => exact .box h
    | box k => exact .box (h.le_trans k)
theorem all2_names {o : Nat} : ∀ {as bs : List C}, All2 C.le as bs → bs.any (C.names o) = false → as.any (C.names o) = false
  | [], _, .nil, _ => rfl
  | _ :: _, _, .cons h hs, hb => by
    simp only [List.any_cons, Bool.or_eq_false_iff] at hb ⊢
    refine ⟨?_, all2_names hs hb.2⟩
    rcases h with rfl | rfl
    · exact hb.1
    · rfl
theorem O.sc.names {x y : O} (h : O.sc x y) {o : Nat} (hy : y.names o = false) : x.names o = false := by
  cases h with
  | refl => exact hy
  | box h => exact all2_names h hy
theorem O.scrub_sc (d : Nat) (y : O) : O.sc (y.scrub d) y := by
  cases y with
  | box cs => exact .box (scrubC_le d cs)
  | row _ _ _ _ _ => exact .refl
  | win _ _ _ => exact .refl
theorem scrubC_other {d : Nat} {x : C} {o : Nat} (h : x.names o = false) : (scrubC d x).names o = false := by
  unfold scrubC
  split
  · rfl
  · exact h
theorem O.scrub_other {d o : Nat} {y : O} (h : y.names o = false) : (y.scrub d).names o = false := by
  cases y with
  | box cs =>
    simp only [O.names, O.scrub, List.any_eq_false, List.mem_map] at h ⊢
    rintro _ ⟨u, hu, rfl⟩
    rw [scrubC_other (by simpa using h u hu)]; simp
  | row _ _ _ _ _ => rfl
  | win _ _ _ => rfl
theorem takeO_names (win : Bool) (o : Nat) {x : O} (hx : ∀ cs, x ≠ .box cs) : (takeO win x).names o = false := by
  cases x with
  | box cs => exact absurd rfl (hx cs)
  | row _ _ _ _ _ => cases win <;> rfl
  | win _ _ _ => rfl
theorem takeO_sub (win : Bool) {x : O} (hx : ∀ cs, x ≠ .box cs) : (takeO win x).isSub = false := by
  cases x with
  | box cs => exact absurd rfl (hx cs)
  | row _ _ _ _ _ => cases win <;> rfl
  | win _ _ _ => rfl
theorem takeO_scrub (win : Bool) (d : Nat) {x : O} (hx : ∀ cs, x ≠ .box cs) : (takeO win x).scrub d = takeO win x := by
  cases x with
  | box cs => exact absurd rfl (hx cs)
  | row _ _ _ _ _ => cases win <;> rfl
  | win _ _ _ => rfl

section
variable {f : F} {d : Nat} {win : Bool}
theorem adopt_fr : ∀ {es : List (Nat × Nat × O)} {f : F} {s n : Nat} {x : S}, (s, n, x) ∈ (adopt d win f es).fr → (s, n, x) ∈ f.fr ∧ ∀ e ∈ es, x.names (callId d + e.1) = false
  | [], f, s, n, x, h => ⟨h, by simp⟩
  | e :: es, f, s, n, x, h => by
    obtain ⟨h1, h2⟩ := adopt_fr (es := es) (f := f.add (callId d + e.1) (takeO win e.2.2)) h
    have h1' : (s, n, x) ∈ (f.scrub (callId d + e.1)).fr := h1
    refine ⟨(List.mem_filter.1 h1').1, fun e' he' => ?_⟩
    rcases List.mem_cons.1 he' with rfl | he'
    · simpa using (List.mem_filter.1 h1').2
    · exact h2 e' he'
theorem adopt_ob : ∀ {es : List (Nat × Nat × O)} {f : F} {o n : Nat} {x : O}, (∀ e ∈ es, ∀ cs, e.2.2 ≠ .box cs) → (o, n, x) ∈ (adopt d win f es).ob →
    (∃ e ∈ es, o = callId d + e.1 ∧ x = takeO win e.2.2) ∨ ((∀ e ∈ es, o ≠ callId d + e.1) ∧ ∃ m y, (o, m, y) ∈ f.ob ∧ O.sc x y ∧ (∀ e ∈ es, x.names (callId d + e.1) = false) ∧ (y.isSub = false → x.isSub = false))
  | [], f, o, n, x, _, h => .inr ⟨by simp, n, x, h, .refl, by simp, id⟩
  | e :: es, f, o, n, x, hr, h => by
    rcases adopt_ob (es := es) (f := f.add (callId d + e.1) (takeO win e.2.2)) (fun e' he' => hr e' (List.mem_cons_of_mem _ he')) h with ⟨e', he', h1, h2⟩ | ⟨h1, m, y, hy, h2, h3, h4⟩
    · exact .inl ⟨e', List.mem_cons_of_mem _ he', h1, h2⟩
    · rcases List.mem_cons.1 hy with he | hy
      · injection he with e1 he
        injection he with _ e2
        subst e1 e2
        have : x = takeO win e.2.2 := by
          have hb := hr e (List.mem_cons_self ..)
          cases hx : e.2.2 with
          | box cs => exact absurd hx (hb cs)
          | row _ _ _ _ _ => rw [hx] at h2; cases win <;> (cases h2; rfl)
          | win _ _ _ => rw [hx] at h2; cases h2; rfl
        exact .inl ⟨e, List.mem_cons_self .., rfl, this⟩
      · obtain ⟨hne, m', z, hz, rfl⟩ := scrub_mem' hy
        refine .inr ⟨fun e' he' => ?_, m', z, hz, h2.trans (O.scrub_sc _ z), fun e' he' => ?_, fun hz' => h4 (O.scrub_isSub hz')⟩
        · rcases List.mem_cons.1 he' with rfl | he'
          · exact hne
          · exact h1 e' he'
        · rcases List.mem_cons.1 he' with rfl | he'
          · exact h2.names (O.scrub_names z _)
          · exact h3 e' he'
def F.uniq (f : F) : Prop := ∀ o n x m y, (o, n, x) ∈ f.ob → (o, m, y) ∈ f.ob → x = y
theorem add_uniq {f : F} (h : f.uniq) (d : Nat) (x : O) : (f.add d x).uniq := by
  intro o n y m z hy hz
  rcases List.mem_cons.1 hy with he | hy1
  · injection he with e1 e2
    injection e2 with _ e2
    rcases List.mem_cons.1 hz with he' | hz1
    · injection he' with e3 e4
      injection e4 with _ e4
      rw [e2, e4]
    · exact absurd e1 (scrub_mem' hz1).1
  · rcases List.mem_cons.1 hz with he' | hz1
    · injection he' with e3 e4
      exact absurd e3 (scrub_mem' hy1).1
    · obtain ⟨_, _, y', hy', rfl⟩ := scrub_mem' hy1
      obtain ⟨_, _, z', hz', rfl⟩ := scrub_mem' hz1
      rw [h _ _ _ _ _ hy' hz']
theorem adopt_uniq : ∀ {es : List (Nat × Nat × O)} {f : F}, f.uniq → (adopt d win f es).uniq
  | [], f, h => h
  | e :: es, f, h => adopt_uniq (es := es) (add_uniq h _ _)
theorem Ext.adopt : ∀ (es : List (Nat × Nat × O)) (f : F), Ext f (adopt d win f es)
  | [], f => .refl f
  | e :: es, f => (Ext.add f _ _).trans (Ext.adopt es _)
end

section
variable {M src : Nat → Prop} {c : Cx} {ow : Nat → Option Nat} {f : F} {a : Act} {w : World}
theorem ObOk.lt {ok : Nat → Prop} {o : Nat} {x : O} (h : ObOk M c ow w ok o x) (hx : ∀ k t l, x ≠ .win k t l) {b : Nat} (hb : x.blk c ow o b) : b < w.heap.size := by
  cases x with
  | box cs => have hb : c.loc o = b := hb; subst hb; exact BoxOk.lt h
  | row e k t l deep => obtain ⟨_, _, _, xs, G, r3, _⟩ := h; exact (ownsRow_lt r3 hb).1
  | win k t l => exact absurd rfl (hx k t l)
/-- Blocks that come to be are owned by nobody. -/
theorem SimC.trim (h : SimC M src c ow f a w) : SimC M src c (fun b => if b < w.heap.size then ow b else none) f a w := by
  have hown : ∀ b, b < w.heap.size → (if b < w.heap.size then ow b else none) = ow b := fun b hb => if_pos hb
  have hlive : ∀ b, live c (fun b => if b < w.heap.size then ow b else none) f.ob b → live c ow f.ob b := by
    rintro b ⟨o, n, x, hm, hx⟩
    refine ⟨o, n, x, hm, ?_⟩
    cases x with
    | box _ => exact hx
    | row _ _ _ _ _ => exact hx
    | win _ _ _ =>
      have hx : (if b < w.heap.size then ow b else none) = some o := hx
      show ow b = some o
      split at hx
      · exact hx
      · cases hx
  have hok : ∀ b, b < w.heap.size → okB src c ow f.ob b → okB src c (fun b => if b < w.heap.size then ow b else none) f.ob b := fun b _ hb => ⟨hb.1, fun hl => hb.2 (hlive b hl)⟩
  have hrel : ∀ v (x : C), RelC c ow w (okB src c ow f.ob) v x → RelC c (fun b => if b < w.heap.size then ow b else none) w (okB src c (fun b => if b < w.heap.size then ow b else none) f.ob) v x := by
    intro v x hx
    cases x with
    | sub r k i off t y =>
      obtain ⟨g, b0, n, cap, h1, h2, G, h3, h4⟩ := hx
      exact ⟨g, b0, n, cap, h1, h2, G, h3, fun b hb => (hown b (h3.lt b hb)).trans (h4 b hb)⟩
    | v t y => exact RelC.good (ow := ow) hx hok
    | ep t y off => exact RelC.good (ow := ow) hx hok
    | nil => exact hx
    | row _ => exact hx
    | ptr _ _ => exact hx
    | rp _ _ _ _ => exact hx
    | any => exact hx
  have hrelA : ∀ v (x : A), RelA c ow w (okB src c ow f.ob) v x → RelA c (fun b => if b < w.heap.size then ow b else none) w (okB src c (fun b => if b < w.heap.size then ow b else none) f.ob) v x := by
    intro v x hx
    cases x with
    | one y => exact hrel v y hx
    | agg ys => obtain ⟨vs, rfl, ha⟩ := hx; exact ⟨vs, rfl, ha.mono fun u y _ hy => hrel u y hy⟩
  refine ⟨h.defers, fun s n x hm => ?_, fun o n x hm => ?_, h.uniq, h.rvs⟩
  · obtain ⟨v, hv, h1⟩ := h.fr s n x hm
    refine ⟨v, hv, ?_⟩
    cases x with
    | val y => exact hrelA v y h1
    | tup ys => obtain ⟨vs, rfl, ha⟩ := h1; exact ⟨vs, rfl, ha.mono fun u y _ hy => hrelA u y hy⟩
    | un => exact h1
  · have ho := h.ob o n x hm
    cases x with
    | box cs =>
      have hlt := BoxOk.lt ho
      obtain ⟨b1, b2, vs, ty, b3, b4⟩ := ho
      exact ⟨b1, (hown _ hlt).trans b2, vs, ty, b3, b4.mono fun u y _ hy => hrel u y hy⟩
    | row e k t l deep =>
      obtain ⟨r0, r1, r2, xs, G, r3, r4, r5, r6⟩ := ho
      exact ⟨r0, r1, fun g hg => ⟨(r2 g hg).1, (hown _ (ownsRow_lt r3 hg).1).trans (r2 g hg).2⟩, xs, G, r3, r4, fun b hb => hok b (r4.lt b hb) (r5 b hb), fun hd => ⟨(r6 hd).1, fun b hb => by
        obtain ⟨q1, q2, q3, q4⟩ := (r6 hd).2 b hb
        exact ⟨q1, (hown _ (r4.lt b hb)).trans q2, q3, q4⟩⟩⟩
    | win k t l =>
      obtain ⟨r0, r1, G, r2, r3, r4⟩ := ho
      exact ⟨r0, r1, G, r2, r3, fun b hb => ⟨(r4 b hb).1, (hown _ (r2.lt b hb)).trans (r4 b hb).2.1, (r4 b hb).2.2⟩⟩
end
end Go.V
