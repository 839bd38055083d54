/-
  A call by its contract: what the callee has made is taken over. Over any program. Conditions: none beyond the meaning.
-/
import Derived.Test.YtdmiboplfgmgiaaWI
set_option linter.unusedVariables false
set_option linter.unusedSectionVars false
namespace Go.V
open Go.Ab Go.RowKit

section
variable {M src : Nat → Prop} {c : Cx} {ow : Nat → Option Nat} {f : F} {a : Act} {w : World}

theorem okPost_iff {sl win : Bool} {d : Nat} {p : F} (h : okPost sl win d p = true) : p.fr.map (·.1) = List.range p.fr.length ∧ (p.ob.map (·.1)).Nodup ∧ (∀ e ∈ p.ob, okO d e = true) ∧ (∀ e ∈ p.fr, okS sl (p.ob.map (·.1)) e.2.2 = true) ∧ ¬ (sl = true ∧ win = true) := by
  simp only [okPost, Bool.and_eq_true, beq_iff_eq, List.all_eq_true, Bool.not_eq_true'] at h
  obtain ⟨h1, h2, h3, h4, h5⟩ := h
  exact ⟨h1, nodupB_sound h2, h3, h4, fun ⟨e1, e2⟩ => by rw [e1, e2] at h5; cases h5⟩
theorem okO_row {d : Nat} {e : Nat × Nat × O} (h : okO d e = true) : (∃ x k, ∃ (t : Ty) (l : List (den t)), e.2.2 = .row x k t l true) ∧ pinned (callId d + e.1) = false := by
  unfold okO at h
  split at h
  · rename_i x k t l he
    exact ⟨⟨x, k, t, l, he⟩, by simpa using h⟩
  · cases h

/-- Contexts and owners of the joined frame. -/
theorem join_sound (h : SimC M src c ow f a w) (hsf : f.subFree) (hown0 : ∀ b, w.heap.size ≤ b → ow b = none) {M' src' : Nat → Prop} {c' : Cx} {ow' : Nat → Option Nat} {p : F} {a' : Act} {w' : World} {d : Nat} {sl win : Bool} (hp : SimC M' src' c' ow' p a' w') (hM' : ∀ b, M' b → w.heap.size ≤ b ∧ M b ∧ src b) (hsz : w.heap.size ≤ w'.heap.size) (hblk : ∀ b, b < w.heap.size → w'.heap[b]? = w.heap[b]?)
    (hpost : okPost sl win d p = true) (hsl : sl = true → ∀ b, src' b → (w.heap.size ≤ b ∧ src b) ∨ (b < w.heap.size ∧ okB src c ow f.ob b)) :
    ∃ c'' ow'', SimC M src c'' ow'' (adopt d win f p.ob) a w' ∧ (∀ o, pinned o = true → c''.loc o = c.loc o ∧ c''.rv o = c.rv o) ∧ ∀ v x, okA sl (p.ob.map (·.1)) x = true → RelA c' ow' w' (okB src' c' ow' p.ob) v x → RelA c'' ow'' w' (okB src c'' ow'' (adopt d win f p.ob).ob) v (shA (callId d) x) := by
  classical
  obtain ⟨hp1, hp2, hp3, hp4, hp5⟩ := okPost_iff hpost
  have hrow : ∀ e ∈ p.ob, ∃ x k, ∃ (t : Ty) (l : List (den t)), e.2.2 = .row x k t l true := fun e he => (okO_row (hp3 e he)).1
  have hnbox : ∀ e ∈ p.ob, ∀ cs, e.2.2 ≠ .box cs := fun e he cs hc => by obtain ⟨x, k, t, l, h1⟩ := hrow e he; rw [h1] at hc; cases hc
  let isN : Nat → Prop := fun o => ∃ e ∈ p.ob, o = callId d + e.1
  let c'' : Cx := ⟨fun o => if isN o then c'.loc (o - callId d) else c.loc o, fun o => if isN o then c'.rv (o - callId d) else c.rv o⟩
  let ow'' : Nat → Option Nat := fun b => if b < w.heap.size then (if ∃ o, isN o ∧ ow b = some o then none else ow b) else if ∃ e ∈ p.ob, ow' b = some e.1 then (ow' b).map (callId d + ·) else none
  have hcN : ∀ e ∈ p.ob, c''.rv (callId d + e.1) = c'.rv e.1 := fun e he => by
    have : isN (callId d + e.1) := ⟨e, he, rfl⟩
    show (if isN (callId d + e.1) then c'.rv (callId d + e.1 - callId d) else _) = _
    rw [if_pos this]
    congr 1
    omega
  have hcO : ∀ o, ¬ isN o → c''.loc o = c.loc o ∧ c''.rv o = c.rv o := fun o ho => ⟨if_neg ho, if_neg ho⟩
  have howO : ∀ b o, b < w.heap.size → ¬ isN o → ow b = some o → ow'' b = some o := fun b o hb ho h1 => by
    show (if b < w.heap.size then _ else _) = _
    rw [if_pos hb, if_neg]
    · exact h1
    · rintro ⟨o', ho', h2⟩
      rw [h1] at h2
      injection h2 with h2
      subst h2
      exact ho ho'
  have howN : ∀ b, w.heap.size ≤ b → ∀ e ∈ p.ob, ow' b = some e.1 → ow'' b = some (callId d + e.1) := fun b hb e he h1 => by
    show (if b < w.heap.size then _ else _) = _
    rw [if_neg (by omega), if_pos ⟨e, he, h1⟩, h1]
    rfl
  have howI : ∀ b o, ow'' b = some o → (b < w.heap.size ∧ ow b = some o ∧ ¬ isN o) ∨ (w.heap.size ≤ b ∧ ∃ e ∈ p.ob, o = callId d + e.1 ∧ ow' b = some e.1) := by
    intro b o h1
    have h1 : (if b < w.heap.size then (if ∃ o, isN o ∧ ow b = some o then none else ow b) else if ∃ e ∈ p.ob, ow' b = some e.1 then (ow' b).map (callId d + ·) else none) = some o := h1
    split at h1
    · rename_i hb
      split at h1
      · cases h1
      · rename_i hx; exact .inl ⟨hb, h1, fun ho => hx ⟨o, ho, h1⟩⟩
    · rename_i hb
      split at h1
      · rename_i hx
        obtain ⟨e, he, h2⟩ := hx
        rw [h2] at h1
        injection h1 with h1
        exact .inr ⟨by omega, e, he, h1.symm, h2⟩
      · cases h1
  have hold : ∀ o, (∀ e ∈ p.ob, o ≠ callId d + e.1) → ¬ isN o := fun o ho ⟨e, he, h1⟩ => ho e he h1
  have hlv : ∀ b, live c'' ow'' (adopt d win f p.ob).ob b → (b < w.heap.size ∧ live c ow f.ob b) ∨ (w.heap.size ≤ b ∧ (live c' ow' p.ob b ∨ win = true)) := by
    rintro b ⟨o, n, x, hm, hx⟩
    rcases adopt_ob hnbox hm with ⟨e, he, rfl, rfl⟩ | ⟨hne, m, y, hy, hsc, _, _⟩
    · obtain ⟨x, k, t, l, hxe⟩ := hrow e he
      rw [hxe] at hx
      cases win with
      | true =>
        have hx : ow'' b = some (callId d + e.1) := hx
        rcases howI b _ hx with ⟨h1, h2, h3⟩ | ⟨h1, _⟩
        · exact absurd ⟨e, he, rfl⟩ h3
        · exact .inr ⟨h1, .inr rfl⟩
      | false =>
        have hx : (c''.rv (callId d + e.1)).ownBlock = some b := hx
        rw [hcN e he] at hx
        have hob := hp.ob e.1 e.2.1 e.2.2 he
        rw [hxe] at hob
        have hM := (hob.2.2.1 b hx).1
        exact .inr ⟨(hM' b hM).1, .inl ⟨e.1, e.2.1, e.2.2, he, by rw [hxe]; exact hx⟩⟩
    · have hnN := hold o hne
      have hob := h.ob o m y hy
      have hyb := hsc.le.blk hx
      cases y with
      | box cs =>
        have hyb : c''.loc o = b := hyb
        rw [(hcO o hnN).1] at hyb
        exact .inl ⟨hob.lt (by simp) hyb, ⟨o, m, _, hy, hyb⟩⟩
      | row e k t l deep =>
        have hyb : (c''.rv o).ownBlock = some b := hyb
        rw [(hcO o hnN).2] at hyb
        exact .inl ⟨hob.lt (by simp) hyb, ⟨o, m, _, hy, hyb⟩⟩
      | win k t l =>
        have hyb : ow'' b = some o := hyb
        rcases howI b o hyb with ⟨h1, h2, _⟩ | ⟨_, e, he, h3, _⟩
        · exact .inl ⟨h1, ⟨o, m, _, hy, h2⟩⟩
        · exact absurd h3 (hne e he)
  have hokO : ∀ b, b < w.heap.size → okB src c ow f.ob b → okB src c'' ow'' (adopt d win f p.ob).ob b := fun b hlt hok => ⟨hok.1, fun hl => by
    rcases hlv b hl with ⟨_, h1⟩ | ⟨h1, _⟩
    · exact hok.2 h1
    · omega⟩
  have kp : Keeps w w' (okB src c ow f.ob) (okB src c'' ow'' (adopt d win f p.ob).ob) := ⟨hsz, fun b hlt _ => hblk b hlt, hokO⟩
  refine ⟨c'', ow'', ⟨h.defers, fun s n x hm => ?_, fun o n x hm => ?_, adopt_uniq h.uniq, fun r => ?_⟩, fun o ho => ?_, fun v x hx hr => ?_⟩
  · obtain ⟨h1, h2⟩ := adopt_fr hm
    obtain ⟨v, hv, h3⟩ := h.fr s n x h1
    refine ⟨v, hv, (h3.agree fun o ho => hcO o fun ⟨e, he, h4⟩ => ?_).keep (hsf.1 s n x h1) kp⟩
    have := h2 e he
    rw [← h4, ho] at this
    cases this
  · rcases adopt_ob hnbox hm with ⟨e, he, rfl, rfl⟩ | ⟨hne, m, y, hy, hsc, hnm, hsub⟩
    · obtain ⟨x, k, t, l, hxe⟩ := hrow e he
      have hob := hp.ob e.1 e.2.1 e.2.2 he
      rw [hxe] at hob ⊢
      obtain ⟨r0, r1, r2, xs, G, r3, r4, r5, r6⟩ := hob
      obtain ⟨n1, n2⟩ := r6 rfl
      cases win with
      | false =>
        refine ⟨r0, r1, fun g hg => ?_, xs, G, by rw [hcN e he]; exact r3, r4, fun b hb => ?_, fun _ => ⟨n1, fun b hb => ?_⟩⟩
        · rw [hcN e he] at hg
          obtain ⟨q1, q2⟩ := r2 g hg
          exact ⟨(hM' g q1).2.1, howN g (hM' g q1).1 e he q2⟩
        · have q1 := (n2 b hb).1
          refine ⟨(hM' b q1).2.2, fun hl => ?_⟩
          rcases hlv b hl with ⟨h1, _⟩ | ⟨_, h2 | h2⟩
          · have := (hM' b q1).1; omega
          · exact (r5 b hb).2 h2
          · cases h2
        · obtain ⟨q1, q2, q3, q4⟩ := n2 b hb
          exact ⟨(hM' b q1).2.1, howN b (hM' b q1).1 e he q2, by rw [hcN e he]; exact q3, q4⟩
      | true =>
        obtain ⟨G', g1, g2, g3⟩ := row_taken hp (obj_of_mem hp (show (e.1, e.2.1, O.row x k t l true) ∈ p.ob by rw [← hxe]; exact he))
        obtain ⟨g4, g5⟩ := g3 rfl
        refine ⟨r0, r1, G', by rw [hcN e he]; exact g1, g4, fun b hb => ?_⟩
        obtain ⟨q1, q2, r', hr', q3⟩ := g5 b hb
        rw [List.mem_singleton.1 hr'] at q3
        exact ⟨(hM' b q1).2.1, howN b (hM' b q1).1 e he q3, q2⟩
    · have hnN := hold o hne
      have h1 := (h.ob o m y hy).le hsc.le
      have hs1 := hsub (hsf.2 o m y hy)
      have h2 : ObOk M c'' ow w (okB src c ow f.ob) o x := by
        obtain ⟨k1, k2⟩ := hcO o hnN
        cases x with
        | box cs =>
          obtain ⟨b1, b2, vs, ty, b3, b4⟩ := h1
          refine ⟨by rw [k1]; exact b1, by rw [k1]; exact b2, vs, ty, by rw [k1]; exact b3, b4.mono fun u z hz hr => hr.agree fun q hq => hcO q fun ⟨e, he, h4⟩ => ?_⟩
          have := hnm e he
          simp only [O.names, List.any_eq_false] at this
          exact this z hz (by rw [← h4]; exact hq)
        | row e k t l deep =>
          obtain ⟨r0, r1, r2, xs, G, r3, r4, r5, r6⟩ := h1
          exact ⟨r0, r1, by rw [k2]; exact r2, xs, G, by rw [k2]; exact r3, r4, r5, by rw [k2]; exact r6⟩
        | win k t l =>
          obtain ⟨r0, r1, G, r2, r3, r4⟩ := h1
          exact ⟨r0, r1, G, by rw [k2]; exact r2, r3, r4⟩
      exact h2.keep hs1 kp (fun b hlt _ _ => hblk b hlt) (fun b hlt h3 => howO b o hlt hnN h3)
  · show ∃ ad n k, (if isN r then c'.rv (r - callId d) else c.rv r) = .slice ad n k
    split
    · exact hp.rvs _
    · exact h.rvs r
  · refine hcO o fun ⟨e, he, h1⟩ => ?_
    have := (okO_row (hp3 e he)).2
    rw [← h1, ho] at this
    cases this
  · have hC : ∀ (v : Value) (x : C), okC sl (p.ob.map (·.1)) x = true → RelC c' ow' w' (okB src' c' ow' p.ob) v x → RelC c'' ow'' w' (okB src c'' ow'' (adopt d win f p.ob).ob) v (shC (callId d) x) := by
      intro v x hx hr
      cases x with
      | v t y =>
        obtain ⟨G, g1, g2⟩ := hr
        simp only [okC, Bool.or_eq_true] at hx
        cases hs : sl with
        | false =>
          rw [hs] at hx
          have hfl : flat t = true := by simpa using hx
          obtain ⟨rfl, _⟩ := flat_lit g1 hfl
          exact ⟨[], g1, by simp⟩
        | true =>
          refine ⟨G, g1, fun b hb => ?_⟩
          obtain ⟨q1, q2⟩ := g2 b hb
          have hwin : win = false := by
            cases hw : win with
            | false => rfl
            | true => exact absurd ⟨hs, hw⟩ hp5
          rcases hsl hs b q1 with ⟨h1, h2⟩ | ⟨h1, h2⟩
          · refine ⟨h2, fun hl => ?_⟩
            rcases hlv b hl with ⟨h3, _⟩ | ⟨_, h4 | h4⟩
            · omega
            · exact q2 h4
            · rw [hwin] at h4; cases h4
          · exact hokO b h1 h2
      | row r =>
        simp only [okC] at hx
        have hx : r ∈ p.ob.map (·.1) := by simpa using hx
        obtain ⟨e, he, rfl⟩ := List.mem_map.1 hx
        have hr : v = c'.rv e.1 := hr
        show v = c''.rv (callId d + e.1)
        rw [hcN e he]
        exact hr
      | _ => cases hx
    cases x with
    | one y => exact hC v y hx hr
    | agg ys =>
      obtain ⟨vs, rfl, ha⟩ := hr
      simp only [okA, List.all_eq_true] at hx
      refine ⟨vs, rfl, ?_⟩
      have : ∀ {us : List Value} {zs : List C}, All2 (RelC c' ow' w' (okB src' c' ow' p.ob)) us zs → (∀ z ∈ zs, okC sl (p.ob.map (·.1)) z = true) → All2 (RelC c'' ow'' w' (okB src c'' ow'' (adopt d win f p.ob).ob)) us (zs.map (shC (callId d))) := by
        intro us zs hu
        induction hu with
        | nil => intro _; exact .nil
        | cons h1 h2 ih => intro hz; exact .cons (hC _ _ (hz _ (List.mem_cons_self ..)) h1) (ih fun z hz' => hz z (List.mem_cons_of_mem _ hz'))
      exact this ha hx

/-- The values that a callee hands back, one by one. -/
theorem results_all {M' src' : Nat → Prop} {c' : Cx} {ow' : Nat → Option Nat} {p : F} {us : List Value} {sl : Bool} {ids : List Nat} (hp : SimC M' src' c' ow' p (actL us) w) (hlen : us.length = p.fr.length) (h1 : p.fr.map (·.1) = List.range p.fr.length) (h2 : ∀ e ∈ p.fr, okS sl ids e.2.2 = true) : All2 (RelA c' ow' w (okB src' c' ow' p.ob)) us (resAs p.fr) ∧ ∀ x ∈ resAs p.fr, okA sl ids x = true := by
  have key : ∀ (es : List (Nat × Nat × S)) (k : Nat), (∀ e ∈ es, e ∈ p.fr) → es.map (·.1) = List.range' k es.length → (∀ e ∈ es, okS sl ids e.2.2 = true) → k + es.length = us.length → All2 (RelA c' ow' w (okB src' c' ow' p.ob)) (us.drop k) (resAs es) ∧ ∀ x ∈ resAs es, okA sl ids x = true := by
    intro es
    induction es with
    | nil =>
      intro k _ _ _ hk
      have : us.drop k = [] := List.drop_eq_nil_of_le (by simp at hk; omega)
      rw [this]
      exact ⟨.nil, by simp [resAs]⟩
    | cons e es ih =>
      intro k hm hr ho hk
      obtain ⟨s, n, x⟩ := e
      simp only [List.map_cons, List.length_cons, List.range'_succ, List.cons.injEq] at hr
      obtain ⟨rfl, hr⟩ := hr
      have hox := ho (s, n, x) (List.mem_cons_self ..)
      cases x with
      | val y =>
        obtain ⟨i1, i2⟩ := ih (s + 1) (fun e he => hm e (List.mem_cons_of_mem _ he)) hr (fun e he => ho e (List.mem_cons_of_mem _ he)) (by simp at hk; omega)
        obtain ⟨v, hv, hrel⟩ := hp.fr s n _ (hm _ (List.mem_cons_self ..))
        have hv' : us[s]? = some v := by simpa [actL] using hv
        have hlt : s < us.length := (List.getElem?_eq_some_iff.1 hv').1
        rw [List.drop_eq_getElem_cons hlt]
        have he : us[s] = v := (List.getElem?_eq_some_iff.1 hv').2
        rw [he]
        refine ⟨.cons hrel i1, fun z hz => ?_⟩
        rcases List.mem_cons.1 hz with rfl | hz
        · exact hox
        · exact i2 z hz
      | tup _ => cases hox
      | un => cases hox
  have := key p.fr 0 (fun e he => he) (by rw [h1, List.range_eq_range']) h2 (by omega)
  simpa using this
end

section
variable {X : Ctx} {E : List Con} {f : F} {a : Act} {w : World} {o : Oper} {R : Type} {K : F → Option R} {r : R}
theorem RelS_res {c : Cx} {ow : Nat → Option Nat} {ok : Nat → Prop} {v : Value} {us : List Value} {xs : List A} (hv : ResIs v us) (h : All2 (RelA c ow w ok) us xs) : RelS c ow w ok v (resS xs) := by
  cases h with
  | nil => exact ⟨[], hv, .nil⟩
  | cons h1 h2 =>
    cases h2 with
    | nil => have hv : v = _ := hv; subst hv; exact h1
    | cons h2 h3 => exact ⟨_, hv, .cons h1 (.cons h2 h3)⟩
end
end Go.V
