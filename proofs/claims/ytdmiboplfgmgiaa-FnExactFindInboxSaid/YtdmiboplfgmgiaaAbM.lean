/-
  Regions whose order is open, on abstract frames: whatever order is drawn, it comes to what one order gives. Over any program. Conditions: the obligations that the abstract operations list.
-/
import Derived.Test.YtdmiboplfgmgiaaAbB
namespace Go.Ab
open Go.RowKit

theorem Stays.size {w w' : World} (h : Stays w w') : w.heap.size ≤ w'.heap.size := by
  rcases Nat.eq_zero_or_pos w.heap.size with h0 | h0
  · omega
  · have h1 := h (w.heap.size - 1) (by omega)
    have h2 : w.heap[w.heap.size - 1]? = some w.heap[w.heap.size - 1] := Array.getElem?_eq_getElem (by omega)
    rw [h2] at h1
    have := (Array.getElem?_eq_some_iff.1 h1).1
    omega
theorem Stays.trans {a b c : World} (h : Stays a b) (k : Stays b c) : Stays a c := fun i hi => (k i (Nat.lt_of_lt_of_le hi h.size)).trans (h i hi)

section
variable {P : Program} {ops : Array Oper} {Q : Exit → Act → World → Prop} {W : Nat → Bool}

def wpAnyR (P : Program) (ops : Array Oper) (Q : Exit → Act → World → Prop) (W : Nat → Bool) : Nat → Array Bool → Act → World → Prop
  | 0, listed, a, w => Region.ready .any ops listed = [] ∧ Q .normal a w
  | fuel + 1, listed, a, w =>
    (Region.ready .any ops listed = [] → Q .normal a w) ∧
    ∀ i ∈ Region.ready .any ops listed, wpOp P ops Q i (fun a' w' => (W i = false → Stays w w') ∧ wpAnyR P ops Q W fuel (listed.setIfInBounds i true) a' w') a w

theorem wpAny_of_R : ∀ (fuel : Nat) (listed : Array Bool) (a : Act) (w : World), wpAnyR P ops Q W fuel listed a w → wpAny P .any ops Q fuel listed a w
  | 0, _, _, _, h => h
  | fuel + 1, _, _, _, h => ⟨h.1, fun i hi => wpOp_mono (fun a' w' h' => wpAny_of_R fuel _ a' w' h'.2) (h.2 i hi)⟩

/-- An operation that leaves a value whatever comes before it may be taken first; whatever writes waits for it. -/
theorem wpAnyR_first {w0 : World} {i : Nat} {oi : Oper} {v : Value} (hi : ops[i]? = some oi) (hsel : ∀ (j : Nat) (o : Oper) cs b, ops[j]? = some o → o.op ≠ .select cs b)
    (hQ : ∀ c a w, Q (.panic c) (a.put oi.dst v) w → Q (.panic c) a w) (hWi : W i = false) :
    ∀ (fuel : Nat) (listed : Array Bool) (a : Act) (w : World),
      (∀ j oj, ops[j]? = some oj → j ≠ i → listed.getD j true = false → (∀ e ∈ oj.after, Region.binds .any e = true → e.on ≠ i) → oi.apart ops oj = true) →
      (∀ j oj, ops[j]? = some oj → W j = true → listed.getD j true = false → ∃ e ∈ oj.after, Region.binds .any e = true ∧ e.on = i) →
      i ∈ Region.ready .any ops listed → YieldsIf P ops (Stays w0) oi v a → Stays w0 w →
      wpAnyR P ops Q W fuel (listed.setIfInBounds i true) (a.put oi.dst v) w → wpAnyR P ops Q W (fuel + 1) listed a w := by
  intro fuel
  induction fuel with
  | zero =>
    intro listed a w _ _ hr hy hS H
    refine ⟨fun h => (by rw [h] at hr; cases hr), fun j hj => ?_⟩
    by_cases hji : j = i
    · subst hji; exact hy.wpOp hi hS ⟨fun _ _ _ => rfl, H⟩
    · have := ready_mono hj hji
      rw [H.1] at this
      cases this
  | succ fuel ih =>
    intro listed a w hfree hwait hr hy hS H
    refine ⟨fun h => (by rw [h] at hr; cases hr), fun j hj => ?_⟩
    by_cases hji : j = i
    · subst hji; exact hy.wpOp hi hS ⟨fun _ _ _ => rfl, H⟩
    · have h1 := H.2 j (ready_mono hj hji)
      obtain ⟨hjun, oj, hoj, hall⟩ := mem_ready.1 hj
      have hnot : ∀ e ∈ oj.after, Region.binds .any e = true → e.on ≠ i := fun e he hb heq => by
        have h1 := hall e he hb
        have h0 := (mem_ready.1 hr).1
        rw [heq] at h1
        rcases Nat.lt_or_ge i listed.size with h' | h'
        · simp [h'] at h0 h1; rw [h0] at h1; cases h1
        · simp [Array.getElem?_eq_none h'] at h1
      have hWj : W j = false := by
        cases hW : W j with
        | false => rfl
        | true =>
          obtain ⟨e, he, hb, hon⟩ := hwait j oj hoj hW hjun
          exact absurd hon (hnot e he hb)
      have h2 := wpOp_putIf hoj (hfree j oj hoj hji hjun hnot) (fun cs b => hsel i oi cs b hi) (fun cs b => hsel j oj cs b hoj) hQ hy h1
      have hun : ∀ k, (listed.setIfInBounds j true).getD k true = false → listed.getD k true = false := fun k hun => by
        by_cases hjk : j = k
        · subst hjk; exact hjun
        · rw [getD_set_ne true hjk] at hun; exact hun
      refine wpOp_mono (fun a' w' h3 => ⟨h3.2.1, ih (listed.setIfInBounds j true) a' w' (fun k ok hk hki hu hno => hfree k ok hk hki (hun k hu) hno) (fun k ok hk hW hu => hwait k ok hk hW (hun k hu)) (ready_mono hr (Ne.symm hji)) h3.1 (hS.trans (h3.2.1 hWj)) ?_⟩) h2
      rw [Array.setIfInBounds_comm _ _ hji]
      exact h3.2.2
end

/-- Q, but nothing panics. -/
def noPan (Q : Exit → Act → World → Prop) : Exit → Act → World → Prop
  | .panic _, _, _ => False
  | e, a, w => Q e a w

def wOf (ops : Array Oper) (j : Nat) : Bool :=
  match ops[j]? with
  | some o => writes o.op
  | none => false
/-- Everything that writes and has not come up waits for i. -/
def waitB (ops : Array Oper) (listed : Array Bool) (i : Nat) : Bool :=
  (List.range ops.size).all fun j => !wOf ops j || listed.getD j true || (match ops[j]? with | some o => o.after.any fun e => Region.binds .any e && e.on == i | none => true)

/-- The region in one order: each operation is the only one that may come up, or leaves a value and is free. -/
def drawOps (P : Program) (n : Nat) (hs : List (Nat × Hint)) (ops : Array Oper) : List Nat → Array Bool → St → Option (St × List Prop)
  | [], listed, st => if Region.ready .any ops listed = [] then some (st, []) else none
  | i :: is, listed, st =>
    match ops[i]? with
    | some o =>
      if Region.ready .any ops listed = [i] ∨ ((Region.ready .any ops listed).contains i = true ∧ Region.free .any ops listed i = true ∧ waitB ops listed i = true ∧ writes o.op = false ∧ (valOps P (hintOf hs o.dst) st o.op).isSome = true) then
        match absOp P n hs ops st o with
        | some (st', obs) =>
          match drawOps P n hs ops is (listed.setIfInBounds i true) st' with
          | some (st'', obs') => some (st'', obs ++ obs')
          | none => none
        | none => none
      else none
    | none => none

section
variable {X : Ctx} {st : St} {a : Act} {w : World}

theorem waitB_spec {ops : Array Oper} {listed : Array Bool} {i : Nat} (h : waitB ops listed i = true) (j : Nat) (oj : Oper) (hj : ops[j]? = some oj) (hW : wOf ops j = true) (hu : listed.getD j true = false) : ∃ e ∈ oj.after, Region.binds .any e = true ∧ e.on = i := by
  have hlt : j < ops.size := (Array.getElem?_eq_some_iff.1 hj).1
  have h1 := List.all_eq_true.1 h j (List.mem_range.2 hlt)
  simp only [hW, hj, hu, Bool.not_true, Bool.or_false, Bool.false_or] at h1
  obtain ⟨k, hk, he⟩ := Array.any_eq_true.1 h1
  simp only [Bool.and_eq_true, beq_iff_eq] at he
  exact ⟨_, Array.getElem_mem hk, he.1, he.2⟩

/-- A value operation, guarded or not: what it leaves, in every world in which what was there is there. -/
theorem yields_of {hs : List (Nat × Hint)} {ops : Array Oper} {o : Oper} {st' : St} {obs : List Prop} (h : At X st a w) (hval : (valOps X.P (hintOf hs o.dst) st o.op).isSome = true) (hv : absOp X.P X.n hs ops st o = some (st', obs)) (ho : Ob obs) :
    ∃ v, YieldsIf X.P ops (Stays w) o v a ∧ At X st' (a.put o.dst v) w := by
  obtain ⟨⟨c, ow, hsim⟩, hb, hn⟩ := id h
  obtain ⟨⟨s, obs1⟩, hr⟩ := Option.isSome_iff_exists.1 hval
  unfold absOp at hv
  split at hv
  · rename_i hd
    split at hv
    · rename_i hg
      rw [hr] at hv
      injection hv with hv
      injection hv with e1 e2
      subst e1 e2
      obtain ⟨v, hrel, hgv⟩ := valOps_sound (P := X.P) hsim hr ho
      exact ⟨v, .inl ⟨by simp [Region.wanted, hg], fun w' hS => hgv w' hS⟩, h.put hsim hd (fun _ => hrel) (fun h => by cases h)⟩
    · rename_i j want hg
      split at hv
      · rename_i b hgo
        rw [hr] at hv
        injection hv with hv
        injection hv with e1 e2
        subst e1 e2
        have hw := guardOf_sound hsim hg hgo
        cases b with
        | true =>
          obtain ⟨v, hrel, hgv⟩ := valOps_sound (P := X.P) hsim hr (Ob_when ho rfl)
          exact ⟨v, .inl ⟨hw, fun w' hS => hgv w' hS⟩, h.put hsim hd (fun _ => hrel) (fun h => by cases h)⟩
        | false => exact ⟨undef, .inr ⟨hw, rfl⟩, h.put hsim hd (fun h => by cases h) (fun _ => rfl)⟩
      · cases hv
  · cases hv

theorem drawOps_sound {hs : List (Nat × Hint)} {ops : Array Oper} {Q : Exit → Act → World → Prop} (hns : Region.noSelect ops = true) : ∀ (is : List Nat) (listed : Array Bool) (st : St) (a : Act) (w : World) (fuel : Nat) {st' : St} {obs : List Prop}, is.length ≤ fuel → At X st a w → drawOps X.P X.n hs ops is listed st = some (st', obs) → Ob obs →
    (∀ a' w', At X st' a' w' → Q .normal a' w') → wpAnyR X.P ops (noPan Q) (wOf ops) fuel listed a w := by
  intro is
  induction is with
  | nil =>
    intro listed st a w fuel st' obs _ h hv ho hQ
    unfold drawOps at hv
    split at hv
    · rename_i hr
      injection hv with hv
      injection hv with e1 e2
      subst e1
      cases fuel with
      | zero => exact ⟨hr, hQ a w h⟩
      | succ fuel => exact ⟨fun _ => hQ a w h, by rw [hr]; simp⟩
    · cases hv
  | cons i is ih =>
    intro listed st a w fuel st' obs hlen h hv ho hQ
    obtain ⟨fuel, rfl⟩ : ∃ f, fuel = f + 1 := ⟨fuel - 1, by simp at hlen; omega⟩
    have hlen' : is.length ≤ fuel := by simpa using hlen
    unfold drawOps at hv
    split at hv
    · rename_i o hi
      split at hv
      · rename_i hcase
        split at hv
        · rename_i st1 obs1 h1
          split at hv
          · rename_i st2 obs2 h2
            injection hv with hv
            injection hv with e1 e2
            subst e1 e2
            obtain ⟨o1, o2⟩ := Ob_append ho
            have hWi : wOf ops i = writes o.op := by simp [wOf, hi]
            rcases hcase with honly | ⟨hrd, hfr, hwt, hnw, hval⟩
            · refine ⟨(fun hn => by rw [honly] at hn; cases hn), fun j hj => ?_⟩
              rw [honly] at hj
              have : j = i := List.mem_singleton.1 hj
              subst this
              unfold wpOp
              simp only [hi]
              have hs1 := absOp_sound (Q := noPan Q) (K := fun a' w' => (wOf ops j = false → Stays w w') ∧ wpAnyR X.P ops (noPan Q) (wOf ops) fuel (listed.setIfInBounds j true) a' w') h h1 o1 fun a' w' h' hst => ⟨fun hw => hst (by rw [← hWi]; exact hw), ih _ st1 a' w' fuel hlen' h' h2 o2 hQ⟩
              split
              · rename_i hwant; rw [if_pos hwant] at hs1; exact .inl hs1
              · rename_i hwant; rw [if_neg hwant] at hs1; exact hs1
            · obtain ⟨v, hy, hat⟩ := yields_of h hval h1 o1
              refine wpAnyR_first (w0 := w) hi (Region.noSelect_spec hns) (fun c a w h => h) (by rw [hWi]; exact hnw) fuel listed a w (Region.free_spec hi hfr) (waitB_spec hwt) (by simpa using hrd) hy (fun _ _ => rfl) (ih _ st1 _ w fuel hlen' hat h2 o2 hQ)
          · cases hv
        · cases hv
      · cases hv
    · cases hv

theorem At.drew (h : At X st a w) : At X st a { w with drawn := w.drawn + 1 } := by
  obtain ⟨⟨c, ow, hsim⟩, hb, hn⟩ := h
  exact ⟨⟨c, ow, hsim.world (w' := { w with drawn := w.drawn + 1 }) (Nat.le_refl _) (fun _ _ => rfl) (fun _ _ _ h => h)⟩, ⟨hb.os, hb.tape, hb.output, hb.size, hb.block⟩, hn⟩

theorem aw_draw {id : Nat} {ops : Array Oper} {Q : Exit → St → Prop} (hs : List (Nat × Hint)) (order : List Nat) (st' : St) (obs : List Prop) (hm : X.P.follows .mixedOrders = true) (hns : Region.noSelect ops = true) (hl : order.length ≤ ops.size)
    (h : drawOps X.P X.n hs ops order (Array.replicate ops.size false) st = some (st', obs)) (ho : Ob obs) (hq : Q .normal st') : aw X (.region id ops true) Q st := by
  intro a w hat
  have h1 : (Code.region id ops true).wp X.P (noPan fun e a' w' => ∃ st', Q e st' ∧ At X st' a' w') a w :=
    wp_region_any hm (wpAny_of_R _ _ _ _ (drawOps_sound hns order _ st a _ ops.size hl hat.drew h ho fun a' w' h' => ⟨st', hq, h'⟩))
  refine Code.wp_mono (fun e a' w' hq => ?_) h1
  cases e with
  | panic c => exact hq.elim
  | _ => exact hq
end
end Go.Ab
