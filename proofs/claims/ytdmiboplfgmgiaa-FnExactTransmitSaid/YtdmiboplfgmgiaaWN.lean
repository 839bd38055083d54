/-
  Regions: the model does what their meaning says, in whatever order operations come up. Over any program. Conditions: the callees meet their contracts.
-/
import Derived.Test.YtdmiboplfgmgiaaWM
import Derived.Deep.LoopGhost
set_option linter.unusedVariables false
set_option linter.unusedSectionVars false
namespace Go.V
open Go.Ab Go.RowKit

theorem Stays.size {w w' : World} (h : Stays w w') : w.heap.size ≤ w'.heap.size := by
  rcases Nat.eq_zero_or_pos w.heap.size with h0 | h0
  · omega
  · have h1 := h (w.heap.size - 1) (by omega)
    have h2 : w.heap[w.heap.size - 1]? = some w.heap[w.heap.size - 1] := Array.getElem?_eq_getElem (by omega)
    rw [h2] at h1
    have := (Array.getElem?_eq_some_iff.1 h1).1
    omega
theorem Stays.trans {a b c : World} (h : Stays a b) (k : Stays b c) : Stays a c := fun i hi => (k i (Nat.lt_of_lt_of_le hi h.size)).trans (h i hi)

section
variable {P : Program} {ops : Array Oper} {Q : Exit → Act → World → Prop} {W : Nat → Bool}

/-- Slot t is set by k alone, which makes a slice. -/
def Makes (ops : Array Oper) (k t : Nat) : Prop := madeBy ops t k = true ∧ ∀ q, setsIt ops t q = true → q = k
theorem put_get {a : Act} {d : Option Nat} {u : Value} {t : Nat} (h : d ≠ some t) : (a.put d u).eval (.tmp t) = a.eval (.tmp t) := by
  cases d with
  | none => rfl
  | some d =>
    have hne : d ≠ t := fun e => h (by rw [e])
    simp [Act.eval, Act.put, Array.getElem?_setIfInBounds_ne hne]
theorem put_self {a : Act} {u : Value} {t : Nat} {ad : Addr} {n c : Nat} (h : (a.put (some t) u).eval (.tmp t) = .slice (some ad) n c) : u = .slice (some ad) n c := by
  simp only [Act.eval, Act.put] at h
  by_cases hlt : t < a.tmps.size
  · simpa [hlt] using h
  · simp [hlt, undef] at h
/-- What operation j has done, as far as others lean on it. -/
structure RecT (E : List Con) (ops : Array Oper) (j : Nat) (o : Oper) (a : Act) (w : World) (a' : Act) (w' : World) : Prop where
  stays : writes E o.op = false → Stays w w'
  made : ∀ t, Makes ops j t → ∀ ad n c, a'.eval (.tmp t) = .slice (some ad) n c → w.heap.size ≤ ad.block
  kept : ∀ k t, Makes ops k t → j ≠ k → a'.eval (.tmp t) = a.eval (.tmp t)
  app : ∀ x, appBase o.op = some x → (x = .const (.slice none 0 0) ∨ ∃ k t, x = .tmp t ∧ Makes ops k t) → ∀ b, b < w.heap.size → (∀ ad n c, a.eval x = .slice (some ad) n c → b ≠ ad.block) → w'.heap[b]? = w.heap[b]?
  size : w.heap.size ≤ w'.heap.size
theorem Rec.t {E : List Con} {j : Nat} {o : Oper} {a a' : Act} {w w' : World} (hj : ops[j]? = some o) (h : Rec E o a w a' w') : RecT E ops j o a w a' w' := by
  obtain ⟨u, hu, hal⟩ := h.put
  refine ⟨h.stays, fun t hm ad n c he => ?_, fun k t hm hne => ?_, fun x hx _ => h.app x hx, h.size⟩
  · have hmade := hm.1
    simp only [madeBy, hj, Bool.and_eq_true, beq_iff_eq] at hmade
    rw [hu, hmade.2] at he
    exact hal hmade.1 ad n c (put_self he)
  · rw [hu, put_get]
    exact fun hd => hne (hm.2 j (by simp [setsIt, hj, hd]))

def wpAnyR (P : Program) (E : List Con) (ops : Array Oper) (Q : Exit → Act → World → Prop) : Nat → Array Bool → Act → World → Prop
  | 0, listed, a, w => Region.ready .any ops listed = [] ∧ Q .normal a w
  | fuel + 1, listed, a, w =>
    (Region.ready .any ops listed = [] → Q .normal a w) ∧
    ∀ i ∈ Region.ready .any ops listed, wpOp P ops Q i (fun a' w' => (∀ o, ops[i]? = some o → RecT E ops i o a w a' w') ∧ wpAnyR P E ops Q fuel (listed.setIfInBounds i true) a' w') a w

theorem wpAny_of_R {E : List Con} : ∀ (fuel : Nat) (listed : Array Bool) (a : Act) (w : World), wpAnyR P E ops Q fuel listed a w → wpAny P .any ops Q fuel listed a w
  | 0, _, _, _, h => h
  | fuel + 1, _, _, _, h => ⟨h.1, fun i hi => wpOp_mono (fun a' w' h' => wpAny_of_R fuel _ a' w' h'.2) (h.2 i hi)⟩

/-- What slot t holds lies in new memory. -/
def Fresh (w0 : World) (t : Nat) (a : Act) : Prop := ∀ ad n c, a.eval (.tmp t) = .slice (some ad) n c → w0.heap.size ≤ ad.block
/-- What j writes is new memory. -/
def ZOk (ops : Array Oper) (listed : Array Bool) (j : Nat) : Prop := ∃ oj x, ops[j]? = some oj ∧ appBase oj.op = some x ∧ (x = .const (.slice none 0 0) ∨ ∃ t k, x = .tmp t ∧ listed.getD k true = false ∧ Makes ops k t ∧ ∃ e ∈ oj.after, Region.binds .any e = true ∧ e.on = k)

/-- An operation that leaves a value whatever comes before it may be taken first; whatever writes waits for it, or writes new memory. -/
theorem wpAnyR_first {E : List Con} {w0 : World} {i : Nat} {oi : Oper} {v : Value} {D : List Nat} {L0 : Array Bool} (hi : ops[i]? = some oi) (hsel : ∀ (j : Nat) (o : Oper) cs b, ops[j]? = some o → o.op ≠ .select cs b)
    (hQ : ∀ c a w, Q (.panic c) (a.put oi.dst v) w → Q (.panic c) a w) (hval : isVal oi.op = true) :
    ∀ (fuel : Nat) (listed : Array Bool) (a : Act) (w : World),
      (∀ j oj, ops[j]? = some oj → j ≠ i → listed.getD j true = false → (∀ e ∈ oj.after, Region.binds .any e = true → e.on ≠ i) → oi.apart ops oj = true) →
      (∀ k ∈ D, listed.getD k true = false ∧ ∃ ok, ops[k]? = some ok ∧ ∃ e ∈ ok.after, Region.binds .any e = true ∧ (e.on = i ∨ e.on ∈ D)) →
      (∀ j oj, ops[j]? = some oj → writes E oj.op = true → listed.getD j true = false → j ∈ D ∨ ZOk ops L0 j) →
      (∀ k t, L0.getD k true = false → Makes ops k t → listed.getD k true = true → Fresh w0 t (a.put oi.dst v)) →
      i ∈ Region.ready .any ops listed → YieldsIf P ops (Stays w0) oi v a → Stays w0 w → w0.heap.size ≤ w.heap.size →
      wpAnyR P E ops Q fuel (listed.setIfInBounds i true) (a.put oi.dst v) w → wpAnyR P E ops Q (fuel + 1) listed a w := by
  have hdi : ∀ k t, Makes ops k t → oi.dst ≠ some t := fun k t hm hd => by
    have hk := hm.2 i (by simp [setsIt, hi, hd])
    have hmade := hm.1
    rw [← hk] at hmade
    simp only [madeBy, hi, Bool.and_eq_true] at hmade
    rw [isVal_allocs hval] at hmade
    cases hmade.1
  have hrec : ∀ (a : Act) (w : World), ∀ o, ops[i]? = some o → RecT E ops i o a w (a.put oi.dst v) w := fun a w o ho => by
    rw [hi] at ho
    injection ho with ho
    subst ho
    exact Rec.t hi ⟨fun _ _ _ => rfl, ⟨v, rfl, fun ha => by rw [isVal_allocs hval] at ha; cases ha⟩, (fun x hx => by rw [isVal_app hval] at hx; cases hx), Nat.le_refl _⟩
  intro fuel
  induction fuel with
  | zero =>
    intro listed a w _ _ _ _ hr hy hS _ H
    refine ⟨fun h => (by rw [h] at hr; cases hr), fun j hj => ?_⟩
    by_cases hji : j = i
    · subst hji; exact hy.wpOp hi hS ⟨hrec a w, H⟩
    · have := ready_mono hj hji
      rw [H.1] at this
      cases this
  | succ fuel ih =>
    intro listed a w hfree hD hwait hfresh hr hy hS hsz H
    refine ⟨fun h => (by rw [h] at hr; cases hr), fun j hj => ?_⟩
    by_cases hji : j = i
    · subst hji; exact hy.wpOp hi hS ⟨hrec a w, H⟩
    · have h1 := H.2 j (ready_mono hj hji)
      obtain ⟨hjun, oj, hoj, hall⟩ := mem_ready.1 hj
      have hlisted : ∀ e ∈ oj.after, Region.binds .any e = true → listed.getD e.on true = true := fun e he hb => by
        have h1 := hall e he hb
        rcases Nat.lt_or_ge e.on listed.size with h' | h'
        · simp [h'] at h1 ⊢; exact h1
        · simp [Array.getElem?_eq_none h'] at h1
      have hnot : ∀ e ∈ oj.after, Region.binds .any e = true → e.on ≠ i := fun e he hb heq => by
        have h1 := hlisted e he hb
        have h0 := (mem_ready.1 hr).1
        rw [heq, h0] at h1
        cases h1
      have hjD : j ∉ D := fun hm => by
        obtain ⟨_, oj', hoj', e, he, hb, hon⟩ := hD j hm
        rw [hoj] at hoj'
        injection hoj' with hoj'
        subst hoj'
        rcases hon with hon | hon
        · exact hnot e he hb hon
        · have h0 := (hD _ hon).1
          rw [hlisted e he hb] at h0
          cases h0
      have h2 := wpOp_putIf hoj (hfree j oj hoj hji hjun hnot) (fun cs b => hsel i oi cs b hi) (fun cs b => hsel j oj cs b hoj) hQ hy h1
      have hun : ∀ k, (listed.setIfInBounds j true).getD k true = false → listed.getD k true = false := fun k hun => by
        by_cases hjk : j = k
        · subst hjk; exact hjun
        · rw [getD_set_ne true hjk] at hun; exact hun
      refine wpOp_mono (fun a' w' h3 => ?_) h2
      have hRec : RecT E ops j oj (a.put oi.dst v) w (a'.put oi.dst v) w' := h3.2.1 oj hoj
      have hS' : Stays w0 w' := by
        cases hW : writes E oj.op with
        | false => exact hS.trans (hRec.stays hW)
        | true =>
          rcases hwait j oj hoj hW hjun with hm | ⟨oj', x, hoj', hx, hz⟩
          · exact absurd hm hjD
          · rw [hoj] at hoj'
            injection hoj' with hoj'
            subst hoj'
            intro b hlt
            rw [← hS b hlt]
            refine hRec.app x hx (hz.imp id fun ⟨t, k, hxt, _, hmk, _⟩ => ⟨k, t, hxt, hmk⟩) b (Nat.lt_of_lt_of_le hlt hsz) fun ad n c he hb => ?_
            rcases hz with rfl | ⟨t, k, rfl, hk, hmk, e, hein, hbind, rfl⟩
            · cases he
            · have := hfresh e.on t hk hmk (hlisted e hein hbind) ad n c he
              omega
      refine ⟨?_, ih (listed.setIfInBounds j true) a' w' (fun k ok hk hki hu hno => hfree k ok hk hki (hun k hu) hno) (fun k hk => ⟨by rw [getD_set_ne true (show j ≠ k from fun e => hjD (e ▸ hk))]; exact (hD k hk).1, (hD k hk).2⟩) (fun k ok hk hW hu => hwait k ok hk hW (hun k hu)) (fun k t hk hmk hl => ?_) (ready_mono hr (Ne.symm hji)) h3.1 hS' (Nat.le_trans hsz hRec.size) ?_⟩
      · intro o ho
        rw [hoj] at ho
        injection ho with ho
        subst ho
        refine ⟨hRec.stays, fun t hm ad n c he => hRec.made t hm ad n c (by rw [put_get (hdi _ _ hm)]; exact he), fun k t hm hne => ?_, fun x hx hxx b hlt hne => hRec.app x hx hxx b hlt fun ad n c he => hne ad n c ?_, hRec.size⟩
        · have := hRec.kept k t hm hne
          rw [put_get (hdi _ _ hm), put_get (hdi _ _ hm)] at this
          exact this
        · rcases hxx with rfl | ⟨k, t, rfl, hm⟩
          · cases he
          · rw [put_get (hdi _ _ hm)] at he; exact he
      · by_cases hjk : j = k
        · subst hjk
          intro ad n c he
          exact Nat.le_trans hsz (hRec.made t hmk ad n c he)
        · rw [getD_set_ne true hjk] at hl
          intro ad n c he
          rw [hRec.kept k t hmk hjk] at he
          exact hfresh k t hk hmk hl ad n c he
      · rw [Array.setIfInBounds_comm _ _ hji]
        exact h3.2.2
end

/-- Q, but nothing panics. -/
def noPan (Q : Exit → Act → World → Prop) : Exit → Act → World → Prop
  | .panic _, _, _ => False
  | e, a, w => Q e a w

theorem depOn_spec {ops : Array Oper} {i k : Nat} {D : List Nat} (h : depOn ops i D k = true) : ∃ ok, ops[k]? = some ok ∧ ∃ e ∈ ok.after, Region.binds .any e = true ∧ (e.on = i ∨ e.on ∈ D) := by
  unfold depOn at h
  split at h
  · rename_i o ho
    obtain ⟨n, hn, he⟩ := Array.any_eq_true.1 h
    simp only [Bool.and_eq_true, Bool.or_eq_true, beq_iff_eq, List.contains_iff_mem] at he
    exact ⟨o, ho, _, Array.getElem_mem hn, he.1, he.2⟩
  · cases h
theorem wdeps_spec {ops : Array Oper} {listed : Array Bool} {i : Nat} : ∀ (ks D : List Nat), (∀ k ∈ D, listed.getD k true = false ∧ ∃ ok, ops[k]? = some ok ∧ ∃ e ∈ ok.after, Region.binds .any e = true ∧ (e.on = i ∨ e.on ∈ D)) →
    ∀ k ∈ wdeps ops listed i ks D, listed.getD k true = false ∧ ∃ ok, ops[k]? = some ok ∧ ∃ e ∈ ok.after, Region.binds .any e = true ∧ (e.on = i ∨ e.on ∈ wdeps ops listed i ks D)
  | [], D, h => h
  | k :: ks, D, h => by
    refine wdeps_spec ks _ fun q hq => ?_
    cases hc : (!(listed.getD k true) && depOn ops i D k) with
    | false => rw [hc] at hq; simp only [cond_false] at hq ⊢; exact h q hq
    | true =>
      rw [hc] at hq
      simp only [cond_true] at hq ⊢
      simp only [Bool.and_eq_true, Bool.not_eq_true'] at hc
      rcases List.mem_cons.1 hq with rfl | hq
      · obtain ⟨ok, h1, e, h2, h3, h4⟩ := depOn_spec hc.2
        exact ⟨hc.1, ok, h1, e, h2, h3, h4.imp id (List.mem_cons_of_mem _)⟩
      · obtain ⟨h0, ok, h1, e, h2, h3, h4⟩ := h q hq
        exact ⟨h0, ok, h1, e, h2, h3, h4.imp id (List.mem_cons_of_mem _)⟩
theorem zOk_spec {ops : Array Oper} {listed : Array Bool} {j : Nat} (h : zOk ops listed j = true) : ZOk ops listed j := by
  unfold zOk at h
  split at h
  · rename_i o ho
    split at h
    · rename_i hx; exact ⟨o, _, ho, hx, .inl rfl⟩
    · rename_i t hx
      obtain ⟨k, hk, h⟩ := List.any_eq_true.1 h
      simp only [Bool.and_eq_true, Bool.not_eq_true'] at h
      obtain ⟨h1, h2, h3, h4⟩ := h
      obtain ⟨n, hn, he⟩ := Array.any_eq_true.1 h3
      simp only [Bool.and_eq_true, beq_iff_eq] at he
      refine ⟨o, _, ho, hx, .inr ⟨t, k, rfl, h1, ⟨h2, fun q hq => ?_⟩, _, Array.getElem_mem hn, he.1, he.2⟩⟩
      have hlt : q < ops.size := by
        unfold setsIt at hq
        split at hq
        · rename_i hoq; exact (Array.getElem?_eq_some_iff.1 hoq).1
        · cases hq
      have := List.all_eq_true.1 h4 q (List.mem_range.2 hlt)
      simpa [hq] using this
    · cases h
  · cases h
theorem waitB_spec {E : List Con} {ops : Array Oper} {listed : Array Bool} {i : Nat} (h : waitB E ops listed i = true) (j : Nat) (oj : Oper) (hj : ops[j]? = some oj) (hW : writes E oj.op = true) (hu : listed.getD j true = false) : j ∈ wdeps ops listed i (List.range ops.size) [] ∨ ZOk ops listed j := by
  have hlt : j < ops.size := (Array.getElem?_eq_some_iff.1 hj).1
  have h1 := List.all_eq_true.1 h j (List.mem_range.2 hlt)
  have hw : wOf E ops j = true := by simp [wOf, hj, hW]
  simp only [hw, hu, Bool.not_true, Bool.false_or, Bool.or_eq_true, List.contains_iff_mem] at h1
  exact h1.imp id zOk_spec
def Ord.depth : Ord → Nat
  | .z => 0
  | .op _ o => o.depth + 1
  | .alt _ o m => max (o.depth + 1) m.depth
theorem ordOf_depth (E : List Con) (ops : Array Oper) : ∀ (k : Nat) (l : Array Bool), (ordOf E ops k l).depth ≤ k
  | 0, _ => Nat.le_refl _
  | k + 1, l => by
    simp only [ordOf]
    split
    · exact Nat.succ_le_succ (ordOf_depth E ops k _)
    · generalize Region.ready .any ops l = rd
      induction rd with
      | nil => exact Nat.zero_le _
      | cons i is ih => exact Nat.max_le.2 ⟨Nat.succ_le_succ (ordOf_depth E ops k _), ih⟩
theorem both_some {R : Type} {x y : Option R} {r : R} (h : both x y = some r) : x = some r ∧ y = some r := by
  unfold both at h
  obtain ⟨r', h1, h2⟩ := bind_some h
  split at h2
  · rename_i hy
    injection h2 with h2
    subst h2
    exact ⟨h1, hy⟩
  · cases h2
theorem both_self {R : Type} (x : Option R) : both x x = x := by
  unfold both
  cases x with
  | none => rfl
  | some r => simp

section
variable {X : Ctx} {E : List Con} {f : F} {a : Act} {w : World} {o : Oper} {R : Type} {K : F → Option R} {r : R} {ops : Array Oper}

/-- The operation, if it is wanted, brings the frame to one that K takes. -/
def GoesG (X : Ctx) (E : List Con) (ops : Array Oper) (o : Oper) (a : Act) (w : World) (f : F) (K : F → Option R) (r : R) : Prop :=
  ∃ g, K g = some r ∧ Ext f g ∧ ∀ (Kp : Act → World → Prop) (Q : Exit → Act → World → Prop), (∀ a' w', At X g a' w' → Rec E o a w a' w' → Kp a' w') →
    if Region.wanted o (yielded ops a.tmps) then o.wp X.P a w Kp Q else Kp (a.put o.dst undef) w

theorem At.slot (h : At X f a w) {s : Nat} {x : S} (hl : f.look s = some x) : At X (f.put (some s) x) a w := by
  obtain ⟨⟨cx, ow, hs, hpin⟩, hb, hn⟩ := h
  exact ⟨⟨cx, ow, hs.slot hl fun v hv => hv, hpin⟩, hb, hn⟩
theorem At.un (h : At X f a w) {d : Option Nat} (hd : inFrame X.n d = true) : At X (f.put d .un) (a.put d undef) w := by
  obtain ⟨⟨cx, ow, hs, hpin⟩, hb, hn⟩ := id h
  exact h.put hs hpin hd rfl

/-- What a guard says. -/
theorem guard_un (h : At X f a w) {j d : Nat} {want : Bool} (hg : o.guard = some (j, want)) (hj : (ops[j]?).bind (·.dst) = some d) (hl : f.look d = some .un) : Region.wanted o (yielded ops a.tmps) = false := by
  obtain ⟨⟨cx, ow, hs, hpin⟩, hb, hn⟩ := h
  obtain ⟨n, hm⟩ := look_mem hl
  obtain ⟨v, hv, h1⟩ := hs.fr _ _ _ hm
  have h1 : v = undef := h1
  subst h1
  simp only [Region.wanted, hg, yielded, hj, Option.bind_some, hv]
  rfl
theorem guard_bool (h : At X f a w) {j d : Nat} {want b : Bool} (hg : o.guard = some (j, want)) (hj : (ops[j]?).bind (·.dst) = some d) (hl : f.look d = some (.val (.one (.v .bool b)))) : Region.wanted o (yielded ops a.tmps) = (b == want) := by
  obtain ⟨⟨cx, ow, hs, hpin⟩, hb, hn⟩ := h
  obtain ⟨n, hm⟩ := look_mem hl
  obtain ⟨v, hv, h1⟩ := hs.fr _ _ _ hm
  have h1 := RelC_bool (c := cx) (ow := ow) h1
  subst h1
  simp only [Region.wanted, hg, yielded, hj, Option.bind_some, hv]
  cases want <;> cases b <;> rfl

/-- An operation: it is wanted and done, or it is passed over. -/
theorem op_split (h : At X f a w) (hv : evOp X.P X.n E ops f o K = some r) : inFrame X.n o.dst = true ∧
    ((∃ f', Region.wanted o (yielded ops a.tmps) = true ∧ Ext f f' ∧ At X f' a w ∧ evAny X.P E f' o K = some r) ∨ (∃ f', Region.wanted o (yielded ops a.tmps) = false ∧ Ext f f' ∧ At X f' a w ∧ K (f'.put o.dst .un) = some r)) := by
  unfold evOp at hv
  rcases cond_some hv with ⟨hd, hv⟩ | ⟨_, hv⟩
  · refine ⟨hd, ?_⟩
    split at hv
    · rename_i hg
      exact .inl ⟨f, by simp [Region.wanted, hg], .refl _, h, hv⟩
    · rename_i j want hg
      split at hv
      · rename_i d hj
        split at hv
        · rename_i hl
          exact .inr ⟨f, guard_un h hg hj hl, .refl _, h, hv⟩
        · rename_i b hl
          have hw := guard_bool h hg hj hl
          have h' := h.slot hl
          rcases cond_some hv with ⟨hb, hv1⟩ | ⟨hb, hv1⟩
          · rw [hb] at hw h'
            rcases cond_some hv1 with ⟨hq, hv2⟩ | ⟨hq, hv2⟩
            · rw [hq] at hw; exact .inl ⟨_, hw, Ext.put _ _ _, h', hv2⟩
            · rw [hq] at hw; exact .inr ⟨_, hw, Ext.put _ _ _, h', hv2⟩
          · rw [hb] at hw h'
            rcases cond_some hv1 with ⟨hq, hv2⟩ | ⟨hq, hv2⟩
            · rw [hq] at hw; exact .inr ⟨_, hw, Ext.put _ _ _, h', hv2⟩
            · rw [hq] at hw; exact .inl ⟨_, hw, Ext.put _ _ _, h', hv2⟩
        · cases hv
      · cases hv
  · cases hv

theorem op_goes (h : At X f a w) (hE : ∀ c ∈ E, c.Ok X.P) (hv : evOp X.P X.n E ops f o K = some r) : GoesG X E ops o a w f K r := by
  obtain ⟨hd, ⟨f', hw, he, h', hv⟩ | ⟨f', hw, he, h', hv⟩⟩ := op_split h hv
  · obtain ⟨g, h1, h2, h3⟩ := any_goes h' hE hd hv
    refine ⟨g, h1, he.trans h2, fun Kp Q hK => ?_⟩
    rw [if_pos hw]
    exact h3 Kp Q hK
  · refine ⟨_, hv, he.trans (Ext.put _ _ _), fun Kp Q hK => ?_⟩
    rw [if_neg (by rw [hw]; simp)]
    exact hK _ _ (h'.un hd) ⟨fun _ _ _ => rfl, ⟨undef, rfl, fun _ ad n c he => by simp [undef] at he⟩, fun _ _ _ _ _ => rfl, Nat.le_refl _⟩
theorem op_yields (h : At X f a w) (hval : isVal o.op = true) (hv : evOp X.P X.n E ops f o K = some r) : ∃ g v, K g = some r ∧ Ext f g ∧ YieldsIf X.P ops (Stays w) o v a ∧ At X g (a.put o.dst v) w := by
  obtain ⟨hd, ⟨f', hw, he, h', hv⟩ | ⟨f', hw, he, h', hv⟩⟩ := op_split h hv
  · unfold evAny at hv
    rw [hval] at hv
    have hv : evVal X.P f' (fun s => K (f'.put o.dst s)) o.op = some r := hv
    obtain ⟨⟨cx, ow, hs, hpin⟩, hb, hn⟩ := id h'
    obtain ⟨s, ⟨v, hrel, hg⟩, hk⟩ := evVal_sound hs hv
    exact ⟨_, v, hk, he.trans (Ext.put _ _ _), .inl ⟨hw, fun w' hS => hg w' hS⟩, h'.put hs hpin hd hrel⟩
  · exact ⟨_, undef, hv, he.trans (Ext.put _ _ _), .inr ⟨hw, rfl⟩, h'.un hd⟩

theorem ops_sound (hE : ∀ c ∈ E, c.Ok X.P) {Q : Exit → Act → World → Prop} : ∀ (l : List Oper) (f : F) (a : Act) (w : World) {K : F → Option R}, At X f a w → evOps X.P X.n E ops l f K = some r →
    (∀ g a' w', K g = some r → Ext f g → At X g a' w' → Q .normal a' w') → wpList X.P ops Q l a w := by
  intro l
  induction l with
  | nil => intro f a w K h hv hQ; exact wpList_nil (hQ f a w hv (.refl _) h)
  | cons o os ih =>
    intro f a w K h hv hQ
    obtain ⟨g, h1, h2, h3⟩ := op_goes h hE (show evOp X.P X.n E ops f o (fun f' => evOps X.P X.n E ops os f' K) = some r from hv)
    exact wpList_step fun Kp hK => h3 Kp Q fun a' w' h' _ => hK a' w' (ih g a' w' h' h1 fun k a'' w'' k1 k2 k3 => hQ k a'' w'' k1 (h2.trans k2) k3)

theorem draw_sound (hE : ∀ c ∈ E, c.Ok X.P) {Q : Exit → Act → World → Prop} (hns : Region.noSelect ops = true) : ∀ (od : Ord) (b : Bool) (listed : Array Bool) (f : F) (a : Act) (w : World) (fuel : Nat) {K : F → Option R}, od.depth ≤ fuel → At X f a w → evDraw X.P X.n E ops b od listed f K = some r →
    (∀ g a' w', K g = some r → Ext f g → At X g a' w' → Q .normal a' w') →
    (b = false → wpAnyR X.P E ops (noPan Q) fuel listed a w) ∧
    (b = true → ∀ i ∈ od.heads, ∃ fuel', fuel = fuel' + 1 ∧ wpOp X.P ops (noPan Q) i (fun a' w' => (∀ o, ops[i]? = some o → RecT E ops i o a w a' w') ∧ wpAnyR X.P E ops (noPan Q) fuel' (listed.setIfInBounds i true) a' w') a w) := by
  intro od
  induction od with
  | z =>
    intro b listed f a w fuel K _ h hv hQ
    cases b with
    | true => cases hv
    | false =>
      refine ⟨fun _ => ?_, fun hb => by cases hb⟩
      have hv : cond ((Region.ready .any ops listed).isEmpty) (K f) none = some r := hv
      rcases cond_some hv with ⟨hr, hv⟩ | ⟨_, hv⟩
      · have hr : Region.ready .any ops listed = [] := by simpa using hr
        cases fuel with
        | zero => exact ⟨hr, hQ f a w hv (.refl _) h⟩
        | succ fuel => exact ⟨fun _ => hQ f a w hv (.refl _) h, by rw [hr]; simp⟩
      · cases hv
  | op i o ih =>
    intro b listed f a w fuel K hlen h hv hQ
    cases b with
    | true => cases hv
    | false =>
      refine ⟨fun _ => ?_, fun hb => by cases hb⟩
      obtain ⟨fuel, rfl⟩ : ∃ f, fuel = f + 1 := ⟨fuel - 1, by simp [Ord.depth] at hlen; omega⟩
      have hlen' : o.depth ≤ fuel := by simpa [Ord.depth] using hlen
      simp only [evDraw, cond_false] at hv
      split at hv
      · rename_i oi hi
        rcases cond_some hv with ⟨hcase, hv⟩ | ⟨_, hv⟩
        · simp only [mayFirst, Bool.or_eq_true, Bool.and_eq_true, beq_iff_eq] at hcase
          rcases hcase with honly | ⟨hrd, hfr, hwt, hval⟩
          · obtain ⟨g, h1, h2, h3⟩ := op_goes h hE hv
            refine ⟨(fun hn => by rw [honly] at hn; cases hn), fun j hj => ?_⟩
            rw [honly] at hj
            have : j = i := List.mem_singleton.1 hj
            subst this
            unfold wpOp
            simp only [hi]
            have hs1 := h3 (fun a' w' => (∀ o, ops[j]? = some o → RecT E ops j o a w a' w') ∧ wpAnyR X.P E ops (noPan Q) fuel (listed.setIfInBounds j true) a' w') (noPan Q) fun a' w' h' hst => ⟨fun o' ho' => by rw [hi] at ho'; injection ho' with ho'; subst ho'; exact Rec.t hi hst, (ih false _ g a' w' fuel hlen' h' h1 fun k a'' w'' k1 k2 k3 => hQ k a'' w'' k1 (h2.trans k2) k3).1 rfl⟩
            simp only [hi] at hs1
            split
            · rename_i hwant; rw [if_pos hwant] at hs1; exact .inl hs1
            · rename_i hwant; rw [if_neg hwant] at hs1; exact hs1
          · obtain ⟨g, v, h1, h2, hy, hat⟩ := op_yields h hval hv
            exact wpAnyR_first (E := E) (w0 := w) (L0 := listed) hi (Region.noSelect_spec hns) (fun c a w h => h) hval fuel listed a w (Region.free_spec hi hfr) (wdeps_spec _ _ (by simp)) (waitB_spec hwt) (fun k t h1 _ h2 => by rw [h1] at h2; cases h2) (by simpa using hrd) hy (fun _ _ => rfl) (Nat.le_refl _)
              ((ih false _ g _ w fuel hlen' hat h1 fun k a'' w'' k1 k2 k3 => hQ k a'' w'' k1 (h2.trans k2) k3).1 rfl)
        · cases hv
      · cases hv
  | alt i o m ih ihm =>
    intro b listed f a w fuel K hlen h hv hQ
    obtain ⟨fuel, rfl⟩ : ∃ f, fuel = f + 1 := ⟨fuel - 1, by simp only [Ord.depth] at hlen; omega⟩
    have hlen' : o.depth ≤ fuel := by simp only [Ord.depth] at hlen; omega
    have hlenm : m.depth ≤ fuel + 1 := by simp only [Ord.depth] at hlen; omega
    unfold evDraw at hv
    rcases cond_some hv with ⟨hc, hv⟩ | ⟨_, hv⟩
    · split at hv
      · rename_i oi hi
        have one : (evOp X.P X.n E ops f oi fun f' => evDraw X.P X.n E ops false o (listed.setIfInBounds i true) f' K) = some r → wpOp X.P ops (noPan Q) i (fun a' w' => (∀ o, ops[i]? = some o → RecT E ops i o a w a' w') ∧ wpAnyR X.P E ops (noPan Q) fuel (listed.setIfInBounds i true) a' w') a w := by
          intro hv
          obtain ⟨g, h1, h2, h3⟩ := op_goes h hE hv
          unfold wpOp
          simp only [hi]
          have hs1 := h3 (fun a' w' => (∀ o, ops[i]? = some o → RecT E ops i o a w a' w') ∧ wpAnyR X.P E ops (noPan Q) fuel (listed.setIfInBounds i true) a' w') (noPan Q) fun a' w' h' hst => ⟨fun o' ho' => by rw [hi] at ho'; injection ho' with ho'; subst ho'; exact Rec.t hi hst, (ih false _ g a' w' fuel hlen' h' h1 fun k a'' w'' k1 k2 k3 => hQ k a'' w'' k1 (h2.trans k2) k3).1 rfl⟩
          simp only [hi] at hs1
          split
          · rename_i hwant; rw [if_pos hwant] at hs1; exact .inl hs1
          · rename_i hwant; rw [if_neg hwant] at hs1; exact hs1
        have all : ∀ j ∈ i :: m.heads, wpOp X.P ops (noPan Q) j (fun a' w' => (∀ o, ops[j]? = some o → RecT E ops j o a w a' w') ∧ wpAnyR X.P E ops (noPan Q) fuel (listed.setIfInBounds j true) a' w') a w := by
          split at hv
          · intro j hj
            have : j = i := by simpa [Ord.heads] using hj
            subst this
            exact one hv
          · obtain ⟨e1, e2⟩ := both_some hv
            have hm := (ihm true listed f a w (fuel + 1) hlenm h e2 hQ).2 rfl
            intro j hj
            rcases List.mem_cons.1 hj with rfl | hj
            · exact one e1
            · obtain ⟨fuel', he, hw⟩ := hm j hj
              injection he with he
              subst he
              exact hw
        refine ⟨fun hb => ?_, fun _ j hj => ⟨fuel, rfl, all j hj⟩⟩
        subst hb
        have hc : Region.ready .any ops listed = i :: m.heads := by simpa using hc
        refine ⟨fun hn => (by rw [hc] at hn; cases hn), fun j hj => all j (by rw [← hc]; exact hj)⟩
      · cases hv
    · cases hv

theorem At.drew (h : At X f a w) : At X f a { w with drawn := w.drawn + 1 } := by
  obtain ⟨⟨c, ow, hsim, hpin⟩, hb, hn⟩ := h
  have hrep : ∀ {v : Value} {t : T} {G : List Nat}, Rep w v t G → Rep { w with drawn := w.drawn + 1 } v t G := fun h => h.frame fun _ _ => rfl
  have hrepl : ∀ {v : List Value} {t : List T} {G : List Nat}, RepL w v t G → RepL { w with drawn := w.drawn + 1 } v t G := fun h => h.frame fun _ _ => rfl
  have hC : ∀ {ok : Nat → Prop} {v : Value} {x : C}, RelC c ow w ok v x → RelC c ow { w with drawn := w.drawn + 1 } ok v x := by
    intro ok v x h
    cases x with
    | v t y => obtain ⟨G, h1, h2⟩ := h; exact ⟨G, hrep h1, h2⟩
    | ep t y off => obtain ⟨b, base, h1, h2, h3, xs, G, h4, h5, h6⟩ := h; exact ⟨b, base, h1, h2, h3, xs, G, hrepl h4, h5, h6⟩
    | sub r k i off t y => obtain ⟨g, b0, n, cap, h1, h2, G, h3, h4⟩ := h; exact ⟨g, b0, n, cap, h1, h2, G, hrep h3, h4⟩
    | nil => exact h
    | row _ => exact h
    | ptr _ _ => exact h
    | rp _ _ _ _ => exact h
    | any => exact h
  have hA : ∀ {ok : Nat → Prop} {v : Value} {x : A}, RelA c ow w ok v x → RelA c ow { w with drawn := w.drawn + 1 } ok v x := by
    intro ok v x h
    cases x with
    | one y => exact hC h
    | agg ys => obtain ⟨vs, h1, h2⟩ := h; exact ⟨vs, h1, h2.mono fun _ _ _ h => hC h⟩
  refine ⟨⟨c, ow, ⟨hsim.defers, fun s n x hm => ?_, fun o n x hm => ?_, hsim.uniq, hsim.rvs⟩, hpin⟩, ⟨hb.os, hb.tape, hb.output, hb.size, hb.block⟩, hn⟩
  · obtain ⟨v, hv, h1⟩ := hsim.fr s n x hm
    refine ⟨v, hv, ?_⟩
    cases x with
    | val y => exact hA h1
    | tup ys => obtain ⟨vs, h2, h3⟩ := h1; exact ⟨vs, h2, h3.mono fun _ _ _ h => hA h⟩
    | un => exact h1
  · have ho := hsim.ob o n x hm
    cases x with
    | box cs => obtain ⟨b1, b2, vs, ty, b3, b4⟩ := ho; exact ⟨b1, b2, vs, ty, b3, b4.mono fun _ _ _ h => hC h⟩
    | row e k t l deep => obtain ⟨r0, r1, r2, xs, G, r3, r4, r5, r6⟩ := ho; exact ⟨r0, r1, r2, xs, G, r3, hrepl r4, r5, r6⟩
    | win k t l => obtain ⟨r0, r1, G, r2, r3, r4⟩ := ho; exact ⟨r0, r1, G, hrep r2, r3, r4⟩
end
end Go.V
