/-
  Typed frames and what code makes of them, over any program: part 3. Conditions: none.
-/
import Derived.Test.YtdbdocgoojoleaaV2
import Derived.Deep.LoopGhost
import Derived.ProofKit
import Derived.OpenShut
import Derived.Carry
set_option linter.unusedVariables false
set_option linter.unusedSectionVars false
namespace Go.V
open Go.Ab Go.RowKit

theorem Stays.size {w w' : World} (h : Stays w w') : w.heap.size ≤ w'.heap.size := by
  rcases Nat.eq_zero_or_pos w.heap.size with h0 | h0
  · omega
  · have h1 := h (w.heap.size - 1) (by omega)
    have h2 : w.heap[w.heap.size - 1]? = some w.heap[w.heap.size - 1] := Array.getElem?_eq_getElem (by omega)
    rw [h2] at h1
    have := (Array.getElem?_eq_some_iff.1 h1).1
    omega
theorem Stays.trans {a b c : World} (h : Stays a b) (k : Stays b c) : Stays a c := fun i hi => (k i (Nat.lt_of_lt_of_le hi h.size)).trans (h i hi)

section
variable {P : Program} {ops : Array Oper} {Q : Exit → Act → World → Prop} {W : Nat → Bool}

/-- Slot t is set by k alone, which makes new memory or appends. -/
def Makes (ops : Array Oper) (k t : Nat) : Prop := madeBy ops t k = true ∧ ∀ q, setsIt ops t q = true → q = k
theorem put_get {a : Act} {d : Option Nat} {u : Value} {t : Nat} (h : d ≠ some t) : (a.put d u).eval (.tmp t) = a.eval (.tmp t) := by
  cases d with
  | none => rfl
  | some d =>
    have hne : d ≠ t := fun e => h (by rw [e])
    simp [Act.eval, Act.put, Array.getElem?_setIfInBounds_ne hne]
theorem put_self {a : Act} {u : Value} {t b : Nat} (h : blkOf ((a.put (some t) u).eval (.tmp t)) = some b) : blkOf u = some b := by
  simp only [Act.eval, Act.put] at h
  by_cases hlt : t < a.tmps.size
  · simpa [hlt] using h
  · simp [hlt, undef, blkOf] at h
/-- What operation j has done, as far as others lean on it. -/
structure RecT (E : List Con) (ops : Array Oper) (j : Nat) (o : Oper) (a : Act) (w : World) (a' : Act) (w' : World) : Prop where
  stays : writes E o.op = false → Stays w w'
  made : ∀ t, Makes ops j t → allocs o.op = true → ∀ b, blkOf (a'.eval (.tmp t)) = some b → w.heap.size ≤ b
  appd : ∀ t x, Makes ops j t → isApp o.op = true → appBase o.op = some x → (x = .const (.slice none 0 0) ∨ ∃ k t', x = .tmp t' ∧ Makes ops k t') → ∀ b, blkOf (a'.eval (.tmp t)) = some b → w.heap.size ≤ b ∨ blkOf (a.eval x) = some b
  kept : ∀ k t, Makes ops k t → j ≠ k → a'.eval (.tmp t) = a.eval (.tmp t)
  app : ∀ x, appBase o.op = some x → (x = .const (.slice none 0 0) ∨ ∃ k t, x = .tmp t ∧ Makes ops k t) → ∀ b, b < w.heap.size → (∀ b', blkOf (a.eval x) = some b' → b ≠ b') → w'.heap[b]? = w.heap[b]?
  size : w.heap.size ≤ w'.heap.size
theorem makes_dst {j : Nat} {o : Oper} {t : Nat} (hj : ops[j]? = some o) (hm : Makes ops j t) : o.dst = some t := by
  have h := hm.1
  simp only [madeBy, hj, Bool.and_eq_true, beq_iff_eq] at h
  exact h.2
theorem Rec.t {E : List Con} {j : Nat} {o : Oper} {a a' : Act} {w w' : World} (hj : ops[j]? = some o) (h : Rec E o a w a' w') : RecT E ops j o a w a' w' := by
  obtain ⟨u, hu, hal, hap⟩ := h.put
  refine ⟨h.stays, fun t hm ha b he => ?_, fun t x hm hp hx _ b he => ?_, fun k t hm hne => ?_, fun x hx _ => h.app x hx, h.size⟩
  · rw [hu, makes_dst hj hm] at he
    exact hal ha b (put_self he)
  · rw [hu, makes_dst hj hm] at he
    exact hap hp x hx b (put_self he)
  · rw [hu, put_get]
    exact fun hd => hne (hm.2 j (by simp [setsIt, hj, hd]))

def wpAnyR (P : Program) (E : List Con) (ops : Array Oper) (Q : Exit → Act → World → Prop) : Nat → Array Bool → Act → World → Prop
  | 0, listed, a, w => Region.ready .any ops listed = [] ∧ Q .normal a w
  | fuel + 1, listed, a, w =>
    (Region.ready .any ops listed = [] → Q .normal a w) ∧
    ∀ i ∈ Region.ready .any ops listed, wpOp P ops Q i (fun a' w' => (∀ o, ops[i]? = some o → RecT E ops i o a w a' w') ∧ wpAnyR P E ops Q fuel (listed.setIfInBounds i true) a' w') a w

theorem wpAny_of_R {E : List Con} : ∀ (fuel : Nat) (listed : Array Bool) (a : Act) (w : World), wpAnyR P E ops Q fuel listed a w → wpAny P .any ops Q fuel listed a w
  | 0, _, _, _, h => h
  | fuel + 1, _, _, _, h => ⟨h.1, fun i hi => wpOp_mono (fun a' w' h' => wpAny_of_R fuel _ a' w' h'.2) (h.2 i hi)⟩

/-- What slot t holds lies in new memory. -/
def Fresh (w0 : World) (t : Nat) (a : Act) : Prop := ∀ b, blkOf (a.eval (.tmp t)) = some b → w0.heap.size ≤ b
/-- Operation k leaves new memory in slot t, and has not come up at L0. -/
inductive NewS (ops : Array Oper) (L0 : Array Bool) : Nat → Nat → Prop
  | alloc {k t : Nat} {o : Oper} (hk : L0.getD k true = false) (hm : Makes ops k t) (ho : ops[k]? = some o) (ha : allocs o.op = true) : NewS ops L0 k t
  | nil {k t : Nat} {o : Oper} (hk : L0.getD k true = false) (hm : Makes ops k t) (ho : ops[k]? = some o) (hp : isApp o.op = true) (hx : appBase o.op = some (.const (.slice none 0 0))) : NewS ops L0 k t
  | app {k t k' t' : Nat} {o : Oper} (hk : L0.getD k true = false) (hm : Makes ops k t) (ho : ops[k]? = some o) (hp : isApp o.op = true) (hx : appBase o.op = some (.tmp t')) (hn : NewS ops L0 k' t') (hw : ∃ e ∈ o.after, Region.binds .any e = true ∧ e.on = k') : NewS ops L0 k t
theorem NewS.makes {L0 : Array Bool} {k t : Nat} (h : NewS ops L0 k t) : Makes ops k t := by
  cases h with
  | alloc _ hm _ _ => exact hm
  | nil _ hm _ _ _ => exact hm
  | app _ hm _ _ _ _ _ => exact hm
theorem NewS.unl {L0 : Array Bool} {k t : Nat} (h : NewS ops L0 k t) : L0.getD k true = false := by
  cases h with
  | alloc hk _ _ _ => exact hk
  | nil hk _ _ _ _ => exact hk
  | app hk _ _ _ _ _ _ => exact hk
/-- What j writes is new memory. -/
def ZOk (ops : Array Oper) (listed : Array Bool) (j : Nat) : Prop := ∃ oj x, ops[j]? = some oj ∧ appBase oj.op = some x ∧ (x = .const (.slice none 0 0) ∨ ∃ t k, x = .tmp t ∧ NewS ops listed k t ∧ ∃ e ∈ oj.after, Region.binds .any e = true ∧ e.on = k)

/-- An operation that leaves a value whatever comes before it may be taken first; where memory matters to it, whatever writes waits for it, or writes new memory. -/
theorem wpAnyR_first {E : List Con} {w0 : World} {i : Nat} {oi : Oper} {v : Value} {D : List Nat} {L0 : Array Bool} (rd : Bool) (hi : ops[i]? = some oi) (hsel : ∀ (j : Nat) (o : Oper) cs b, ops[j]? = some o → o.op ≠ .select cs b)
    (hQ : ∀ c a w, Q (.panic c) (a.put oi.dst v) w → Q (.panic c) a w) (hval : isVal oi.op = true) :
    ∀ (fuel : Nat) (listed : Array Bool) (a : Act) (w : World),
      (∀ j oj, ops[j]? = some oj → j ≠ i → listed.getD j true = false → (∀ e ∈ oj.after, Region.binds .any e = true → e.on ≠ i) → oi.apart ops oj = true) →
      (∀ k ∈ D, listed.getD k true = false ∧ ∃ ok, ops[k]? = some ok ∧ ∃ e ∈ ok.after, Region.binds .any e = true ∧ (e.on = i ∨ e.on ∈ D)) →
      (rd = true → ∀ j oj, ops[j]? = some oj → writes E oj.op = true → listed.getD j true = false → j ∈ D ∨ ZOk ops L0 j) →
      (∀ k t, NewS ops L0 k t → listed.getD k true = true → Fresh w0 t (a.put oi.dst v)) →
      i ∈ Region.ready .any ops listed → YieldsIf P ops (fun w => rd = true → Stays w0 w) oi v a → (rd = true → Stays w0 w) → w0.heap.size ≤ w.heap.size →
      wpAnyR P E ops Q fuel (listed.setIfInBounds i true) (a.put oi.dst v) w → wpAnyR P E ops Q (fuel + 1) listed a w := by
  have hdi : ∀ k t, Makes ops k t → oi.dst ≠ some t := fun k t hm hd => by
    have hk := hm.2 i (by simp [setsIt, hi, hd])
    have hmade := hm.1
    rw [← hk] at hmade
    simp only [madeBy, hi, Bool.and_eq_true, Bool.or_eq_true] at hmade
    rcases hmade.1 with h1 | h1
    · rw [isVal_allocs hval] at h1; cases h1
    · rw [isVal_isApp hval] at h1; cases h1
  have hrec : ∀ (a : Act) (w : World), ∀ o, ops[i]? = some o → RecT E ops i o a w (a.put oi.dst v) w := fun a w o ho => by
    rw [hi] at ho
    injection ho with ho
    subst ho
    exact Rec.t hi ⟨fun _ _ _ => rfl, ⟨v, rfl, (fun ha => by rw [isVal_allocs hval] at ha; cases ha), fun ha => by rw [isVal_isApp hval] at ha; cases ha⟩, (fun x hx => by rw [isVal_app hval] at hx; cases hx), Nat.le_refl _⟩
  intro fuel
  induction fuel with
  | zero =>
    intro listed a w _ _ _ _ hr hy hS _ H
    refine ⟨fun h => (by rw [h] at hr; cases hr), fun j hj => ?_⟩
    by_cases hji : j = i
    · subst hji; exact hy.wpOp hi hS ⟨hrec a w, H⟩
    · have := ready_mono hj hji
      rw [H.1] at this
      cases this
  | succ fuel ih =>
    intro listed a w hfree hD hwait hfresh hr hy hS hsz H
    refine ⟨fun h => (by rw [h] at hr; cases hr), fun j hj => ?_⟩
    by_cases hji : j = i
    · subst hji; exact hy.wpOp hi hS ⟨hrec a w, H⟩
    · have h1 := H.2 j (ready_mono hj hji)
      obtain ⟨hjun, oj, hoj, hall⟩ := mem_ready.1 hj
      have hlisted : ∀ e ∈ oj.after, Region.binds .any e = true → listed.getD e.on true = true := fun e he hb => by
        have h1 := hall e he hb
        rcases Nat.lt_or_ge e.on listed.size with h' | h'
        · simp [h'] at h1 ⊢; exact h1
        · simp [Array.getElem?_eq_none h'] at h1
      have hnot : ∀ e ∈ oj.after, Region.binds .any e = true → e.on ≠ i := fun e he hb heq => by
        have h1 := hlisted e he hb
        have h0 := (mem_ready.1 hr).1
        rw [heq, h0] at h1
        cases h1
      have hjD : j ∉ D := fun hm => by
        obtain ⟨_, oj', hoj', e, he, hb, hon⟩ := hD j hm
        rw [hoj] at hoj'
        injection hoj' with hoj'
        subst hoj'
        rcases hon with hon | hon
        · exact hnot e he hb hon
        · have h0 := (hD _ hon).1
          rw [hlisted e he hb] at h0
          cases h0
      have h2 := wpOp_putIf hoj (hfree j oj hoj hji hjun hnot) (fun cs b => hsel i oi cs b hi) (fun cs b => hsel j oj cs b hoj) hQ hy h1
      have hun : ∀ k, (listed.setIfInBounds j true).getD k true = false → listed.getD k true = false := fun k hun => by
        by_cases hjk : j = k
        · subst hjk; exact hjun
        · rw [getD_set_ne true hjk] at hun; exact hun
      refine wpOp_mono (fun a' w' h3 => ?_) h2
      have hRec : RecT E ops j oj (a.put oi.dst v) w (a'.put oi.dst v) w' := h3.2.1 oj hoj
      have hS' : rd = true → Stays w0 w' := fun hrd => by
        cases hW : writes E oj.op with
        | false => exact (hS hrd).trans (hRec.stays hW)
        | true =>
          rcases hwait hrd j oj hoj hW hjun with hm | ⟨oj', x, hoj', hx, hz⟩
          · exact absurd hm hjD
          · rw [hoj] at hoj'
            injection hoj' with hoj'
            subst hoj'
            intro b hlt
            rw [← hS hrd b hlt]
            refine hRec.app x hx (hz.imp id fun ⟨t, k, hxt, hmk, _⟩ => ⟨k, t, hxt, hmk.makes⟩) b (Nat.lt_of_lt_of_le hlt hsz) fun b' he hb => ?_
            rcases hz with rfl | ⟨t, k, rfl, hmk, e, hein, hbind, rfl⟩
            · cases he
            · have := hfresh e.on t hmk (hlisted e hein hbind) b' he
              omega
      refine ⟨?_, ih (listed.setIfInBounds j true) a' w' (fun k ok hk hki hu hno => hfree k ok hk hki (hun k hu) hno) (fun k hk => ⟨by rw [getD_set_ne true (show j ≠ k from fun e => hjD (e ▸ hk))]; exact (hD k hk).1, (hD k hk).2⟩) (fun hrd k ok hk hW hu => hwait hrd k ok hk hW (hun k hu)) (fun k t hmk hl => ?_) (ready_mono hr (Ne.symm hji)) h3.1 hS' (Nat.le_trans hsz hRec.size) ?_⟩
      · intro o ho
        rw [hoj] at ho
        injection ho with ho
        subst ho
        have hback : ∀ x, (x = .const (.slice none 0 0) ∨ ∃ k t', x = .tmp t' ∧ Makes ops k t') → (a.put oi.dst v).eval x = a.eval x := fun x hx => by
          rcases hx with rfl | ⟨k, t', rfl, hm⟩
          · rfl
          · exact put_get (hdi _ _ hm)
        refine ⟨hRec.stays, fun t hm ha b he => hRec.made t hm ha b (by rw [put_get (hdi _ _ hm)]; exact he), fun t x hm hp hx hxx b he => ?_, fun k t hm hne => ?_, fun x hx hxx b hlt hne => hRec.app x hx hxx b hlt fun b' he => hne b' (by rw [hback x hxx] at he; exact he), hRec.size⟩
        · have := hRec.appd t x hm hp hx hxx b (by rw [put_get (hdi _ _ hm)]; exact he)
          rw [hback x hxx] at this
          exact this
        · have := hRec.kept k t hm hne
          rw [put_get (hdi _ _ hm), put_get (hdi _ _ hm)] at this
          exact this
      · by_cases hjk : j = k
        · subst hjk
          intro b he
          cases hmk with
          | alloc hk hm ho ha =>
            rw [hoj] at ho; injection ho with ho; subst ho
            exact Nat.le_trans hsz (hRec.made t hm ha b he)
          | nil hk hm ho hp hx =>
            rw [hoj] at ho; injection ho with ho; subst ho
            rcases hRec.appd t _ hm hp hx (.inl rfl) b he with h5 | h5
            · exact Nat.le_trans hsz h5
            · cases h5
          | app hk hm ho hp hx hn hw =>
            rw [hoj] at ho; injection ho with ho; subst ho
            rcases hRec.appd t _ hm hp hx (.inr ⟨_, _, rfl, hn.makes⟩) b he with h5 | h5
            · exact Nat.le_trans hsz h5
            · obtain ⟨e, he1, he2, rfl⟩ := hw
              exact hfresh _ _ hn (hlisted e he1 he2) b h5
        · rw [getD_set_ne true hjk] at hl
          intro b he
          rw [hRec.kept k t hmk.makes hjk] at he
          exact hfresh k t hmk hl b he
      · rw [Array.setIfInBounds_comm _ _ hji]
        exact h3.2.2
end

/-- Q, but nothing panics. -/
def noPan (Q : Exit → Act → World → Prop) : Exit → Act → World → Prop
  | .panic _, _, _ => False
  | e, a, w => Q e a w

theorem depOn_spec {ops : Array Oper} {i k : Nat} {D : List Nat} (h : depOn ops i D k = true) : ∃ ok, ops[k]? = some ok ∧ ∃ e ∈ ok.after, Region.binds .any e = true ∧ (e.on = i ∨ e.on ∈ D) := by
  unfold depOn at h
  split at h
  · rename_i o ho
    obtain ⟨n, hn, he⟩ := Array.any_eq_true.1 h
    simp only [Bool.and_eq_true, Bool.or_eq_true, beq_iff_eq, List.contains_iff_mem] at he
    exact ⟨o, ho, _, Array.getElem_mem hn, he.1, he.2⟩
  · cases h
theorem wdeps_spec {ops : Array Oper} {listed : Array Bool} {i : Nat} : ∀ (ks D : List Nat), (∀ k ∈ D, listed.getD k true = false ∧ ∃ ok, ops[k]? = some ok ∧ ∃ e ∈ ok.after, Region.binds .any e = true ∧ (e.on = i ∨ e.on ∈ D)) →
    ∀ k ∈ wdeps ops listed i ks D, listed.getD k true = false ∧ ∃ ok, ops[k]? = some ok ∧ ∃ e ∈ ok.after, Region.binds .any e = true ∧ (e.on = i ∨ e.on ∈ wdeps ops listed i ks D)
  | [], D, h => h
  | k :: ks, D, h => by
    refine wdeps_spec ks _ fun q hq => ?_
    cases hc : (!(listed.getD k true) && depOn ops i D k) with
    | false => rw [hc] at hq; simp only [cond_false] at hq ⊢; exact h q hq
    | true =>
      rw [hc] at hq
      simp only [cond_true] at hq ⊢
      simp only [Bool.and_eq_true, Bool.not_eq_true'] at hc
      rcases List.mem_cons.1 hq with rfl | hq
      · obtain ⟨ok, h1, e, h2, h3, h4⟩ := depOn_spec hc.2
        exact ⟨hc.1, ok, h1, e, h2, h3, h4.imp id (List.mem_cons_of_mem _)⟩
      · obtain ⟨h0, ok, h1, e, h2, h3, h4⟩ := h q hq
        exact ⟨h0, ok, h1, e, h2, h3, h4.imp id (List.mem_cons_of_mem _)⟩
theorem waitsFor_spec {ops : Array Oper} {o : Oper} {k : Nat} (h : waitsFor ops o k = true) : ∃ e ∈ o.after, Region.binds .any e = true ∧ e.on = k := by
  obtain ⟨n, hn, he⟩ := Array.any_eq_true.1 h
  simp only [Bool.and_eq_true, beq_iff_eq] at he
  exact ⟨_, Array.getElem_mem hn, he.1, he.2⟩
theorem newBy_spec {ops : Array Oper} {listed : Array Bool} : ∀ (n : Nat) {t k : Nat}, newBy ops listed n t k = true → NewS ops listed k t
  | 0, _, _, h => by cases h
  | n + 1, t, k, h => by
    simp only [newBy, Bool.and_eq_true, Bool.not_eq_true'] at h
    obtain ⟨h1, h2, h3, h4⟩ := h
    have hm : Makes ops k t := ⟨h2, fun q hq => by
      have hlt : q < ops.size := by
        unfold setsIt at hq
        split at hq
        · rename_i hoq; exact (Array.getElem?_eq_some_iff.1 hoq).1
        · cases hq
      have := List.all_eq_true.1 h3 q (List.mem_range.2 hlt)
      simpa [hq] using this⟩
    split at h4
    · rename_i o ho
      rcases Bool.eq_false_or_eq_true (allocs o.op) with ha | ha
      · exact .alloc h1 hm ho ha
      · have hp : isApp o.op = true := by
          have := hm.1
          simp only [madeBy, ho, ha, Bool.false_or, Bool.and_eq_true] at this
          exact this.1
        rw [ha, Bool.false_or] at h4
        split at h4
        · rename_i hx; exact .nil h1 hm ho hp hx
        · rename_i t' hx
          obtain ⟨k', _, h5⟩ := List.any_eq_true.1 h4
          simp only [Bool.and_eq_true] at h5
          exact .app h1 hm ho hp hx (newBy_spec n h5.2) (waitsFor_spec h5.1)
        · cases h4
    · cases h4
theorem zOk_spec {ops : Array Oper} {listed : Array Bool} {j : Nat} (h : zOk ops listed j = true) : ZOk ops listed j := by
  unfold zOk at h
  split at h
  · rename_i o ho
    split at h
    · rename_i hx; exact ⟨o, _, ho, hx, .inl rfl⟩
    · rename_i t hx
      obtain ⟨k, hk, h⟩ := List.any_eq_true.1 h
      simp only [Bool.and_eq_true] at h
      exact ⟨o, _, ho, hx, .inr ⟨t, k, rfl, newBy_spec _ h.2, waitsFor_spec h.1⟩⟩
    · cases h
  · cases h
theorem waitB_spec {E : List Con} {ops : Array Oper} {listed : Array Bool} {i : Nat} (h : waitB E ops listed i = true) (j : Nat) (oj : Oper) (hj : ops[j]? = some oj) (hW : writes E oj.op = true) (hu : listed.getD j true = false) : j ∈ wdeps ops listed i (List.range ops.size) [] ∨ ZOk ops listed j := by
  have hlt : j < ops.size := (Array.getElem?_eq_some_iff.1 hj).1
  have h1 := List.all_eq_true.1 h j (List.mem_range.2 hlt)
  have hw : wOf E ops j = true := by simp [wOf, hj, hW]
  simp only [hw, hu, Bool.not_true, Bool.false_or, Bool.or_eq_true, List.contains_iff_mem] at h1
  exact h1.imp id zOk_spec
def Ord.depth : Ord → Nat
  | .z => 0
  | .op _ o => o.depth + 1
  | .alt _ o m => max (o.depth + 1) m.depth
theorem ordOf_depth (E : List Con) (ops : Array Oper) : ∀ (k : Nat) (l : Array Bool), (ordOf E ops k l).depth ≤ k
  | 0, _ => Nat.le_refl _
  | k + 1, l => by
    simp only [ordOf]
    split
    · exact Nat.succ_le_succ (ordOf_depth E ops k _)
    · generalize Region.ready .any ops l = rd
      induction rd with
      | nil => exact Nat.zero_le _
      | cons i is ih => exact Nat.max_le.2 ⟨Nat.succ_le_succ (ordOf_depth E ops k _), ih⟩
theorem both_some {R : Type} {x y : Option R} {r : R} (h : both x y = some r) : x = some r ∧ y = some r := by
  unfold both at h
  obtain ⟨r', h1, h2⟩ := bind_some h
  split at h2
  · rename_i hy
    injection h2 with h2
    subst h2
    exact ⟨h1, hy⟩
  · cases h2
theorem both_self {R : Type} (x : Option R) : both x x = x := by
  unfold both
  cases x with
  | none => rfl
  | some r => simp

section
variable {X : Ctx} {E : List Con} {f : F} {a : Act} {w : World} {o : Oper} {R : Type} {K : F → Option R} {r : R} {ops : Array Oper}

/-- The operation, if it is wanted, brings the frame to one that K takes. -/
def GoesG (X : Ctx) (E : List Con) (ops : Array Oper) (o : Oper) (a : Act) (w : World) (f : F) (K : F → Option R) (r : R) : Prop :=
  ∃ g, K g = some r ∧ Ext f g ∧ ∀ (Kp : Act → World → Prop) (Q : Exit → Act → World → Prop), (∀ a' w', At X g a' w' → Rec E o a w a' w' → Kp a' w') →
    if Region.wanted o (yielded ops a.tmps) then o.wp X.P a w Kp Q else Kp (a.put o.dst undef) w

theorem At.slot (h : At X f a w) {s : Nat} {x : S} (hl : f.look s = some x) : At X (f.put (some s) x) a w := by
  obtain ⟨⟨cx, ow, hs, hpin⟩, hb, hn⟩ := h
  exact ⟨⟨cx, ow, hs.slot hl fun v hv => hv, hpin⟩, hb, hn⟩
theorem At.un (h : At X f a w) {d : Option Nat} (hd : inFrame X.n d = true) : At X (f.put d .un) (a.put d undef) w := by
  obtain ⟨⟨cx, ow, hs, hpin⟩, hb, hn⟩ := id h
  exact h.put hs hpin hd rfl

/-- What a guard says. -/
theorem guard_un (h : At X f a w) {j d : Nat} {want : Bool} (hg : o.guard = some (j, want)) (hj : (ops[j]?).bind (·.dst) = some d) (hl : f.look d = some .un) : Region.wanted o (yielded ops a.tmps) = false := by
  obtain ⟨⟨cx, ow, hs, hpin⟩, hb, hn⟩ := h
  obtain ⟨n, hm⟩ := look_mem hl
  obtain ⟨v, hv, h1⟩ := hs.fr _ _ _ hm
  have h1 : v = undef := h1
  subst h1
  simp only [Region.wanted, hg, yielded, hj, Option.bind_some, hv]
  rfl
theorem guard_bool (h : At X f a w) {j d : Nat} {want b : Bool} (hg : o.guard = some (j, want)) (hj : (ops[j]?).bind (·.dst) = some d) (hl : f.look d = some (.val (.one (.v .bool b)))) : Region.wanted o (yielded ops a.tmps) = (b == want) := by
  obtain ⟨⟨cx, ow, hs, hpin⟩, hb, hn⟩ := h
  obtain ⟨n, hm⟩ := look_mem hl
  obtain ⟨v, hv, h1⟩ := hs.fr _ _ _ hm
  have h1 := RelC_bool (c := cx) (ow := ow) h1
  subst h1
  simp only [Region.wanted, hg, yielded, hj, Option.bind_some, hv]
  cases want <;> cases b <;> rfl

/-- An operation: it is wanted and done, or it is passed over. -/
theorem op_split (h : At X f a w) (hv : evOp X.P X.n E ops f o K = some r) : inFrame X.n o.dst = true ∧
    ((∃ f', Region.wanted o (yielded ops a.tmps) = true ∧ Ext f f' ∧ At X f' a w ∧ evAny X.P E f' o K = some r) ∨ (∃ f', Region.wanted o (yielded ops a.tmps) = false ∧ Ext f f' ∧ At X f' a w ∧ K (f'.put o.dst .un) = some r)) := by
  unfold evOp at hv
  rcases cond_some hv with ⟨hd, hv⟩ | ⟨_, hv⟩
  · refine ⟨hd, ?_⟩
    split at hv
    · rename_i hg
      exact .inl ⟨f, by simp [Region.wanted, hg], .refl _, h, hv⟩
    · rename_i j want hg
      split at hv
      · rename_i d hj
        split at hv
        · rename_i hl
          exact .inr ⟨f, guard_un h hg hj hl, .refl _, h, hv⟩
        · rename_i b hl
          have hw := guard_bool h hg hj hl
          have h' := h.slot hl
          rcases cond_some hv with ⟨hb, hv1⟩ | ⟨hb, hv1⟩
          · rw [hb] at hw h'
            rcases cond_some hv1 with ⟨hq, hv2⟩ | ⟨hq, hv2⟩
            · rw [hq] at hw; exact .inl ⟨_, hw, Ext.put _ _ _, h', hv2⟩
            · rw [hq] at hw; exact .inr ⟨_, hw, Ext.put _ _ _, h', hv2⟩
          · rw [hb] at hw h'
            rcases cond_some hv1 with ⟨hq, hv2⟩ | ⟨hq, hv2⟩
            · rw [hq] at hw; exact .inr ⟨_, hw, Ext.put _ _ _, h', hv2⟩
            · rw [hq] at hw; exact .inl ⟨_, hw, Ext.put _ _ _, h', hv2⟩
        · cases hv
      · cases hv
  · cases hv

theorem op_goes (h : At X f a w) (hE : ∀ c ∈ E, c.Ok X.P) (hv : evOp X.P X.n E ops f o K = some r) : GoesG X E ops o a w f K r := by
  obtain ⟨hd, ⟨f', hw, he, h', hv⟩ | ⟨f', hw, he, h', hv⟩⟩ := op_split h hv
  · obtain ⟨g, h1, h2, h3⟩ := any_goes h' hE hd hv
    refine ⟨g, h1, he.trans h2, fun Kp Q hK => ?_⟩
    rw [if_pos hw]
    exact h3 Kp Q hK
  · refine ⟨_, hv, he.trans (Ext.put _ _ _), fun Kp Q hK => ?_⟩
    rw [if_neg (by rw [hw]; simp)]
    exact hK _ _ (h'.un hd) ⟨fun _ _ _ => rfl, ⟨undef, rfl, (fun _ b he => by simp [undef, blkOf] at he), fun _ _ _ b he => by simp [undef, blkOf] at he⟩, fun _ _ _ _ _ => rfl, Nat.le_refl _⟩
theorem op_yields (h : At X f a w) (hval : isVal o.op = true) (hv : evOp X.P X.n E ops f o K = some r) : ∃ g v, K g = some r ∧ Ext f g ∧ YieldsIf X.P ops (fun w' => readsM o.op = true → Stays w w') o v a ∧ At X g (a.put o.dst v) w := by
  obtain ⟨hd, ⟨f', hw, he, h', hv⟩ | ⟨f', hw, he, h', hv⟩⟩ := op_split h hv
  · unfold evAny at hv
    rcases cond_some hv with ⟨_, hv⟩ | ⟨_, hv⟩
    · obtain ⟨_, g, v, hk, he', hg, hat⟩ := trunc_sound h' hd hv
      exact ⟨g, v, hk, he.trans he', .inl ⟨hw, fun w' hS => hg w' hS⟩, hat⟩
    rcases cond_some hv with ⟨_, hv⟩ | ⟨_, hv⟩
    · obtain ⟨_, g, v, hk, he', hg, hat⟩ := subL_sound h' hd hv
      exact ⟨g, v, hk, he.trans he', .inl ⟨hw, fun w' hS => hg w' hS⟩, hat⟩
    rw [hval] at hv
    have hv : evVal X.P (preF f' o.op) (fun s => K ((preF f' o.op).put o.dst s)) o.op = some r := hv
    have h' := h'.preF o.op
    obtain ⟨⟨cx, ow, hs, hpin⟩, hb, hn⟩ := id h'
    obtain ⟨s, ⟨v, hrel, hg⟩, hk⟩ := evVal_sound hs hv
    exact ⟨_, v, hk, he.trans ((Ext.preF f' o.op).trans (Ext.put _ _ _)), .inl ⟨hw, fun w' hS => hg w' hS⟩, h'.put hs hpin hd hrel⟩
  · exact ⟨_, undef, hv, he.trans (Ext.put _ _ _), .inr ⟨hw, rfl⟩, h'.un hd⟩

theorem ops_sound (hE : ∀ c ∈ E, c.Ok X.P) {Q : Exit → Act → World → Prop} : ∀ (l : List Oper) (f : F) (a : Act) (w : World) {K : F → Option R}, At X f a w → evOps X.P X.n E ops l f K = some r →
    (∀ g a' w', K g = some r → Ext f g → At X g a' w' → Q .normal a' w') → wpList X.P ops Q l a w := by
  intro l
  induction l with
  | nil => intro f a w K h hv hQ; exact wpList_nil (hQ f a w hv (.refl _) h)
  | cons o os ih =>
    intro f a w K h hv hQ
    obtain ⟨g, h1, h2, h3⟩ := op_goes h hE (show evOp X.P X.n E ops f o (fun f' => evOps X.P X.n E ops os f' K) = some r from hv)
    exact wpList_step fun Kp hK => h3 Kp Q fun a' w' h' _ => hK a' w' (ih g a' w' h' h1 fun k a'' w'' k1 k2 k3 => hQ k a'' w'' k1 (h2.trans k2) k3)

theorem draw_sound (hE : ∀ c ∈ E, c.Ok X.P) {Q : Exit → Act → World → Prop} (hns : Region.noSelect ops = true) : ∀ (od : Ord) (b : Bool) (listed : Array Bool) (f : F) (a : Act) (w : World) (fuel : Nat) {K : F → Option R}, od.depth ≤ fuel → At X f a w → evDraw X.P X.n E ops b od listed f K = some r →
    (∀ g a' w', K g = some r → Ext f g → At X g a' w' → Q .normal a' w') →
    (b = false → wpAnyR X.P E ops (noPan Q) fuel listed a w) ∧
    (b = true → ∀ i ∈ od.heads, ∃ fuel', fuel = fuel' + 1 ∧ wpOp X.P ops (noPan Q) i (fun a' w' => (∀ o, ops[i]? = some o → RecT E ops i o a w a' w') ∧ wpAnyR X.P E ops (noPan Q) fuel' (listed.setIfInBounds i true) a' w') a w) := by
  intro od
  induction od with
  | z =>
    intro b listed f a w fuel K _ h hv hQ
    cases b with
    | true => cases hv
    | false =>
      refine ⟨fun _ => ?_, fun hb => by cases hb⟩
      have hv : cond ((Region.ready .any ops listed).isEmpty) (K f) none = some r := hv
      rcases cond_some hv with ⟨hr, hv⟩ | ⟨_, hv⟩
      · have hr : Region.ready .any ops listed = [] := by simpa using hr
        cases fuel with
        | zero => exact ⟨hr, hQ f a w hv (.refl _) h⟩
        | succ fuel => exact ⟨fun _ => hQ f a w hv (.refl _) h, by rw [hr]; simp⟩
      · cases hv
  | op i o ih =>
    intro b listed f a w fuel K hlen h hv hQ
    cases b with
    | true => cases hv
    | false =>
      refine ⟨fun _ => ?_, fun hb => by cases hb⟩
      obtain ⟨fuel, rfl⟩ : ∃ f, fuel = f + 1 := ⟨fuel - 1, by simp [Ord.depth] at hlen; omega⟩
      have hlen' : o.depth ≤ fuel := by simpa [Ord.depth] using hlen
      simp only [evDraw, cond_false] at hv
      split at hv
      · rename_i oi hi
        rcases cond_some hv with ⟨hcase, hv⟩ | ⟨_, hv⟩
        · simp only [mayFirst, Bool.or_eq_true, Bool.and_eq_true, beq_iff_eq] at hcase
          rcases hcase with honly | ⟨hrd, hfr, hwt, hval⟩
          · obtain ⟨g, h1, h2, h3⟩ := op_goes h hE hv
            refine ⟨(fun hn => by rw [honly] at hn; cases hn), fun j hj => ?_⟩
            rw [honly] at hj
            have : j = i := List.mem_singleton.1 hj
            subst this
            unfold wpOp
            simp only [hi]
            have hs1 := h3 (fun a' w' => (∀ o, ops[j]? = some o → RecT E ops j o a w a' w') ∧ wpAnyR X.P E ops (noPan Q) fuel (listed.setIfInBounds j true) a' w') (noPan Q) fun a' w' h' hst => ⟨fun o' ho' => by rw [hi] at ho'; injection ho' with ho'; subst ho'; exact Rec.t hi hst, (ih false _ g a' w' fuel hlen' h' h1 fun k a'' w'' k1 k2 k3 => hQ k a'' w'' k1 (h2.trans k2) k3).1 rfl⟩
            simp only [hi] at hs1
            split
            · rename_i hwant; rw [if_pos hwant] at hs1; exact .inl hs1
            · rename_i hwant; rw [if_neg hwant] at hs1; exact hs1
          · obtain ⟨g, v, h1, h2, hy, hat⟩ := op_yields h hval hv
            exact wpAnyR_first (E := E) (w0 := w) (L0 := listed) (readsM oi.op) hi (Region.noSelect_spec hns) (fun c a w h => h) hval fuel listed a w (Region.free_spec hi hfr) (wdeps_spec _ _ (by simp)) (fun hrm => waitB_spec (hwt.elim (fun h => by rw [hrm] at h; cases h) id)) (fun k t h1 h2 => by rw [h1.unl] at h2; cases h2) (by simpa using hrd) hy (fun _ _ _ => rfl) (Nat.le_refl _)
              ((ih false _ g _ w fuel hlen' hat h1 fun k a'' w'' k1 k2 k3 => hQ k a'' w'' k1 (h2.trans k2) k3).1 rfl)
        · cases hv
      · cases hv
  | alt i o m ih ihm =>
    intro b listed f a w fuel K hlen h hv hQ
    obtain ⟨fuel, rfl⟩ : ∃ f, fuel = f + 1 := ⟨fuel - 1, by simp only [Ord.depth] at hlen; omega⟩
    have hlen' : o.depth ≤ fuel := by simp only [Ord.depth] at hlen; omega
    have hlenm : m.depth ≤ fuel + 1 := by simp only [Ord.depth] at hlen; omega
    unfold evDraw at hv
    rcases cond_some hv with ⟨hc, hv⟩ | ⟨_, hv⟩
    · split at hv
      · rename_i oi hi
        have one : (evOp X.P X.n E ops f oi fun f' => evDraw X.P X.n E ops false o (listed.setIfInBounds i true) f' K) = some r → wpOp X.P ops (noPan Q) i (fun a' w' => (∀ o, ops[i]? = some o → RecT E ops i o a w a' w') ∧ wpAnyR X.P E ops (noPan Q) fuel (listed.setIfInBounds i true) a' w') a w := by
          intro hv
          obtain ⟨g, h1, h2, h3⟩ := op_goes h hE hv
          unfold wpOp
          simp only [hi]
          have hs1 := h3 (fun a' w' => (∀ o, ops[i]? = some o → RecT E ops i o a w a' w') ∧ wpAnyR X.P E ops (noPan Q) fuel (listed.setIfInBounds i true) a' w') (noPan Q) fun a' w' h' hst => ⟨fun o' ho' => by rw [hi] at ho'; injection ho' with ho'; subst ho'; exact Rec.t hi hst, (ih false _ g a' w' fuel hlen' h' h1 fun k a'' w'' k1 k2 k3 => hQ k a'' w'' k1 (h2.trans k2) k3).1 rfl⟩
          simp only [hi] at hs1
          split
          · rename_i hwant; rw [if_pos hwant] at hs1; exact .inl hs1
          · rename_i hwant; rw [if_neg hwant] at hs1; exact hs1
        have all : ∀ j ∈ i :: m.heads, wpOp X.P ops (noPan Q) j (fun a' w' => (∀ o, ops[j]? = some o → RecT E ops j o a w a' w') ∧ wpAnyR X.P E ops (noPan Q) fuel (listed.setIfInBounds j true) a' w') a w := by
          split at hv
          · intro j hj
            have : j = i := by simpa [Ord.heads] using hj
            subst this
            exact one hv
          · obtain ⟨e1, e2⟩ := both_some hv
            have hm := (ihm true listed f a w (fuel + 1) hlenm h e2 hQ).2 rfl
            intro j hj
            rcases List.mem_cons.1 hj with rfl | hj
            · exact one e1
            · obtain ⟨fuel', he, hw⟩ := hm j hj
              injection he with he
              subst he
              exact hw
        refine ⟨fun hb => ?_, fun _ j hj => ⟨fuel, rfl, all j hj⟩⟩
        subst hb
        have hc : Region.ready .any ops listed = i :: m.heads := by simpa using hc
        refine ⟨fun hn => (by rw [hc] at hn; cases hn), fun j hj => all j (by rw [← hc]; exact hj)⟩
      · cases hv
    · cases hv

theorem At.drew (h : At X f a w) : At X f a { w with drawn := w.drawn + 1 } := by
  obtain ⟨⟨c, ow, hsim, hpin⟩, hb, hn⟩ := h
  have hrep : ∀ {v : Value} {t : T} {G : List Nat}, Rep w v t G → Rep { w with drawn := w.drawn + 1 } v t G := fun h => h.frame fun _ _ => rfl
  have hrepl : ∀ {v : List Value} {t : List T} {G : List Nat}, RepL w v t G → RepL { w with drawn := w.drawn + 1 } v t G := fun h => h.frame fun _ _ => rfl
  have hC : ∀ {ok : Nat → Prop} {v : Value} {x : C}, RelC c ow w ok v x → RelC c ow { w with drawn := w.drawn + 1 } ok v x := by
    intro ok v x h
    cases x with
    | v t y => obtain ⟨G, h1, h2⟩ := h; exact ⟨G, hrep h1, h2⟩
    | ep t y off => obtain ⟨b, base, h1, h2, h3, xs, G, h4, h5, h6⟩ := h; exact ⟨b, base, h1, h2, h3, xs, G, hrepl h4, h5, h6⟩
    | sub r k i off t y => obtain ⟨g, b0, n, cap, h1, h2, G, h3, h4⟩ := h; exact ⟨g, b0, n, cap, h1, h2, G, hrep h3, h4⟩
    | ip _ _ _ _ _ _ _ => exact h
    | nil => exact h
    | row _ => exact h
    | ptr _ _ => exact h
    | rp _ _ _ _ => exact h
    | clo _ _ => exact h
    | any => exact h
  have hA : ∀ {ok : Nat → Prop} {v : Value} {x : A}, RelA c ow w ok v x → RelA c ow { w with drawn := w.drawn + 1 } ok v x := by
    intro ok v x h
    cases x with
    | one y => exact hC h
    | agg ys => obtain ⟨vs, h1, h2⟩ := h; exact ⟨vs, h1, h2.mono fun _ _ _ h => hC h⟩
  refine ⟨⟨c, ow, ⟨hsim.defers, fun s n x hm => ?_, fun o n x hm => ?_, hsim.uniq, hsim.rvs⟩, hpin⟩, ⟨hb.os, hb.tape, hb.output, hb.size, hb.block⟩, hn⟩
  · obtain ⟨v, hv, h1⟩ := hsim.fr s n x hm
    refine ⟨v, hv, ?_⟩
    cases x with
    | val y => exact hA h1
    | tup ys => obtain ⟨vs, h2, h3⟩ := h1; exact ⟨vs, h2, h3.mono fun _ _ _ h => hA h⟩
    | un => exact h1
  · have ho := hsim.ob o n x hm
    cases x with
    | box cs => obtain ⟨b1, b2, vs, ty, b3, b4⟩ := ho; exact ⟨b1, b2, vs, ty, b3, b4.mono fun _ _ _ h => hC h⟩
    | row e k t l deep => obtain ⟨r0, r1, r2, xs, G, r3, r4, r5, r6⟩ := ho; exact ⟨r0, r1, r2, xs, G, r3, hrepl r4, r5, r6⟩
    | win k t l => obtain ⟨r0, r1, G, r2, r3, r4⟩ := ho; exact ⟨r0, r1, G, hrep r2, r3, r4⟩
end
end Go.V
set_option linter.unusedVariables false
set_option linter.unusedSectionVars false
namespace Go.V
open Go.Ab Go.RowKit

theorem loopM_some {σ R : Type} {step : σ → Option (σ ⊕ R)} {s : σ} {r : R} (h : loopM step s = some r) : ∃ n, iterM step n s = some r := by
  unfold loopM at h
  split at h
  · exact ⟨_, h⟩
  · cases h
theorem iterM_some {σ R : Type} {step : σ → Option (σ ⊕ R)} {n : Nat} {s : σ} {r : R} (h : iterM step n s = some r) : ∃ m y, n = m + 1 ∧ step s = some y ∧ (match y with | .inl s' => iterM step m s' = some r | .inr r' => r' = r) := by
  cases n with
  | zero => cases h
  | succ m =>
    obtain ⟨y, hy, h1⟩ := bind_some (show Option.bind (step s) (Sum.elim (iterM step m) some) = some r from h)
    refine ⟨m, y, rfl, hy, ?_⟩
    cases y with
    | inl s' => exact h1
    | inr r' => injection h1

/-- What a walk ends in. -/
def Ends {R : Type} (X : Ctx) (f : F) (K : Exit → F → Option R) (r : R) (e : Exit) (a : Act) (w : World) : Prop := ∃ g, K e g = some r ∧ Ext f g ∧ At X g a w
def EvOk (X : Ctx) (E : List Con) (cd : Code) : Prop := ∀ {R : Type} (pl : Plan) (f : F) (K : Exit → F → Option R) (r : R), ev X.P X.n E cd pl f K = some r → ∀ a w, At X f a w → cd.wp X.P (Ends X f K r) a w

section
variable {X : Ctx} {E : List Con}
theorem seq_ok {x y : Code} (hx : EvOk X E x) (hy : EvOk X E y) : EvOk X E (.seq x y) := by
  intro R pl f K r hv a w hat
  have plain : ∀ p q, ev X.P X.n E x p f (fun e g => match e with
      | .normal => ev X.P X.n E y q g K
      | e => K e g) = some r → (Code.seq x y).wp X.P (Ends X f K r) a w := by
    intro p q hv
    refine wp_seq (Code.wp_mono ?_ (hx p f _ r hv a w hat))
    rintro e a' w' ⟨g, h1, h2, h3⟩
    cases e with
    | normal =>
      refine Code.wp_mono ?_ (hy q g K r h1 a' w' h3)
      rintro e a'' w'' ⟨k, k1, k2, k3⟩
      exact ⟨k, k1, h2.trans k2, k3⟩
    | _ => exact ⟨g, h1, h2, h3⟩
  cases pl with
  | cut h p q =>
    rcases cond_some (show cond (f.wf && h.wf) _ _ = some r from hv) with ⟨hw, hv⟩ | ⟨_, hv⟩
    · simp only [Bool.and_eq_true] at hw
      obtain ⟨s, hs, hv⟩ := bind_some hv
      refine wp_seq (Code.wp_mono ?_ (hx p f _ s hs a w hat))
      rintro e a' w' ⟨g, h1, h2, h3⟩
      cases e with
      | normal =>
        obtain ⟨k, k1, k2, k3⟩ := fit_sound (X := X) h2 hw.1 hw.2 h1
        rw [k1] at hv
        refine Code.wp_mono ?_ (hy q k K r hv a' w' (k3 a' w' h3))
        rintro e a'' w'' ⟨k', l1, l2, l3⟩
        exact ⟨k', l1, k2.trans l2, l3⟩
      | _ => cases h1
    · cases hv
  | cutR h p q =>
    rcases cond_some (show cond (f.wf && h.wf) _ _ = some r from hv) with ⟨hw, hv⟩ | ⟨_, hv⟩
    · simp only [Bool.and_eq_true] at hw
      obtain ⟨s, hs, hv⟩ := bind_some hv
      refine wp_seq (Code.wp_mono ?_ (hx p f _ s hs a w hat))
      rintro e a' w' ⟨g, h1, h2, h3⟩
      have other : (K e g).map Sum.inr = some s → Ends X f K r e a' w' := by
        intro h1
        obtain ⟨y, hy, rfl⟩ := Option.map_eq_some_iff.1 h1
        injection hv with hv
        subst hv
        exact ⟨g, hy, h2, h3⟩
      cases e with
      | normal =>
        obtain ⟨y, hy', rfl⟩ := Option.map_eq_some_iff.1 h1
        obtain ⟨k, k1, k2, k3⟩ := fit_sound (X := X) h2 hw.1 hw.2 hy'
        have hv : kOpt (f.inj h y) (fun g => ev X.P X.n E _ q g K) = some r := hv
        rw [k1] at hv
        refine Code.wp_mono ?_ (hy q k K r hv a' w' (k3 a' w' h3))
        rintro e a'' w'' ⟨k', l1, l2, l3⟩
        exact ⟨k', l1, k2.trans l2, l3⟩
      | _ => exact other h1
    · cases hv
  | z => exact plain _ _ hv
  | seq _ _ => exact plain _ _ hv
  | cond _ _ => exact plain _ _ hv
  | block _ => exact plain _ _ hv
  | loop _ _ => exact plain _ _ hv

theorem loop_ok {x : Code} (hx : EvOk X E x) : EvOk X E (.loop x) := by
  intro R pl f K r hv a w hat
  cases pl with
  | loop h p =>
    rcases cond_some (show cond (f.wf && h.wf) _ _ = some r from hv) with ⟨hw, hv⟩ | ⟨_, hv⟩
    · simp only [Bool.and_eq_true] at hw
      obtain ⟨s0, hs0, hv⟩ := kOpt_some hv
      obtain ⟨n, hn⟩ := loopM_some hv
      obtain ⟨k0, q1, q2, q3⟩ := fit_sound (X := X) (.refl f) hw.1 hw.2 hs0
      refine wp_loop_ghost (fun k a w => ∃ s, iterM (fun s => kOpt (f.inj h s) fun g => ev X.P X.n E x (R := denV h.tys ⊕ R) p g fun e g' => match e with
        | .normal => (f.fit g' h).map Sum.inl
        | e => (K e g').map Sum.inr) k s = some r ∧ ∃ g, f.inj h s = some g ∧ Ext f g ∧ At X g a w) n ⟨s0, hn, k0, q1, q2, q3 a w hat⟩ ?_
      rintro k a w ⟨s, hs, g, hg, hext, hat⟩
      obtain ⟨m, y, rfl, hstep, hy⟩ := iterM_some hs
      rw [hg] at hstep
      refine Code.wp_mono ?_ (hx p g _ y hstep a w hat)
      rintro e a' w' ⟨g', h1, h2, h3⟩
      have other : (K e g').map Sum.inr = some y → Ends X f K r e a' w' := by
        intro h1
        obtain ⟨z, hz, rfl⟩ := Option.map_eq_some_iff.1 h1
        have hy : z = r := hy
        subst hy
        exact ⟨g', hz, hext.trans h2, h3⟩
      cases e with
      | normal =>
        obtain ⟨s', hs', rfl⟩ := Option.map_eq_some_iff.1 h1
        obtain ⟨k, k1, k2, k3⟩ := fit_sound (X := X) (hext.trans h2) hw.1 hw.2 hs'
        exact ⟨m, Nat.lt_succ_self m, s', hy, k, k1, k2, k3 a' w' h3⟩
      | _ => exact other h1
    · cases hv
  | _ => cases hv

theorem ev_ok (hE : ∀ c ∈ E, c.Ok X.P) (hm : X.P.follows .mixedOrders = true) : ∀ cd : Code, EvOk X E cd := by
  intro cd
  induction cd with
  | skip => intro R pl f K r hv a w hat; exact wp_skip ⟨f, hv, .refl _, hat⟩
  | ret => intro R pl f K r hv a w hat; exact wp_ret ⟨f, hv, .refl _, hat⟩
  | exit id => intro R pl f K r hv a w hat; exact wp_exit ⟨f, hv, .refl _, hat⟩
  | region id ops b =>
    intro R pl f K r hv a w hat
    cases b with
    | false => exact wp_region_list (ops_sound hE ops.toList f a w hat hv fun g a' w' h1 h2 h3 => ⟨g, h1, h2, h3⟩)
    | true =>
      rcases cond_some (show cond (Region.noSelect ops) _ _ = some r from hv) with ⟨hns, hv⟩ | ⟨_, hv⟩
      · have h1 : (Code.region id ops true).wp X.P (noPan (Ends X f K r)) a w :=
          wp_region_any hm (wpAny_of_R _ _ _ _ ((draw_sound hE hns _ _ _ f a _ ops.size (ordOf_depth _ _ _ _) hat.drew hv fun g a' w' h1 h2 h3 => ⟨g, h1, h2, h3⟩).1 rfl))
        refine Code.wp_mono (fun e a' w' hq => ?_) h1
        cases e with
        | panic c => exact hq.elim
        | _ => exact hq
      · cases hv
  | seq x y hx hy => exact seq_ok hx hy
  | cond c x y hx hy =>
    intro R pl f K r hv a w hat
    unfold ev at hv
    split at hv
    · rename_i b hc
      obtain ⟨⟨cx, ow, hs, hpin⟩, _, _⟩ := id hat
      have hb := RelC_bool (c := cx) (ow := ow) (hs.getC hc)
      refine wp_cond_split hb (fun hb1 => ?_) (fun hb1 => ?_)
      · subst hb1; exact hx _ f K r hv a w hat
      · subst hb1; exact hy _ f K r hv a w hat
    · cases hv
  | block id x hx =>
    intro R pl f K r hv a w hat
    refine wp_block (Code.wp_mono ?_ (hx pl.l f _ r hv a w hat))
    rintro e a' w' ⟨g, h1, h2, h3⟩
    cases e with
    | exit j =>
      simp only [Exit.inBlock] at h1 ⊢
      split
      · rename_i he; rw [if_pos he] at h1; exact ⟨g, h1, h2, h3⟩
      · rename_i he; rw [if_neg he] at h1; exact ⟨g, h1, h2, h3⟩
    | _ => exact ⟨g, h1, h2, h3⟩
  | loop x hx => exact loop_ok hx
  | _ => intro R pl f K r hv a w hat; cases hv
end

/-! ### functions -/
section
variable {M src : Nat → Prop} {c : Cx} {ow : Nat → Option Nat} {f : F} {a : Act} {w : World} {P : Program}
theorem resA1_sound (h : SimC M src c ow f a w) {r : ResultVar} {x : A} (hr : resA1 P f r = some x) :
    ∃ v, RelA c ow w (okB src c ow f.ob) v x ∧ (rvSem a.tmps r).run P w = .ok v w := by
  cases r with
  | tmp t =>
    simp only [resA1] at hr
    split at hr
    · rename_i x' hl
      injection hr with hr
      subst hr
      obtain ⟨n, hm⟩ := look_mem hl
      obtain ⟨v, hv, h1⟩ := h.fr t _ _ hm
      exact ⟨v, h1, by simp [rvSem, Array.getD_eq_getD_getElem?, hv]⟩
    · cases hr
  | cell t ty =>
    simp only [resA1] at hr
    split at hr
    · rename_i i off hl
      split at hr
      · rename_i cs hb
        obtain ⟨n, hm⟩ := look_mem hl
        obtain ⟨u, hu, h1⟩ := h.fr t _ _ hm
        have hu' : u = .pointer (some ⟨c.loc i, off, none⟩) := h1
        subst hu'
        have hbx : BoxOk M c ow w (okB src c ow f.ob) i cs := h.obj hb
        obtain ⟨_, _, vs, tt, hh, ha⟩ := hbx
        obtain ⟨v, hr', hl'⟩ := rdC_sound hr ha
        have h2 := hl' w (c.loc i) 0 (cells_of_block hh)
        rw [Nat.zero_add] at h2
        refine ⟨v, hr', ?_⟩
        simp [rvSem, Array.getD_eq_getD_getElem?, hu, asAddr, h2]
      · cases hr
    · cases hr
theorem resVs_sound (h : SimC M src c ow f a w) : ∀ {rs : List ResultVar} {i : Nat} {xs : List (Nat × Nat × S)}, resVs P f i rs = some xs → ∃ vs : List Value, vs.length = rs.length ∧ (∀ s n x, (s, n, x) ∈ xs → ∃ j v, s = i + j ∧ vs[j]? = some v ∧ RelS c ow w (okB src c ow f.ob) v x) ∧
    (rs.mapM (rvSem a.tmps)).run P w = .ok vs w := by
  intro rs
  induction rs with
  | nil => intro i xs hr; injection hr with hr; subst hr; exact ⟨[], rfl, (fun _ _ _ hm => by cases hm), rfl⟩
  | cons r rs ih =>
    intro i xs hr
    unfold resVs at hr
    split at hr
    · rename_i x xs' h1 h2
      injection hr with hr
      subst hr
      obtain ⟨v, g1, g2⟩ := resA1_sound (P := P) h h1
      obtain ⟨vs, g0, g3, g4⟩ := ih h2
      refine ⟨v :: vs, by simp [g0], fun s n y hm => ?_, ?_⟩
      · rcases List.mem_cons.1 hm with he | hm
        · injection he with e1 he
          injection he with e2 e3
          subst e1 e3
          exact ⟨0, v, rfl, rfl, g1⟩
        · obtain ⟨j, u, q1, q2, q3⟩ := g3 s n y hm
          exact ⟨j + 1, u, by omega, by simpa using q2, q3⟩
      · simp only [List.mapM_cons, Sem.run_bind, g2, Result.andThen_ok, g4]
        rfl
    · cases hr
theorem results_sound (h : SimC M src c ow f a w) {fn : Func} {xs : List (Nat × Nat × S)} (hr : resVs P f 0 fn.results.toList = some xs) : ∃ v vs, (results fn a.tmps).run P w = .ok v w ∧ ResIs v vs ∧ vs.length = fn.results.size ∧ ∀ s n x, (s, n, x) ∈ xs → ∃ v, vs[s]? = some v ∧ RelS c ow w (okB src c ow f.ob) v x := by
  obtain ⟨vs, h0, h1, h2⟩ := resVs_sound (P := P) h hr
  have he : fn.results = fn.results.toList.toArray := by simp
  have h3 : (results fn a.tmps).run P w = .ok (if h : vs.toArray.size = 1 then vs.toArray[0] else .tuple vs.toArray) w := by
    rw [results_eq, he, List.mapM_toArray]
    simp only [Sem.run_bind, map_eq_pure_bind, bind_assoc, pure_bind, h2, Result.andThen_ok]
    rfl
  refine ⟨_, vs, h3, ?_, by simpa using h0, fun s n x hm => ?_⟩
  · match vs with
    | [] => rfl
    | [v] => rfl
    | v :: u :: r => simp [ResIs]
  · obtain ⟨j, v, q1, q2, q3⟩ := h1 s n x hm
    rw [Nat.zero_add] at q1
    subst q1
    exact ⟨v, q2, q3⟩
theorem injFr_len : ∀ {f : F} {hs : List (Nat × ST)} {xs ys : List TV} {fr : List (Nat × Nat × S)}, injFr f hs xs = some (fr, ys) → fr.length = hs.length
  | f, [], xs, ys, fr, h => by injection h with h; injection h with h _; subst h; rfl
  | f, (s, .keep) :: hs, xs, ys, fr, h => by
    simp only [injFr] at h
    split at h
    · split at h
      · rename_i hr; injection h with h; injection h with h _; subst h; simp [injFr_len hr]
      · cases h
    · cases h
  | f, (s, .one c) :: hs, xs, ys, fr, h => by
    simp only [injFr] at h
    split at h
    · split at h
      · rename_i hr; injection h with h; injection h with h _; subst h; simp [injFr_len hr]
      · cases h
    · cases h
  | f, (s, .agg cs) :: hs, xs, ys, fr, h => by
    simp only [injFr] at h
    split at h
    · split at h
      · rename_i hr; injection h with h; injection h with h _; subst h; simp [injFr_len hr]
      · cases h
    · cases h
theorem inj_len {h : Sh} {x : denV h.tys} {p : F} (hp : f.inj h x = some p) : p.fr.length = h.fr.length := by
  unfold F.inj at hp
  split at hp
  · rename_i fr xs hfr
    split at hp
    · injection hp with hp; subst hp; exact injFr_len hfr
    · cases hp
  · cases hp
end

/-- A function whose meaning is c.sem meets its contract. -/
theorem fn_ok {P : Program} {E : List Con} {c : Con} {fn : Func} {pl : Plan} (hf : P.funcs[c.f]? = some fn) (hn : (fn.name == "runtime.NumGoroutine") = false) (hm : P.follows .mixedOrders = true) (hE : ∀ e ∈ E, e.Ok P)
    (hsem : ∀ x y, c.sem x = some y → evFn P E fn pl c.pre c.post x = some y) : c.Ok P := by
  intro x y f g hx hfx hgy
  have hv := hsem x y hx
  unfold evFn at hv
  split at hv
  · rename_i cd hb
    rcases cond_some hv with ⟨hcd, hv⟩ | ⟨_, hv⟩
    · simp only [Bool.and_eq_true] at hcd
      obtain ⟨hw, hl, hnt⟩ := hcd
      have hl : c.post.fr.length = fn.results.size := Nat.eq_of_beq_eq_true hl
      have hnt : c.pre.fr.length ≤ fn.ntmps := Nat.le_of_ble_eq_true hnt
      obtain ⟨f', hf', hv⟩ := kOpt_some hv
      rw [hfx] at hf'
      injection hf' with hf'
      subst hf'
      refine ⟨enters_of hf hn (by rw [hb]; rfl), fun w M src cx ow vs hM hsrc hs hvl => ?_⟩
      refine calls_of_wp hf hb ?_
      let X : Ctx := ⟨P, fn.ntmps, w, M, src, cx, hM, hsrc⟩
      have hvl' : vs.length ≤ fn.ntmps := by rw [hvl, inj_len hfx]; exact hnt
      have hat : At X f { tmps := vs.toArray ++ Array.replicate (fn.ntmps - vs.toArray.size) undef, defers := [] } w := by
        refine ⟨⟨cx, ow, ⟨rfl, fun s n x hm => ?_, hs.ob, hs.uniq, hs.rvs⟩, fun o _ => ⟨rfl, rfl⟩⟩, BelowM.refl _ _, by simp; show _ = fn.ntmps; omega⟩
        obtain ⟨v, hv', h1⟩ := hs.fr s n x hm
        have hv' : vs[s]? = some v := by simpa [actL] using hv'
        have hlt : s < vs.length := (List.getElem?_eq_some_iff.1 hv').1
        exact ⟨v, by rw [Array.getElem?_append_left (by simpa using hlt)]; simpa using hv', h1⟩
      refine Code.wp_mono ?_ (ev_ok (X := X) hE hm cd pl f _ y hv _ w hat)
      rintro e a w' ⟨g', h1, h2, ⟨c1, ow1, hs1, hpin1⟩, hb1, hn1⟩
      have fin : (kOpt (resVs P g' 0 fn.results.toList) fun rs => F0.fit ⟨g'.ctr + 1, rs, g'.ob⟩ c.post) = some y → a.defers = [] ∧ ∃ v, (results fn a.tmps).run P w' = .ok v w' ∧
          ∃ v' us c' ow', Ending.returned v = .returned v' ∧ ResIs v' us ∧ BelowM M w w' ∧ SimC M src c' ow' g (actL us) w' ∧ us.length = g.fr.length ∧ ∀ o, pinned o = true → c'.loc o = cx.loc o ∧ c'.rv o = cx.rv o := by
        intro h1
        obtain ⟨rs, hrs, h1⟩ := kOpt_some h1
        obtain ⟨v, us, r1, r2, r3, r4⟩ := results_sound (P := P) hs1 hrs
        let X' : Ctx := ⟨P, us.length, w, M, src, cx, hM, hsrc⟩
        have hat' : At X' ⟨g'.ctr + 1, rs, g'.ob⟩ (actL us) w' := by
          refine ⟨⟨c1, ow1, ⟨rfl, fun s n x hm => ?_, hs1.ob, hs1.uniq, hs1.rvs⟩, hpin1⟩, hb1, by simp [actL]; rfl⟩
          obtain ⟨u, q1, q2⟩ := r4 s n x hm
          exact ⟨u, by simpa [actL] using q1, q2⟩
        obtain ⟨k, k1, k2, k3⟩ := fit_sound (X := X') (f := F0) (g := ⟨g'.ctr + 1, rs, g'.ob⟩) ⟨Nat.zero_le _, fun _ _ _ _ hlt => absurd hlt (Nat.not_lt_zero _), fun _ _ _ _ hlt => absurd hlt (Nat.not_lt_zero _)⟩ rfl hw h1
        rw [hgy] at k1
        injection k1 with k1
        subst k1
        obtain ⟨⟨c2, ow2, hs2, hpin2⟩, hb2, hn2⟩ := k3 _ _ hat'
        exact ⟨hs1.defers, v, r1, v, us, c2, ow2, rfl, r2, hb2, hs2, by rw [inj_len hgy, hl, r3], hpin2⟩
      cases e with
      | ret => exact fin h1
      | normal => exact fin h1
      | _ => cases h1
    · cases hv
  · cases hv
def AllOk (P : Program) : List Con → Prop
  | [] => True
  | c :: cs => c.Ok P ∧ AllOk P cs
theorem AllOk.mem {P : Program} : ∀ {E : List Con}, AllOk P E → ∀ e ∈ E, e.Ok P
  | [], _, e, he => by cases he
  | c :: cs, h, e, he => by
    rcases List.mem_cons.1 he with rfl | he
    · exact h.1
    · exact AllOk.mem h.2 e he
end Go.V
set_option linter.unusedVariables false
namespace Go.V
open Go.Ab Go.RowKit Go.ChangeShapes Go.WideShapes Go.ChangeAt

/-- Data that memory can hold. -/
def Wf : (t : Ty) → den t → Prop
  | .int k, x => k.min ≤ x ∧ x ≤ k.max
  | .bool, _ => True
  | .str, x => x.size ≤ maxLen
  | .sl t, l => l.length ≤ maxLen ∧ ∀ e ∈ l, Wf t e
  | .pair a b, x => Wf a x.1 ∧ Wf b x.2

theorem repL_el {w : World} {t : Ty} {Q : den t → Prop} (hq : ∀ (e : den t) (ys : List Value) (H : List Nat), RepL w ys (cells t e) H → Q e) : ∀ (l : List (den t)) {xs : List Value} {G : List Nat}, RepL w xs (l.map (cells t)).flatten G → ∀ e ∈ l, Q e
  | [], _, _, _, e, he => by cases he
  | y :: l, xs, G, h, e, he => by
    rw [List.map_cons, List.flatten_cons] at h
    obtain ⟨G1, G2, h1, h2, h3⟩ := h.take (cells t y).length
    rw [List.take_left] at h1
    rw [List.drop_left] at h2
    rcases List.mem_cons.1 he with rfl | he
    · exact hq _ _ _ h1
    · exact repL_el hq l h2 e he
theorem wf_of_rep {w : World} : ∀ (t : Ty) (x : den t) {xs : List Value} {F : List Nat}, RepL w xs (cells t x) F → Wf t x
  | .int k, x, xs, F, h => by
    cases h with
    | cons h _ => cases h with | lit h => simpa [plain, Wf] using h
  | .bool, x, xs, F, h => trivial
  | .str, x, xs, F, h => by
    cases h with
    | cons h _ => cases h with | lit h => simpa [plain, Wf] using h
  | .sl t, l, xs, F, h => by
    cases h with
    | cons h _ =>
      refine ⟨by obtain ⟨_, _, _, h1⟩ := Rep.len h; simpa using h1, ?_⟩
      generalize hes : List.map (cells t) l = es at h
      cases h with
      | nil _ =>
        have : l = [] := by simpa using hes
        subst this; simp
      | cons hn h0 hk0 hk hc hm hx hcell hr =>
        subst hes
        exact repL_el (fun e ys H h => wf_of_rep t e h) l hr
  | .pair a b, x, xs, F, h => by
    simp only [cells] at h
    obtain ⟨G1, G2, h1, h2, h3⟩ := h.take (cells a x.1).length
    rw [List.take_left] at h1
    rw [List.drop_left] at h2
    exact ⟨wf_of_rep a x.1 h1, wf_of_rep b x.2 h2⟩

/-- What reads as type t holds data of the type ty. -/
def Dec (P : Program) (t : TypeId) (ty : Ty) : Prop :=
  ∀ (H : Type) (enc : TypeId × Value → H) (w : World) (base : Nat) (spare : Nat → Bool) (held : Bool) (fuel : Nat) (cs : List Value) (x : DataW H × List MemPlace), DataW.trod enc P w base spare held fuel t cs = some x → ∃ (a : den ty) (F : List Nat), RepL w cs (cells ty a) F

section
variable {P : Program} {t e : TypeId}
theorem dec_int {k : IntKind} (ht : P.underlying t = some (.int k)) : Dec P t (.int k) := by
  intro H enc w base spare held fuel cs x h
  obtain ⟨n, rfl, _, hw⟩ := DataW.trod_int ht h
  exact ⟨n, _, .cons (.lit hw) .nil⟩
theorem dec_bool (ht : P.underlying t = some .bool) : Dec P t .bool := by
  intro H enc w base spare held fuel cs x h
  obtain ⟨b, rfl, _⟩ := DataW.trod_bool ht h
  exact ⟨b, _, .cons (.lit rfl) .nil⟩
theorem dec_str (ht : P.underlying t = some .string) : Dec P t .str := by
  intro H enc w base spare held fuel cs x h
  obtain ⟨s, rfl, _, hs⟩ := DataW.trod_string ht h
  exact ⟨s, _, .cons (.lit (by simpa [plain] using hs)) .nil⟩

theorem dec_rows {ty : Ty} {w : World} {k : Nat} {b off : Nat} : ∀ (n i : Nat), (∀ j, i ≤ j → j < i + n → ∃ (us : List Value) (a : den ty) (F : List Nat), us.length = k ∧ (∀ m, m < k → w.cell? ⟨b, off + (j * k + m), none⟩ = us[m]?) ∧ RepL w us (cells ty a) F) →
    ∃ (l : List (den ty)) (xs : List Value) (F : List Nat), l.length = n ∧ xs.length = n * k ∧ (∀ j u, xs[j]? = some u → w.cell? ⟨b, off + (i * k + j), none⟩ = some u) ∧ RepL w xs (l.map (cells ty)).flatten F := by
  intro n
  induction n with
  | zero => intro i _; exact ⟨[], [], [], rfl, by simp, by simp, .nil⟩
  | succ n ih =>
    intro i h
    obtain ⟨us, a, F, h1, h2, h3⟩ := h i (Nat.le_refl _) (by omega)
    obtain ⟨l, xs, G, g1, g2, g3, g4⟩ := ih (i + 1) fun j hj hj' => h j (by omega) (by omega)
    refine ⟨a :: l, us ++ xs, F ++ G, by simp [g1], by simp [h1, g2, Nat.succ_mul, Nat.add_comm], fun j u hu => ?_, by simpa using h3.append g4⟩
    by_cases hj : j < k
    · rw [List.getElem?_append_left (by omega)] at hu
      rw [h2 j hj]; exact hu
    · rw [List.getElem?_append_right (by omega), h1] at hu
      have := g3 (j - k) u hu
      rw [Nat.succ_mul] at this
      rw [show i * k + j = i * k + k + (j - k) by omega]
      exact this

theorem dec_slice {ty : Ty} (ht : P.underlying t = some (.slice e)) (hk : P.cellsOf e = tyLen ty) (hd : Dec P e ty) : Dec P t (.sl ty) := by
  have h0 : 0 < tyLen ty := tyLen_pos ty
  intro H enc w base spare held fuel cs x h
  rcases DataW.trod_slice ht h with ⟨rfl, _⟩ | ⟨a, len, cap, elems, rest, n, _, rfl, _, hb, hl, hm, hel, hels, _, _⟩
  · exact ⟨[], [], by simpa [cells] using RepL.cons (F := []) (.nil (Nat.zero_le _)) .nil⟩
  · rw [hk] at hels
    rcases Nat.eq_zero_or_pos len with rfl | hpos
    · exact ⟨[], [], by simpa [cells] using RepL.cons (F := []) (.nil hm) .nil⟩
    · have each : ∀ j, j < len → ∃ (us : List Value) (x : den ty) (F : List Nat), us.length = tyLen ty ∧ (∀ m, m < tyLen ty → w.cell? ((a.add (j * tyLen ty)).add m) = us[m]?) ∧ RepL w us (cells ty x) F := by
        intro j hj
        have h1 := hels j hj
        have h2 : elems[j]? = some elems[j] := List.getElem?_eq_getElem (by omega)
        rw [h2, Option.bind_eq_some_iff] at h1
        obtain ⟨us, hus, htr⟩ := h1
        obtain ⟨_, hul, huc⟩ := World.cells?_some hus
        obtain ⟨x, F, hr⟩ := hd H enc w base spare held n us _ htr
        exact ⟨us, x, F, hul, huc, hr⟩
      have hsp : a.spot = none := by
        obtain ⟨us, _, _, h1, h2, _⟩ := each 0 hpos
        have h3 := h2 0 h0
        have h4 : us[0]? = some us[0] := List.getElem?_eq_getElem (by omega)
        rw [h4] at h3
        unfold World.cell? at h3
        split at h3
        · split at h3
          · cases h3
          · rename_i hs
            cases ha : a.spot with
            | none => rfl
            | some z => simp [Addr.add, ha] at hs
        · cases h3
      obtain ⟨ab, ao, as⟩ := a
      simp only at hsp
      subst hsp
      obtain ⟨l, xs, F, g1, g2, g3, g4⟩ := dec_rows (ty := ty) (w := w) (b := ab) (off := ao) len 0 fun j _ hj => by
        obtain ⟨us, x, F, h1, h2, h3⟩ := each j (by omega)
        refine ⟨us, x, F, h1, fun m hm => ?_, h3⟩
        rw [← h2 m hm]
        simp only [add_eq, Nat.add_assoc]
      refine ⟨l, ab :: F ++ [], .cons (.cons (k := tyLen ty) (by simpa using g1) hpos h0 (fun e he => ?_) hl hm g2 (fun j u hu => ?_) g4) .nil⟩
      · obtain ⟨y, _, rfl⟩ := List.mem_map.1 he
        exact cells_len ty y
      · have := g3 j u hu
        simpa using this

/-- Fields of a struct, one after the other. -/
def Decs (P : Program) (fs : List Field) (off : Nat) (ty : Ty) : Prop :=
  ∀ (H : Type) (enc : TypeId × Value → H) (w : World) (base : Nat) (spare : Nat → Bool) (held : Bool) (n : Nat) (cs : List Value), cs.length = off + tyLen ty → (∀ f ∈ fs, (DataW.trod enc P w base spare held n f.type ((cs.drop f.offset).take (P.cellsOf f.type))).isSome = true) → ∃ (a : den ty) (F : List Nat), RepL w (cs.drop off) (cells ty a) F
theorem decs_one {f : Field} {ty : Ty} {off : Nat} (hd : Dec P f.type ty) (ho : f.offset = off) (hk : P.cellsOf f.type = tyLen ty) : Decs P [f] off ty := by
  intro H enc w base spare held n cs hl hf
  obtain ⟨x, hx⟩ := Option.isSome_iff_exists.1 (hf f (List.mem_singleton.2 rfl))
  obtain ⟨a, F, hr⟩ := hd H enc w base spare held n _ x hx
  rw [ho, hk, List.take_of_length_le (by simp; omega)] at hr
  exact ⟨a, F, hr⟩
theorem decs_cons {f : Field} {fs : List Field} {ta tb : Ty} {off : Nat} (hd : Dec P f.type ta) (ho : f.offset = off) (hk : P.cellsOf f.type = tyLen ta) (hs : Decs P fs (off + tyLen ta) tb) : Decs P (f :: fs) off (.pair ta tb) := by
  intro H enc w base spare held n cs hl hf
  obtain ⟨x, hx⟩ := Option.isSome_iff_exists.1 (hf f (List.mem_cons_self ..))
  obtain ⟨a, F, hr⟩ := hd H enc w base spare held n _ x hx
  rw [ho, hk] at hr
  obtain ⟨b, G, hg⟩ := hs H enc w base spare held n cs (by simp only [tyLen] at hl; omega) fun f' hf' => hf f' (List.mem_cons_of_mem _ hf')
  refine ⟨(a, b), F ++ G, ?_⟩
  have := hr.append hg
  rw [← List.drop_drop, List.take_append_drop] at this
  exact this
theorem dec_struct {fs : Array Field} {ty : Ty} (ht : P.underlying t = some (.struct fs)) (hk : P.cellsOf t = tyLen ty) (hs : Decs P fs.toList 0 ty) : Dec P t ty := by
  intro H enc w base spare held fuel cs x h
  obtain ⟨xs, n, _, _, hl, hn, hf⟩ := DataW.trod_struct ht h
  obtain ⟨a, F, hr⟩ := hs H enc w base spare held n cs (by rw [hl, hk]; omega) fun f hf' => by
    obtain ⟨i, hi⟩ := List.getElem?_of_mem hf'
    have hi' : fs[i]? = some f := by simpa using hi
    rw [hf i f hi']
    have hlt : i < xs.length := by
      rw [hn]
      exact (Array.getElem?_eq_some_iff.1 hi').1
    rw [List.getElem?_eq_getElem hlt]; rfl
  exact ⟨a, F, by simpa using hr⟩

def decTys (P : Program) (g : TypeId → Option Ty) : Nat → List Field → Option Ty
  | _, [] => none
  | off, f :: fs => match g f.type with
    | some a => if f.offset = off ∧ P.cellsOf f.type = tyLen a then (match fs with
      | [] => some a
      | _ :: _ => (decTys P g (off + tyLen a) fs).map (Ty.pair a)) else none
    | none => none
/-- The type of data of a Go type, with all that a reading of it leans on. -/
def decTy (P : Program) : Nat → TypeId → Option Ty
  | 0 => fun _ => none
  | n + 1 => fun t =>
    match P.underlying t with
    | some (.int k) => some (.int k)
    | some .bool => some .bool
    | some .string => some .str
    | some (.slice e) => match decTy P n e with
      | some ty => if P.cellsOf e = tyLen ty then some (.sl ty) else none
      | none => none
    | some (.struct fs) => match decTys P (decTy P n) 0 fs.toList with
      | some ty => if P.cellsOf t = tyLen ty then some ty else none
      | none => none
    | _ => none
theorem decTy_sound : ∀ (n : Nat) {t : TypeId} {ty : Ty}, decTy P n t = some ty → Dec P t ty
  | 0, t, ty, h => by simp [decTy] at h
  | n + 1, t, ty, h => by
    have fields : ∀ (fs : List Field) (off : Nat) (ty : Ty), decTys P (decTy P n) off fs = some ty → Decs P fs off ty := by
      intro fs
      induction fs with
      | nil => intro off ty h; simp [decTys] at h
      | cons f fs ih =>
        intro off ty h
        cases fs with
        | nil =>
          simp only [decTys] at h
          split at h
          · rename_i a ha
            split at h
            · rename_i hc
              injection h with h
              subst h
              exact decs_one (decTy_sound n ha) hc.1 hc.2
            · cases h
          · cases h
        | cons g fs =>
          simp only [decTys] at h
          split at h
          · rename_i a ha
            split at h
            · rename_i hc
              obtain ⟨b, hb, rfl⟩ := Option.map_eq_some_iff.1 h
              exact decs_cons (decTy_sound n ha) hc.1 hc.2 (ih _ _ hb)
            · cases h
          · cases h
    unfold decTy at h
    split at h
    · rename_i ht; injection h with h; subst h; exact dec_int ht
    · rename_i ht; injection h with h; subst h; exact dec_bool ht
    · rename_i ht; injection h with h; subst h; exact dec_str ht
    · rename_i ht
      split at h
      · rename_i ty' hty
        split at h
        · rename_i hk; injection h with h; subst h; exact dec_slice ht hk (decTy_sound n hty)
        · cases h
      · cases h
    · rename_i ht
      split at h
      · rename_i ty' hty
        split at h
        · rename_i hk; injection h with h; subst h; exact dec_struct ht hk (fields _ _ _ hty)
        · cases h
      · cases h
    · cases h

/-! ### arguments -/
def noCx : Cx := ⟨fun _ => 0, fun _ => .slice none 0 0⟩
/-- A value holds data, as an argument. -/
def ArgOk (w : World) (v : Value) (x : A) : Prop := RelA noCx (fun _ => none) w (fun _ => True) v x
theorem arg_one {ty : Ty} {H : Type} {enc : TypeId × Value → H} {w : World} {v : Value} {d : DataW H} {ps : List MemPlace} (hd : Dec P t ty) (hag : v.cells = #[v]) (h : DataW.Trod enc P w 0 (fun _ => true) true t v d ps) (hty : ∀ a : den ty, cells ty a = [leafT ty a]) : ∃ a : den ty, Wf ty a ∧ ArgOk w v (.one (.v ty a)) := by
  obtain ⟨fuel, hf⟩ := h
  obtain ⟨a, F, hr⟩ := hd H enc w 0 _ true fuel _ _ hf
  have hw := wf_of_rep ty a hr
  rw [hag, hty] at hr
  cases hr with
  | cons h1 h2 => exact ⟨a, hw, _, h1, fun _ _ => trivial⟩
theorem arg_agg {ty : Ty} {H : Type} {enc : TypeId × Value → H} {w : World} {cs : Array Value} {d : DataW H} {ps : List MemPlace} (hd : Dec P t ty) (h : DataW.Trod enc P w 0 (fun _ => true) true t (.agg cs) d ps) : ∃ a : den ty, Wf ty a ∧ ArgOk w (.agg cs) (.agg (split ty a)) := by
  obtain ⟨fuel, hf⟩ := h
  obtain ⟨a, F, hr⟩ := hd H enc w 0 _ true fuel _ _ hf
  have hr' : RepL w cs.toList (cells ty a) F := by simpa [Value.cells] using hr
  exact ⟨a, wf_of_rep ty a hr', cs.toList, by simp, rel_split ty a hr' fun _ _ => trivial⟩
end
theorem ok_slice {P : Program} {t e : TypeId} {w : World} {r : Reach} {b : Nat} {v : Value} (ht : P.underlying t = some (.slice e)) (h : Value.okWide P w r b t v) : v.cells = #[v] := by
  cases v <;> first | rfl | simp [Value.okWide, ht, Cell.okWide, Cell.ok] at h
theorem ok_int {P : Program} {t : TypeId} {k : IntKind} {w : World} {r : Reach} {b : Nat} {v : Value} (ht : P.underlying t = some (.int k)) (h : Value.okWide P w r b t v) : v.cells = #[v] := by
  obtain ⟨n, rfl⟩ := okWide_int ht h; rfl
theorem ok_bool {P : Program} {t : TypeId} {w : World} {r : Reach} {b : Nat} {v : Value} (ht : P.underlying t = some .bool) (h : Value.okWide P w r b t v) : v.cells = #[v] := by
  cases v <;> first | rfl | simp [Value.okWide, ht, Cell.okWide, Cell.ok] at h
theorem ok_str {P : Program} {t : TypeId} {w : World} {r : Reach} {b : Nat} {v : Value} (ht : P.underlying t = some .string) (h : Value.okWide P w r b t v) : v.cells = #[v] := by
  cases v <;> first | rfl | simp [Value.okWide, ht, Cell.okWide, Cell.ok] at h
theorem ok_struct {P : Program} {t : TypeId} {fs : Array Field} {w : World} {r : Reach} {b : Nat} {v : Value} (ht : P.underlying t = some (.struct fs)) (h : Value.okWide P w r b t v) : ∃ cs, v = .agg cs := by
  simp only [Value.okWide, ht] at h
  obtain ⟨cs, rfl, _⟩ := h
  exact ⟨cs, rfl⟩

/-! ### the ending -/
section
variable {H : Type} {enc : TypeId × Value → H} {P : Program}
theorem trodAll_below {W W' : World} (hl : laidOutB P = true) (hb : Below W.heap.size W W') : ∀ {ts : List TypeId} {vs : List Value} {ds : List (DataW H)} {ps : List MemPlace}, (ts.all fun t => P.readableRec t && decide (t < P.types.size)) = true → DataW.TrodAll enc P W 0 (fun _ => true) true ts vs ds ps →
    (∀ x ∈ ps, x.block < W.heap.size) → ∀ sp : Nat → Bool, (∀ p ∈ ps, sp p.block = true) → DataW.TrodAll enc P W' 0 sp true ts vs ds ps
  | [], [], [], _, _, h, _, _, _ => h
  | t :: ts, v :: vs, d :: ds, ps, hr, ⟨p, q, h1, h2, hp⟩, hlt, sp, hs => by
    subst hp
    simp only [List.all_cons, Bool.and_eq_true, decide_eq_true_eq] at hr
    refine ⟨p, q, ?_, trodAll_below hl hb hr.2 h2 (fun x hx => hlt x (List.mem_append_right _ hx)) sp (fun x hx => hs x (List.mem_append_right _ hx)), rfl⟩
    exact WideElems.Trod_stays hl hr.1.1 hr.1.2 h1 (fun x hx => hb.same (hlt x (List.mem_append_left _ hx))) (fun x hx => hs x (List.mem_append_left _ hx))

/-- The ending of a law: true, and the arguments read as they did. -/
theorem post_below {f : Func} {s : ChangeSpec} {W W' : World} {args : Array Value} {ds : List (DataW H)} {before : List MemPlace} (hl : laidOutB P = true) (hr : (f.params.toList.all fun t => P.readableRec t && decide (t < P.types.size)) = true) (hv : s.vars = [])
    (hW : DataW.Whole enc P f.params.toList s.vars false W args.toList ds [] before) (hb : Below W.heap.size W W') (hfn : s.fn H (ds ++ []) = { results := [.lit (.bool true)], args := ds }) {tb : TypeId} (ht : f.resultTypes = #[tb]) (hu : P.underlying tb = some .bool) :
    s.post enc P f false true false false W args (.bool true) W' := by
  have hold : ∀ p ∈ before, (fun b => decide (b < W.heap.size)) p.block = true := fun p hp => by simpa using hW.lt p hp
  have hlt : ∀ p ∈ before, p.block < W.heap.size := fun p hp => by simpa using hold p hp
  obtain ⟨p, q, hA, hV, hpq, hz, hn⟩ := id hW
  rw [hv] at hV
  obtain ⟨_, rfl⟩ := trodVars_none hV
  rw [List.append_nil] at hpq
  subst hpq
  have hres : ∀ (b : Nat) (sp : Nat → Bool) (hd : Bool), DataW.TrodAll enc P W' b sp hd f.resultTypes.toList ((Value.bool true).resultList f.resultTypes.size) (s.fn H (ds ++ [])).results [] := by
    intro b sp hd
    rw [hfn, ht]
    exact trodAll_cons_mk (shut_bool hu _) trodAll_mk0
  have hargs : ∀ sp : Nat → Bool, (∀ x ∈ before, sp x.block = true) → DataW.TrodAll enc P W' 0 sp true f.params.toList args.toList (s.fn H (ds ++ [])).args before := by
    intro sp hs
    rw [hfn]
    exact trodAll_below hl hb hr hA hlt sp hs
  have hvars : ∀ sp : Nat → Bool, DataW.TrodVars enc P W' sp s.vars (s.fn H (ds ++ [])).vars [] := by
    intro sp
    rw [hv, hfn]
    rfl
  refine ⟨ds, [], before, [], before, [], hW, hres _ _ _, hargs _ hold, hvars _, hb.frame _, fun _ => ?_⟩
  refine ⟨ok_one (by rw [ht]) rfl (okWide_bool_mk hu _), _, _, ([] ++ before) ++ [], ⟨[] ++ before, [], trodAll_append (hargs _ (fun _ _ => rfl)) (hres _ _ _), hvars _, rfl, ?_, ?_⟩, ?_⟩
  · intro b off hp
    have hp' : MemPlace.cell b off ∈ before := by simpa using hp
    rw [hb.frozen (p := ⟨b, off, none⟩) (hlt _ hp')]
    exact hz b off hp'
  · intro ha; cases ha
  · intro p hp _
    simpa using hp

def argFr : Nat → List A → List (Nat × Nat × S)
  | _, [] => []
  | i, x :: xs => (i, 0, .val x) :: argFr (i + 1) xs
theorem argFr_len : ∀ (i : Nat) (xs : List A), (argFr i xs).length = xs.length
  | _, [] => rfl
  | i, x :: xs => by simp [argFr, argFr_len (i + 1) xs]
theorem argFr_mem {vs : List Value} {xs : List A} {W : World} (h : All2 (ArgOk W) vs xs) : ∀ {i s n : Nat} {x : S}, (s, n, x) ∈ argFr i xs → ∃ j v y, s = i + j ∧ vs[j]? = some v ∧ x = .val y ∧ ArgOk W v y := by
  induction h with
  | nil => intro i s n x hm; cases hm
  | cons h1 h2 ih =>
    intro i s n x hm
    rcases List.mem_cons.1 hm with he | hm
    · injection he with e1 he
      injection he with _ e2
      subst e1 e2
      exact ⟨0, _, _, rfl, rfl, rfl, h1⟩
    · obtain ⟨j, v, y, g1, g2, g3⟩ := ih hm
      exact ⟨j + 1, v, y, by omega, by simpa using g2, g3⟩

/-- A contract with the result true, at a world. -/
theorem calls_law {c : Con} (hok : c.Ok P) {x : denV c.pre.tys} {y : denV c.post.tys} {W : World} {args : Array Value} {xs : List A} (hsem : c.sem x = some y) (hpre : F0.inj c.pre x = some ⟨1, argFr 0 xs, []⟩) (hpost : F0.inj c.post y = some ⟨1, [(0, 0, .val (.one (.v .bool true)))], []⟩) (ha : All2 (ArgOk W) args.toList xs) :
    Calls P c.f args W fun e W' => e = .returned (.bool true) ∧ Below W.heap.size W W' := by
  obtain ⟨_, hm⟩ := hok x y _ _ hsem hpre hpost
  have hlive : ∀ b, ¬ live noCx (fun _ => none) [] b := fun b ⟨_, _, _, hm, _⟩ => by cases hm
  have hokB : okB (fun _ => True) noCx (fun _ => none) [] = fun _ => True := by
    funext b
    exact propext ⟨fun _ => trivial, fun _ => ⟨trivial, hlive b⟩⟩
  have h := hm W (fun b => W.heap.size ≤ b) (fun _ => True) noCx (fun _ => none) args.toList (fun b hb => hb) (fun _ _ => trivial)
    ⟨rfl, fun s n z hmem => by
      obtain ⟨j, v, y, g1, g2, g3, g4⟩ := argFr_mem ha hmem
      subst g3
      have : s = j := by omega
      subst this
      refine ⟨v, by simpa [actL] using g2, ?_⟩
      show RelA _ _ _ _ _ _
      rw [hokB]
      exact g4, fun o n z hm => (by cases hm), fun o n z m z' hm => (by cases hm), fun r => ⟨_, _, _, rfl⟩⟩ (by rw [argFr_len]; exact ha.length)
  have hargs : args.toList.toArray = args := by simp
  rw [hargs] at h
  refine h.mono fun e W' ⟨v, us, c', ow', he, hres, hb, hsim, hlen, _⟩ => ⟨?_, hb.os, hb.tape, hb.output, hb.size, fun k hk => hb.block k hk (by omega)⟩
  obtain ⟨u, hu, hr⟩ := hsim.fr 0 0 _ (List.mem_singleton.2 rfl)
  have hr := RelC_bool (c := c') (ow := ow') hr
  have hlen : us.length = 1 := hlen
  match us, hlen with
  | [u'], _ =>
    have hu : u' = u := by simpa [actL] using hu
    have hv : v = u' := hres
    rw [he, hv, hu, hr]
end
end Go.V
set_option linter.unusedVariables false
namespace Go.V
open Go.Ab Go.RowKit

section
variable {σ R : Type} {step : σ → Option (σ ⊕ R)}
theorem iterM_succ {n : Nat} {s : σ} {r : R} (h : iterM step n s = some r) : iterM step (n + 1) s = some r := by
  induction n generalizing s with
  | zero => cases h
  | succ n ih =>
    have h : Option.bind (step s) (Sum.elim (iterM step n) some) = some r := h
    show Option.bind (step s) (Sum.elim (iterM step (n + 1)) some) = some r
    cases hs : step s with
    | none => rw [hs] at h; cases h
    | some y =>
      rw [hs] at h
      cases y with
      | inl s' => exact ih h
      | inr r' => exact h
theorem iterM_le {n m : Nat} (hm : n ≤ m) {s : σ} {r : R} (h : iterM step n s = some r) : iterM step m s = some r := by
  induction hm with
  | refl => exact h
  | step _ ih => exact iterM_succ ih
theorem loopM_of {n : Nat} {s : σ} {r : R} (h : iterM step n s = some r) : loopM step s = some r := by
  have hex : ∃ n, (iterM step n s).isSome = true := ⟨n, by rw [h]; rfl⟩
  unfold loopM
  rw [dif_pos hex]
  obtain ⟨r', hr'⟩ := Option.isSome_iff_exists.1 hex.choose_spec
  rcases Nat.le_total n hex.choose with hle | hle
  · exact iterM_le hle h
  · rw [iterM_le hle hr'] at h
    rw [hr']
    exact h
theorem loopM_iff {s : σ} {r : R} : loopM step s = some r ↔ ∃ n, iterM step n s = some r := by
  constructor
  · intro h
    unfold loopM at h
    split at h
    · exact ⟨_, h⟩
    · cases h
  · rintro ⟨n, h⟩; exact loopM_of h
theorem loopM_done {s : σ} {r : R} (h : step s = some (.inr r)) : loopM step s = some r :=
  loopM_of (n := 1) (by show Option.bind (step s) _ = _; rw [h]; rfl)
theorem loopM_next {s s' : σ} (h : step s = some (.inl s')) : loopM step s = loopM step s' := by
  have key : ∀ r, loopM step s = some r ↔ loopM step s' = some r := by
    intro r
    rw [loopM_iff, loopM_iff]
    constructor
    · rintro ⟨n, hn⟩
      cases n with
      | zero => cases hn
      | succ n =>
        refine ⟨n, ?_⟩
        have hn : Option.bind (step s) (Sum.elim (iterM step n) some) = some r := hn
        rw [h] at hn
        exact hn
    · rintro ⟨n, hn⟩
      refine ⟨n + 1, ?_⟩
      show Option.bind (step s) (Sum.elim (iterM step n) some) = some r
      rw [h]
      exact hn
  cases h1 : loopM step s with
  | none =>
    cases h2 : loopM step s' with
    | none => rfl
    | some r => rw [(key r).2 h2] at h1; cases h1
  | some r => exact ((key r).1 h1).symm
theorem loopM_fail {s : σ} (h : step s = none) : loopM step s = none := by
  cases h1 : loopM step s with
  | none => rfl
  | some r =>
    obtain ⟨n, hn⟩ := loopM_iff.1 h1
    cases n with
    | zero => cases hn
    | succ n =>
      have hn : Option.bind (step s) (Sum.elim (iterM step n) some) = some r := hn
      rw [h] at hn
      cases hn
/-- A loop that goes through known states. -/
theorem loopM_run (st : Nat → σ) (m : Nat) (h : ∀ k, k < m → step (st k) = some (.inl (st (k + 1)))) : loopM step (st 0) = loopM step (st m) := by
  induction m with
  | zero => rfl
  | succ m ih => rw [ih fun k hk => h k (by omega)]; exact loopM_next (h m (by omega))
theorem loopM_to {st : Nat → σ} {m : Nat} {r : R} (h : ∀ k, k < m → step (st k) = some (.inl (st (k + 1)))) (he : step (st m) = some (.inr r)) : loopM step (st 0) = some r := by
  rw [loopM_run st m h]; exact loopM_done he
end

theorem wrap_in {n : Int} (h0 : -9223372036854775808 ≤ n) (h1 : n ≤ 9223372036854775807) : IntKind.i64.wrap n = n := by
  have : plain (.int .i64 n) = true := by simp [plain, IntKind.min, IntKind.max, IntKind.signed, IntKind.bits]; omega
  simp only [IntKind.wrap, IntKind.signed, IntKind.bits]
  simp
  omega
theorem idx_nat {α : Type} {l : List α} {k : Nat} : idx l (k : Int) = l[k]? := by simp [idx]
@[simp] theorem obind_some {α β : Type} (x : α) (f : α → Option β) : Option.bind (some x) f = f x := rfl
@[simp] theorem obind_none {α β : Type} (f : α → Option β) : Option.bind none f = none := rfl
end Go.V
set_option linter.unusedVariables false
namespace Go.V
open Go.Ab Go.RowKit

/-- No slice has more than B elements. -/
def SmB (B : Nat) : (t : Ty) → den t → Prop
  | .int _, _ => True
  | .bool, _ => True
  | .str, _ => True
  | .sl t, l => l.length ≤ B ∧ ∀ e ∈ l, SmB B t e
  | .pair a b, x => SmB B a x.1 ∧ SmB B b x.2
/-- No slice has more than 2^20 elements. -/
abbrev Sm (t : Ty) (x : den t) : Prop := SmB 1048576 t x
theorem SmB.mono {B C : Nat} (h : B ≤ C) : ∀ {t : Ty} {x : den t}, SmB B t x → SmB C t x
  | .int _, _, _ => trivial
  | .bool, _, _ => trivial
  | .str, _, _ => trivial
  | .sl t, l, hx => ⟨Nat.le_trans hx.1 h, fun e he => (hx.2 e he).mono h⟩
  | .pair a b, x, hx => ⟨hx.1.mono h, hx.2.mono h⟩
theorem SmB.flat {B : Nat} : ∀ {t : Ty} {x : den t}, flat t = true → SmB B t x
  | .int _, _, _ => trivial
  | .bool, _, _ => trivial
  | .str, _, _ => trivial
  | .sl t, l, hx => by cases hx
  | .pair a b, x, hx => by
    simp only [Go.V.flat, Bool.and_eq_true] at hx
    exact ⟨SmB.flat hx.1, SmB.flat hx.2⟩

/-- All elements of all slices. -/
def tot : (t : Ty) → den t → Nat
  | .int _, _ => 0
  | .bool, _ => 0
  | .str, _ => 0
  | .sl t, l => l.length + (l.map (tot t)).sum
  | .pair a b, x => tot a x.1 + tot b x.2
/-- All scalars. -/
def lv : (t : Ty) → den t → Nat
  | .int _, _ => 1
  | .bool, _ => 1
  | .str, _ => 1
  | .sl t, l => (l.map (lv t)).sum
  | .pair a b, x => lv a x.1 + lv b x.2
def wd : Ty → Nat
  | .int _ => 1
  | .bool => 1
  | .str => 1
  | .sl t => wd t
  | .pair a b => wd a + wd b
theorem tot_flat : ∀ {t : Ty} {x : den t}, flat t = true → tot t x = 0
  | .int _, _, _ => rfl
  | .bool, _, _ => rfl
  | .str, _, _ => rfl
  | .sl t, l, hx => by cases hx
  | .pair a b, x, hx => by
    simp only [flat, Bool.and_eq_true] at hx
    simp only [tot]
    rw [tot_flat hx.1, tot_flat hx.2]
theorem sum_mem {α : Type} {f : α → Nat} : ∀ {l : List α} {x : α}, x ∈ l → f x ≤ (l.map f).sum
  | y :: l, x, h => by
    simp only [List.map_cons, List.sum_cons]
    rcases List.mem_cons.1 h with rfl | h
    · omega
    · have := sum_mem (f := f) h; omega
theorem sm_of_tot {B : Nat} : ∀ {t : Ty} {x : den t}, tot t x ≤ B → SmB B t x
  | .int _, _, _ => trivial
  | .bool, _, _ => trivial
  | .str, _, _ => trivial
  | .sl t, l, h => by
    simp only [tot] at h
    exact ⟨by omega, fun e he => sm_of_tot (by have := sum_mem (f := tot t) he; omega)⟩
  | .pair a b, x, h => by
    simp only [tot] at h
    exact ⟨sm_of_tot (by omega), sm_of_tot (by omega)⟩
theorem sum_le_mul {α : Type} {f g : α → Nat} {w : Nat} : ∀ {l : List α}, (∀ x ∈ l, f x ≤ w * (g x + 1)) → (l.map f).sum ≤ w * (l.length + (l.map g).sum)
  | [], _ => by simp
  | x :: l, h => by
    have h1 := h x (List.mem_cons_self ..)
    have h2 := sum_le_mul (l := l) fun y hy => h y (List.mem_cons_of_mem _ hy)
    simp only [List.map_cons, List.sum_cons, List.length_cons]
    have : w * (l.length + 1 + (g x + (l.map g).sum)) = w * (g x + 1) + w * (l.length + (l.map g).sum) := by rw [← Nat.mul_add]; congr 1; omega
    omega
theorem lv_le : ∀ (t : Ty) (x : den t), lv t x ≤ wd t * (tot t x + 1)
  | .int _, _ => by simp [lv, wd, tot]
  | .bool, _ => by simp [lv, wd, tot]
  | .str, _ => by simp [lv, wd, tot]
  | .sl t, l => by
    simp only [lv, wd, tot]
    have := sum_le_mul (f := lv t) (g := tot t) (w := wd t) (l := l) fun x _ => lv_le t x
    exact Nat.le_trans this (Nat.mul_le_mul_left _ (by omega))
  | .pair a b, x => by
    simp only [lv, wd, tot]
    have h1 := lv_le a x.1
    have h2 := lv_le b x.2
    have h3 : wd a * (tot a x.1 + 1) ≤ wd a * (tot a x.1 + tot b x.2 + 1) := Nat.mul_le_mul_left _ (by omega)
    have h4 : wd b * (tot b x.2 + 1) ≤ wd b * (tot a x.1 + tot b x.2 + 1) := Nat.mul_le_mul_left _ (by omega)
    rw [Nat.add_mul]
    omega

theorem tot_pair {a b : Ty} {x : den (.pair a b)} : tot (.pair a b) x = tot a x.1 + tot b x.2 := rfl
theorem tot_int {k : IntKind} {x : den (.int k)} : tot (.int k) x = 0 := rfl
theorem tot_bool {x : den .bool} : tot .bool x = 0 := rfl
theorem tot_str {x : den .str} : tot .str x = 0 := rfl
theorem tot_l {a b : Ty} {x : den (.pair a b)} {N : Nat} (h : tot (.pair a b) x ≤ N) : tot a x.1 ≤ N := Nat.le_trans (Nat.le_add_right _ _) h
theorem tot_r {a b : Ty} {x : den (.pair a b)} {N : Nat} (h : tot (.pair a b) x ≤ N) : tot b x.2 ≤ N := Nat.le_trans (Nat.le_add_left _ _) h
theorem lv_small {t : Ty} {x : den t} (h : tot t x ≤ 1099511627776) (hw : wd t ≤ 1000) : ((lv t x : Nat) : Int) ≤ 1099511628777000 := by
  have h1 := lv_le t x
  have h2 : wd t * (tot t x + 1) ≤ 1000 * 1099511627777 := Nat.mul_le_mul hw (by omega)
  omega
theorem tot_flatL {t : Ty} {l : List (den t)} (h : flat t = true) : tot (.sl t) l = l.length := by
  have : ∀ l : List (den t), (l.map (tot t)).sum = 0 := by
    intro l
    induction l with
    | nil => rfl
    | cons x l ih => rw [List.map_cons, List.sum_cons, ih, tot_flat h]
  show l.length + (l.map (tot t)).sum = _
  rw [this]; rfl
section
variable {α β : Type}
/-! ### compared -/
noncomputable def eqL (eqE : α → α → Option Bool) (a b : List α) : Option Bool :=
  cond ((a.length : Int) != (b.length : Int)) (some false) (@Option.bind (Unit ⊕ Bool) Bool (@loopM Int (Unit ⊕ Bool) (fun (s : Int) => cond (decide (s < (a.length : Int))) (Option.bind (idx a s) fun x => Option.bind (idx b s) fun y => Option.bind (eqE x y) fun z => cond (!z) (some (Sum.inr (Sum.inr false))) (some (Sum.inl (IntKind.i64.wrap (s + (1 : Int)))))) (some (Sum.inr (Sum.inl ())))) (0 : Int)) fun (z : Unit ⊕ Bool) => Sum.elim (fun _ => some true) some z)
theorem eqL_refl {eqE : α → α → Option Bool} {l : List α} (hl : l.length ≤ 4611686018427387904) (h : ∀ x ∈ l, eqE x x = some true) : eqL eqE l l = some true := by
  unfold eqL
  simp only [bne_self_eq_false, cond_false]
  have := loopM_to (step := fun (s : Int) => cond (decide (s < (l.length : Int))) (Option.bind (idx l s) fun x => Option.bind (idx l s) fun y => Option.bind (eqE x y) fun z => cond (!z) (some (Sum.inr (Sum.inr false))) (some (Sum.inl (IntKind.i64.wrap (s + (1 : Int)))))) (some (Sum.inr (Sum.inl ())))) (st := fun k => (k : Int)) (m := l.length) (r := (Sum.inl () : Unit ⊕ Bool)) (fun k hk => by
      have h1 : decide ((k : Int) < (l.length : Int)) = true := by simpa using hk
      have h2 : IntKind.i64.wrap ((k : Int) + 1) = ((k + 1 : Nat) : Int) := by rw [wrap_in (by omega) (by omega)]; omega
      have h3 : l[k]? = some l[k] := List.getElem?_eq_getElem hk
      simp only [h1, cond_true, idx_nat, h3, obind_some, h l[k] (List.getElem_mem hk), Bool.not_true, cond_false, h2]) (by simp)
  have h0 : ((0 : Nat) : Int) = 0 := rfl
  simp only [h0] at this
  rw [this]
  rfl

/-! ### copied -/
noncomputable def toL (bytes : Nat) (z : β) (toE : α → Option β) (a : List α) : Option (List β) :=
  cond (mkOk bytes (a.length : Int) (a.length : Int)) (@Option.bind (List β) (List β) (@loopM (Int × (List β)) (List β) (fun (s : Int × (List β)) => cond (decide (s.1 < (a.length : Int))) (Option.bind (idx a s.1) fun x => Option.bind (toE x) fun y => cond (decide ((0 : Int) ≤ s.1)) (cond (decide (s.1 < (s.2.length : Int))) (cond (decide (s.1.toNat < s.2.length)) (some (Sum.inl (IntKind.i64.wrap (s.1 + (1 : Int)), s.2.set s.1.toNat y))) none) none) none) (some (Sum.inr s.2))) ((0 : Int), List.replicate (a.length : Int).toNat z)) fun (s : List β) => some s) none
theorem toL_eq {bytes : Nat} {z : β} {toE : α → Option β} {g : α → β} {a : List α} (hl : a.length ≤ 1048576) (hb : bytes ≤ 100000) (h : ∀ x ∈ a, toE x = some (g x)) : toL bytes z toE a = some (a.map g) := by
  have hmk : mkOk bytes (a.length : Int) (a.length : Int) = true := by
    simp only [mkOk, Bool.and_eq_true, decide_eq_true_eq]
    refine ⟨trivial, by omega, ?_, by omega⟩
    have : bytes * a.length ≤ 100000 * 1048576 := Nat.mul_le_mul hb hl
    have h2 : ((bytes : Int) * (a.length : Int)) = ((bytes * a.length : Nat) : Int) := by simp
    omega
  unfold toL
  rw [hmk, cond_true]
  have := loopM_to (step := fun (s : Int × (List β)) => cond (decide (s.1 < (a.length : Int))) (Option.bind (idx a s.1) fun x => Option.bind (toE x) fun y => cond (decide ((0 : Int) ≤ s.1)) (cond (decide (s.1 < (s.2.length : Int))) (cond (decide (s.1.toNat < s.2.length)) (some (Sum.inl (IntKind.i64.wrap (s.1 + (1 : Int)), s.2.set s.1.toNat y))) none) none) none) (some (Sum.inr s.2)))
    (st := fun k => ((k : Int), (a.map g).take k ++ List.replicate (a.length - k) z)) (m := a.length) (r := a.map g) (fun k hk => by
      have h1 : decide ((k : Int) < (a.length : Int)) = true := by simpa using hk
      have h2 : IntKind.i64.wrap ((k : Int) + 1) = ((k + 1 : Nat) : Int) := by rw [wrap_in (by omega) (by omega)]; omega
      have h3 : a[k]? = some a[k] := List.getElem?_eq_getElem hk
      have h4 : ((a.map g).take k ++ List.replicate (a.length - k) z).length = a.length := by simp; omega
      have h5 : decide ((0 : Int) ≤ (k : Int)) = true := by simp
      have h6 : decide (k < a.length) = true := by simpa using hk
      have h7 : ((a.map g).take k ++ List.replicate (a.length - k) z).set k (g a[k]) = (a.map g).take (k + 1) ++ List.replicate (a.length - (k + 1)) z := by
        have e1 : ((a.map g).take k).length = k := by simp; omega
        rw [List.set_append_right _ _ (by omega), e1, Nat.sub_self]
        obtain ⟨m, hm⟩ : ∃ m, a.length - k = m + 1 := ⟨a.length - k - 1, by omega⟩
        rw [hm, List.replicate_succ, List.set_cons_zero, show a.length - (k + 1) = m by omega, List.take_add_one]
        simp [hk]
      simp only [h1, cond_true, idx_nat, h3, obind_some, h a[k] (List.getElem_mem hk), h5, h4, Int.toNat_natCast, h6, h2, h7]) (by simp [List.take_of_length_le])
  have h0 : (((0 : Nat) : Int), (a.map g).take 0 ++ List.replicate (a.length - 0) z) = ((0 : Int), List.replicate (a.length : Int).toNat z) := by simp
  rw [h0] at this
  rw [this]
  rfl

/-! ### measured -/
/-- What a law's measure of size says: too big, or so much is left. -/
def SzT (x : Option Int) (left : Int) (n : Nat) : Prop := ∃ r, x = some r ∧ (r < 0 ∨ (0 ≤ r ∧ r + (n : Int) = left))
noncomputable def szL (szE : α → Int → Option Int) (a : List α) (left : Int) : Option Int :=
  cond (decide ((IntKind.i64.wrap (left - (a.length : Int))) < (0 : Int))) (some (-1 : Int)) (@Option.bind (Int ⊕ Int) Int (@loopM (Int × Int) (Int ⊕ Int) (fun (s : Int × Int) => cond (decide (s.2 < (a.length : Int))) (Option.bind (idx a s.2) fun x => Option.bind (szE x s.1) fun y => cond (decide (y < (0 : Int))) (some (Sum.inr (Sum.inr (-1 : Int)))) (some (Sum.inl (y, IntKind.i64.wrap (s.2 + (1 : Int)))))) (some (Sum.inr (Sum.inl s.1)))) (IntKind.i64.wrap (left - (a.length : Int)), (0 : Int))) fun (z : Int ⊕ Int) => Sum.elim (fun (s : Int) => some s) some z)
noncomputable def szF (a : List α) (left : Int) : Option Int := cond (decide ((IntKind.i64.wrap (left - (a.length : Int))) < (0 : Int))) (some (-1 : Int)) (some (IntKind.i64.wrap (left - (a.length : Int))))
theorem sum_zero {f : α → Nat} : ∀ {l : List α}, (∀ x ∈ l, f x = 0) → (l.map f).sum = 0
  | [], _ => rfl
  | x :: l, h => by rw [List.map_cons, List.sum_cons, h x (List.mem_cons_self ..), sum_zero fun y hy => h y (List.mem_cons_of_mem _ hy)]
theorem szF_ok {t : Ty} {a : List (den t)} {left : Int} (hf : flat t = true) (hn : a.length ≤ maxLen) (h0 : 0 ≤ left) (h1 : left ≤ 1048576) : SzT (szF a left) left (tot (.sl t) a) := by
  have ht : tot (.sl t) a = a.length := by simp only [tot]; rw [sum_zero fun x _ => tot_flat hf]; rfl
  rw [ht]
  simp only [maxLen] at hn
  unfold szF
  rw [wrap_in (by omega) (by omega)]
  by_cases h : left - (a.length : Int) < 0
  · rw [decide_eq_true h, cond_true]; exact ⟨_, rfl, .inl (by decide)⟩
  · rw [decide_eq_false h, cond_false]; exact ⟨_, rfl, .inr ⟨by omega, by omega⟩⟩
theorem szL_ok {t : Ty} {szE : den t → Int → Option Int} {a : List (den t)} {left : Int} (hn : a.length ≤ maxLen) (h0 : 0 ≤ left) (h1 : left ≤ 1048576) (hE : ∀ x ∈ a, ∀ k, 0 ≤ k → k ≤ 1048576 → SzT (szE x k) k (tot t x)) : SzT (szL szE a left) left (tot (.sl t) a) := by
  simp only [maxLen] at hn
  unfold szL
  rw [wrap_in (by omega) (by omega)]
  by_cases h : left - (a.length : Int) < 0
  · rw [decide_eq_true h, cond_true]; exact ⟨_, rfl, .inl (by decide)⟩
  · rw [decide_eq_false h, cond_false]
    have key : ∀ (rest pre : List (den t)) (k : Int), pre ++ rest = a → 0 ≤ k → k ≤ left → ∃ z, @loopM (Int × Int) (Int ⊕ Int) (fun (s : Int × Int) => cond (decide (s.2 < (a.length : Int))) (Option.bind (idx a s.2) fun x => Option.bind (szE x s.1) fun y => cond (decide (y < (0 : Int))) (some (Sum.inr (Sum.inr (-1 : Int)))) (some (Sum.inl (y, IntKind.i64.wrap (s.2 + (1 : Int)))))) (some (Sum.inr (Sum.inl s.1)))) (k, (pre.length : Int)) = some z ∧ (z = .inr (-1) ∨ ∃ k', z = .inl k' ∧ 0 ≤ k' ∧ k' + ((rest.map (tot t)).sum : Nat) = k) := by
      intro rest
      induction rest with
      | nil =>
        intro pre k hpre hk0 hk1
        rw [List.append_nil] at hpre
        subst hpre
        exact ⟨.inl k, loopM_done (by simp), .inr ⟨k, rfl, hk0, by simp⟩⟩
      | cons x rest ih =>
        intro pre k hpre hk0 hk1
        have hlt : pre.length < a.length := by rw [← hpre]; simp
        have hx : a[pre.length]? = some x := by rw [← hpre]; simp
        have hmem : x ∈ a := by rw [← hpre]; simp
        obtain ⟨r, hr, hs⟩ := hE x hmem k hk0 (by omega)
        have hd : decide ((pre.length : Int) < (a.length : Int)) = true := by simpa using hlt
        have hw : IntKind.i64.wrap ((pre.length : Int) + 1) = ((pre ++ [x]).length : Int) := by rw [wrap_in (by omega) (by omega)]; simp
        rcases hs with hs | ⟨h1', h2'⟩
        · exact ⟨.inr (-1), loopM_done (by simp only [hd, cond_true, idx_nat, hx, obind_some, hr, decide_eq_true hs]), .inl rfl⟩
        · rw [loopM_next (s' := (r, ((pre ++ [x]).length : Int))) (by simp only [hd, cond_true, idx_nat, hx, obind_some, hr, decide_eq_false (show ¬ r < 0 by omega), cond_false, hw])]
          obtain ⟨z, hz, hc⟩ := ih (pre ++ [x]) r (by simpa using hpre) h1' (by omega)
          refine ⟨z, hz, hc.imp id ?_⟩
          rintro ⟨k', e1, e2, e3⟩
          refine ⟨k', e1, e2, ?_⟩
          simp only [List.map_cons, List.sum_cons]
          omega
    obtain ⟨z, hz, hcase⟩ := key a [] (left - (a.length : Int)) rfl (by omega) (by omega)
    have hz : loopM _ (left - (a.length : Int), (0 : Int)) = some z := hz
    rw [hz]
    rcases hcase with rfl | ⟨k', rfl, h2, h3⟩
    · exact ⟨-1, rfl, .inl (by decide)⟩
    · exact ⟨k', rfl, .inr ⟨h2, by simp only [tot]; omega⟩⟩
/-- A field's measure, ahead of the others'. -/
theorem sz_field {x : Option Int} {left : Int} {n m : Nat} {K : Int → Option Int} (h : SzT x left n) (hl : left ≤ 1048576) (hk : ∀ r, 0 ≤ r → r ≤ 1048576 → SzT (K r) r m) : SzT (Option.bind x fun y => cond (decide (y < (0 : Int))) (some (-1 : Int)) (K y)) left (n + m) := by
  obtain ⟨r, rfl, hr⟩ := h
  rw [obind_some]
  rcases hr with hr | ⟨h1, h2⟩
  · rw [decide_eq_true hr, cond_true]; exact ⟨_, rfl, .inl (by decide)⟩
  · rw [decide_eq_false (by omega), cond_false]
    obtain ⟨q, hq, hs⟩ := hk r h1 (by omega)
    refine ⟨q, hq, ?_⟩
    rcases hs with hs | ⟨h4, h5⟩
    · exact .inl hs
    · exact .inr ⟨h4, by omega⟩
theorem sz_done {left : Int} (h : 0 ≤ left) : SzT (some left) left 0 := ⟨_, rfl, .inr ⟨h, by simp⟩⟩
theorem SzT.eq {x : Option Int} {left : Int} {n m : Nat} (h : SzT x left n) (e : n = m) : SzT x left m := e ▸ h

/-! ### marked and held -/
def markAll (cE : α → Nat) (mE : α → Int → α) : List α → Int → List α
  | [], _ => []
  | x :: xs, k => mE x k :: markAll cE mE xs (k + cE x)
def cntAll (cE : α → Nat) : List α → Nat
  | [] => 0
  | x :: xs => cE x + cntAll cE xs
theorem markAll_len (cE : α → Nat) (mE : α → Int → α) : ∀ (l : List α) (k : Int), (markAll cE mE l k).length = l.length
  | [], _ => rfl
  | x :: xs, k => by simp [markAll, markAll_len cE mE xs]
theorem mark_run {cE : α → Nat} {mE : α → Int → α} {p : α → Prop} {step : Int × Int × List α → Option ((Int × Int × List α) ⊕ (Int × List α))}
    (hm : ∀ (k : Int) (i : Nat) (L : List α) (x : α), L[i]? = some x → i < L.length → L.length ≤ 4611686018427387904 → 0 ≤ k → k + cE x ≤ 4611686018427387904 → p x → step (k, (i : Int), L) = some (.inl (k + cE x, ((i + 1 : Nat) : Int), L.set i (mE x k))))
    (he : ∀ k (L : List α), step (k, (L.length : Int), L) = some (.inr (k, L))) : ∀ (rest pre : List α) (k : Int), (pre ++ rest).length ≤ 4611686018427387904 → (∀ x ∈ rest, p x) → 0 ≤ k → k + cntAll cE rest ≤ 4611686018427387904 →
      loopM step (k, (pre.length : Int), pre ++ rest) = some (k + cntAll cE rest, pre ++ markAll cE mE rest k) := by
  intro rest
  induction rest with
  | nil => intro pre k _ _ _ _; simp only [List.append_nil, cntAll, markAll]; rw [loopM_done (he k pre)]; simp
  | cons x rest ih =>
    intro pre k hN hp hk hB
    simp only [cntAll] at hB
    have hx : (pre ++ x :: rest)[pre.length]? = some x := by simp
    rw [loopM_next (hm k pre.length _ x hx (by simp) hN hk (by omega) (hp x (List.mem_cons_self ..)))]
    have hset : (pre ++ x :: rest).set pre.length (mE x k) = (pre ++ [mE x k]) ++ rest := by simp
    have := ih (pre ++ [mE x k]) (k + cE x) (by simpa using hN) (fun y hy => hp y (List.mem_cons_of_mem _ hy)) (by omega) (by omega)
    rw [hset]
    simp only [List.length_append, List.length_cons, List.length_nil] at this
    rw [this]
    simp only [markAll, cntAll, List.append_assoc, List.singleton_append]
    congr 2
    omega
theorem held_run {cE : α → Nat} {mE : α → Int → α} {p : α → Prop} {step : List α → Int × Int → Option ((Int × Int) ⊕ (Int ⊕ Int))}
    (hm : ∀ (k : Int) (i : Nat) (L : List α) (x : α), L[i]? = some (mE x k) → i < L.length → L.length ≤ 4611686018427387904 → 0 ≤ k → k + cE x ≤ 4611686018427387904 → p x → step L (k, (i : Int)) = some (.inl (k + cE x, ((i + 1 : Nat) : Int))))
    (he : ∀ k (L : List α), step L (k, (L.length : Int)) = some (.inr (.inl k))) : ∀ (rest pre : List α) (k : Int), (pre ++ rest).length ≤ 4611686018427387904 → (∀ x ∈ rest, p x) → 0 ≤ k → k + cntAll cE rest ≤ 4611686018427387904 →
      loopM (step (pre ++ markAll cE mE rest k)) (k, (pre.length : Int)) = some (.inl (k + cntAll cE rest)) := by
  intro rest
  induction rest with
  | nil => intro pre k _ _ _ _; simp only [List.append_nil, cntAll, markAll]; rw [loopM_done (he k pre)]; simp
  | cons x rest ih =>
    intro pre k hN hp hk hB
    simp only [cntAll] at hB
    have hx : (pre ++ markAll cE mE (x :: rest) k)[pre.length]? = some (mE x k) := by simp [markAll]
    have hl : (pre ++ markAll cE mE (x :: rest) k).length = (pre ++ x :: rest).length := by simp [markAll_len]
    rw [loopM_next (hm k pre.length _ x hx (by rw [hl]; simp) (by rw [hl]; exact hN) hk (by omega) (hp x (List.mem_cons_self ..)))]
    have := ih (pre ++ [mE x k]) (k + cE x) (by simpa using hN) (fun y hy => hp y (List.mem_cons_of_mem _ hy)) (by omega) (by omega)
    simp only [List.append_assoc, List.singleton_append, List.length_append, List.length_cons, List.length_nil] at this
    simp only [markAll, cntAll]
    rw [this]
    congr 2
    omega
theorem mark0 {cE : α → Nat} {mE : α → Int → α} (p : α → Prop) {step : Int × Int × List α → Option ((Int × Int × List α) ⊕ (Int × List α))} {l : List α} {k : Int}
    (hm : ∀ (k : Int) (i : Nat) (L : List α) (x : α), L[i]? = some x → i < L.length → L.length ≤ 4611686018427387904 → 0 ≤ k → k + cE x ≤ 4611686018427387904 → p x → step (k, (i : Int), L) = some (.inl (k + cE x, ((i + 1 : Nat) : Int), L.set i (mE x k))))
    (he : ∀ k (L : List α), step (k, (L.length : Int), L) = some (.inr (k, L))) (hN : l.length ≤ 4611686018427387904) (hp : ∀ x ∈ l, p x) (hk : 0 ≤ k) (hB : k + cntAll cE l ≤ 4611686018427387904) : loopM step (k, (0 : Int), l) = some (k + cntAll cE l, markAll cE mE l k) :=
  mark_run hm he l [] k hN hp hk hB
theorem held0 {cE : α → Nat} {mE : α → Int → α} (p : α → Prop) (step : List α → Int × Int → Option ((Int × Int) ⊕ (Int ⊕ Int))) {l : List α} {k : Int}
    (hm : ∀ (k : Int) (i : Nat) (L : List α) (x : α), L[i]? = some (mE x k) → i < L.length → L.length ≤ 4611686018427387904 → 0 ≤ k → k + cE x ≤ 4611686018427387904 → p x → step L (k, (i : Int)) = some (.inl (k + cE x, ((i + 1 : Nat) : Int))))
    (he : ∀ k (L : List α), step L (k, (L.length : Int)) = some (.inr (.inl k))) (hN : l.length ≤ 4611686018427387904) (hp : ∀ x ∈ l, p x) (hk : 0 ≤ k) (hB : k + cntAll cE l ≤ 4611686018427387904) : loopM (step (markAll cE mE l k)) (k, (0 : Int)) = some (.inl (k + cntAll cE l)) :=
  held_run hm he l [] k hN hp hk hB
theorem cntAll_sum (f : α → Nat) : ∀ l : List α, cntAll f l = (l.map f).sum
  | [] => rfl
  | x :: xs => by simp [cntAll, cntAll_sum f xs]
end
/-- Data with marks from k on. -/
def mkT : (t : Ty) → den t → Int → den t
  | .int .i64, _, k => k
  | .int kd, _, k => kd.wrap k
  | .bool, _, k => Int.tmod k 3 == 0
  | .str, x, _ => x
  | .sl t, l, k => markAll (lv t) (mkT t) l k
  | .pair a b, x, k => (mkT a x.1 k, mkT b x.2 (k + (lv a x.1 : Nat)))
theorem mkT_len (t : Ty) (l : List (den t)) (k : Int) : (mkT (.sl t) l k).length = l.length := markAll_len _ _ l k
end Go.V
set_option linter.unusedVariables false
namespace Go.V
open Go.Ab Go.RowKit

section
variable {α R ρ : Type}
/-- The first result. -/
def scanI (g : Nat → α → Option R) : Nat → List α → Option R
  | _, [] => none
  | k, x :: xs => match g k x with
    | some r => some r
    | none => scanI g (k + 1) xs
theorem loop_scan {l : List α} (g : Nat → α → Option R) {step : Int → Option (Int ⊕ (Unit ⊕ R))} (hl : l.length ≤ 4611686018427387904)
    (h : ∀ (k : Nat) (x : α), idx l (k : Int) = some x → decide ((k : Int) < (l.length : Int)) = true → IntKind.i64.wrap ((k : Int) + 1) = ((k + 1 : Nat) : Int) → x ∈ l → k < l.length → step (k : Int) = some (match g k x with
      | some r => .inr (.inr r)
      | none => .inl ((k + 1 : Nat) : Int)))
    (he : step (l.length : Int) = some (.inr (.inl ()))) : loopM step (0 : Int) = some (match scanI g 0 l with
      | some r => .inr r
      | none => .inl ()) := by
  have key : ∀ (rest pre : List α), pre ++ rest = l → loopM step (pre.length : Int) = some (match scanI g pre.length rest with
      | some r => .inr r
      | none => .inl ()) := by
    intro rest
    induction rest with
    | nil => intro pre hp; rw [List.append_nil] at hp; subst hp; exact loopM_done he
    | cons x rest ih =>
      intro pre hp
      have hlt : pre.length < l.length := by rw [← hp]; simp
      have hx : l[pre.length]? = some x := by rw [← hp]; simp
      have hs := h pre.length x (by rw [idx_nat]; exact hx) (by simpa using hlt) (by rw [wrap_in (by omega) (by omega)]; omega) (List.mem_of_getElem? hx) hlt
      simp only [scanI]
      cases hg : g pre.length x with
      | some r => rw [hg] at hs; exact loopM_done hs
      | none =>
        rw [hg] at hs
        rw [loopM_next hs]
        have := ih (pre ++ [x]) (by simpa using hp)
        simpa using this
  exact key l [] rfl
theorem loop_fold {l : List α} (f : ρ → α → ρ) (I : Nat → ρ → Prop) {out : ρ → R} {a0 : ρ} {step : Int × ρ → Option ((Int × ρ) ⊕ R)} (hl : l.length ≤ 4611686018427387904) (h0 : I 0 a0)
    (h : ∀ (k : Nat) (x : α) (a : ρ), idx l (k : Int) = some x → decide ((k : Int) < (l.length : Int)) = true → IntKind.i64.wrap ((k : Int) + 1) = ((k + 1 : Nat) : Int) → x ∈ l → k < l.length → I k a → step ((k : Int), a) = some (.inl (((k + 1 : Nat) : Int), f a x)) ∧ I (k + 1) (f a x))
    (he : ∀ a, step ((l.length : Int), a) = some (.inr (out a))) : loopM step ((0 : Int), a0) = some (out (l.foldl f a0)) ∧ I l.length (l.foldl f a0) := by
  have key : ∀ (rest pre : List α) (a : ρ), pre ++ rest = l → I pre.length a → loopM step ((pre.length : Int), a) = some (out (rest.foldl f a)) ∧ I l.length (rest.foldl f a) := by
    intro rest
    induction rest with
    | nil => intro pre a hp hI; rw [List.append_nil] at hp; subst hp; exact ⟨loopM_done (he a), hI⟩
    | cons x rest ih =>
      intro pre a hp hI
      have hlt : pre.length < l.length := by rw [← hp]; simp
      have hx : l[pre.length]? = some x := by rw [← hp]; simp
      obtain ⟨hs, hI'⟩ := h pre.length x a (by rw [idx_nat]; exact hx) (by simpa using hlt) (by rw [wrap_in (by omega) (by omega)]; omega) (List.mem_of_getElem? hx) hlt hI
      rw [loopM_next hs]
      have := ih (pre ++ [x]) (f a x) (by simpa using hp) (by simpa using hI')
      simpa using this
  exact key l [] a0 rfl h0
theorem loop_fold' {l : List α} (f : ρ → α → ρ) (I : Nat → ρ → Prop) {out : ρ → R} {a0 : ρ} {step : ρ × Int → Option ((ρ × Int) ⊕ R)} (hl : l.length ≤ 4611686018427387904) (h0 : I 0 a0)
    (h : ∀ (k : Nat) (x : α) (a : ρ), idx l (k : Int) = some x → decide ((k : Int) < (l.length : Int)) = true → IntKind.i64.wrap ((k : Int) + 1) = ((k + 1 : Nat) : Int) → x ∈ l → k < l.length → I k a → step (a, (k : Int)) = some (.inl (f a x, ((k + 1 : Nat) : Int))) ∧ I (k + 1) (f a x))
    (he : ∀ a, step (a, (l.length : Int)) = some (.inr (out a))) : loopM step (a0, (0 : Int)) = some (out (l.foldl f a0)) ∧ I l.length (l.foldl f a0) := by
  have key : ∀ (rest pre : List α) (a : ρ), pre ++ rest = l → I pre.length a → loopM step (a, (pre.length : Int)) = some (out (rest.foldl f a)) ∧ I l.length (rest.foldl f a) := by
    intro rest
    induction rest with
    | nil => intro pre a hp hI; rw [List.append_nil] at hp; subst hp; exact ⟨loopM_done (he a), hI⟩
    | cons x rest ih =>
      intro pre a hp hI
      have hlt : pre.length < l.length := by rw [← hp]; simp
      have hx : l[pre.length]? = some x := by rw [← hp]; simp
      obtain ⟨hs, hI'⟩ := h pre.length x a (by rw [idx_nat]; exact hx) (by simpa using hlt) (by rw [wrap_in (by omega) (by omega)]; omega) (List.mem_of_getElem? hx) hlt hI
      rw [loopM_next hs]
      have := ih (pre ++ [x]) (f a x) (by simpa using hp) (by simpa using hI')
      simpa using this
  exact key l [] a0 rfl h0
theorem scanI_congr {g g' : Nat → α → Option R} : ∀ {l : List α} {k : Nat}, (∀ j x, l[j]? = some x → g (k + j) x = g' (k + j) x) → scanI g k l = scanI g' k l
  | [], _, _ => rfl
  | x :: xs, k, h => by
    have h0 := h 0 x rfl
    simp only [Nat.add_zero] at h0
    have ih := scanI_congr (g := g) (g' := g') (l := xs) (k := k + 1) fun j y hy => by
      have h1 := h (j + 1) y (by simpa using hy)
      have h2 : k + 1 + j = k + (j + 1) := by omega
      rw [h2]
      exact h1
    simp only [scanI, h0, ih]
theorem scanI_at {p : α → Bool} : ∀ {l : List α} {k : Nat} {i : Int}, scanI (fun k x => if p x then some (k : Int) else none) k l = some i → ∃ j x, l[j]? = some x ∧ i = ((k + j : Nat) : Int) ∧ p x = true
  | [], _, _, h => by cases h
  | x :: xs, k, i, h => by
    simp only [scanI] at h
    cases hp : p x with
    | true => rw [hp] at h; simp at h; exact ⟨0, x, rfl, by omega, hp⟩
    | false =>
      rw [hp] at h
      simp at h
      obtain ⟨j, y, h1, h2, h3⟩ := scanI_at h
      exact ⟨j + 1, y, by simpa using h1, by omega, h3⟩
theorem cut_take {l : List α} {k : Nat} : cut l (0 : Int) (k : Int) = l.take k := by simp [cut]
theorem foldl_filter (p : α → Bool) : ∀ (l : List α) (a : List α), l.foldl (fun a x => if p x then a ++ [x] else a) a = a ++ l.filter p
  | [], a => by simp
  | x :: xs, a => by
    simp only [List.foldl_cons, List.filter_cons]
    rw [foldl_filter p xs]
    split <;> simp
end
end Go.V
set_option linter.unusedVariables false
namespace Go.V
open Go.Ab Go.RowKit

theorem nil_or_concat {α : Type} (l : List α) : l = [] ∨ ∃ m z, l = m ++ [z] := by
  cases l with
  | nil => exact .inl rfl
  | cons a l => exact .inr ⟨(a :: l).dropLast, (a :: l).getLast (by simp), (List.dropLast_concat_getLast (by simp)).symm⟩
section
variable {α S σ R : Type}
/-- A loop over a list that may end ahead of time. -/
def forL (B : Nat → α → σ → σ ⊕ R) (out : σ → R) : Nat → List α → σ → R
  | _, [], a => out a
  | k, x :: xs, a => match B k x a with
    | .inl a' => forL B out (k + 1) xs a'
    | .inr r => r
theorem loopE (enc : Nat → σ → S) (s0 : S) (a0 : σ) (l : List α) (B : Nat → α → σ → σ ⊕ R) (I : Nat → σ → Prop) (out : σ → R) {step : S → Option (S ⊕ R)} (hs : s0 = enc 0 a0) (hl : l.length ≤ 4611686018427387904) (h0 : I 0 a0)
    (h : ∀ (k : Nat) (x : α) (a : σ), idx l (k : Int) = some x → l[k]? = some x → decide ((k : Int) < (l.length : Int)) = true → IntKind.i64.wrap ((k : Int) + 1) = ((k + 1 : Nat) : Int) → k < l.length → I k a →
      step (enc k a) = some ((B k x a).elim (fun a' => .inl (enc (k + 1) a')) .inr) ∧ ∀ a', B k x a = .inl a' → I (k + 1) a')
    (he : ∀ a, I l.length a → step (enc l.length a) = some (.inr (out a))) : loopM step s0 = some (forL B out 0 l a0) := by
  subst hs
  have key : ∀ (rest pre : List α) (a : σ), pre ++ rest = l → I pre.length a → loopM step (enc pre.length a) = some (forL B out pre.length rest a) := by
    intro rest
    induction rest with
    | nil => intro pre a hp hI; rw [List.append_nil] at hp; subst hp; exact loopM_done (he a hI)
    | cons x rest ih =>
      intro pre a hp hI
      have hlt : pre.length < l.length := by rw [← hp]; simp
      have hx : l[pre.length]? = some x := by rw [← hp]; simp
      obtain ⟨h1, h2⟩ := h pre.length x a (by rw [idx_nat]; exact hx) hx (by simpa using hlt) (by rw [wrap_in (by omega) (by omega)]; omega) hlt hI
      simp only [forL]
      cases hB : B pre.length x a with
      | inl a' =>
        rw [hB] at h1
        rw [loopM_next h1]
        have := ih (pre ++ [x]) a' (by simpa using hp) (by simpa using h2 a' hB)
        simpa using this
      | inr r => rw [hB] at h1; exact loopM_done h1
  exact key l [] a0 rfl h0
/-- A loop over a list to its end. -/
def foldI (f : Nat → α → σ → σ) : Nat → List α → σ → σ
  | _, [], a => a
  | k, x :: xs, a => foldI f (k + 1) xs (f k x a)
/-- A loop with a budget: m grows by no more than each element's cost. -/
theorem loopF (enc : Nat → σ → S) (s0 : S) (a0 : σ) (l : List α) (f : Nat → α → σ → σ) (m : σ → Nat) (cost : α → Nat) (N : Nat) (out : σ → R) {step : S → Option (S ⊕ R)} (hs : s0 = enc 0 a0) (hl : l.length ≤ 4611686018427387904) (hN : m a0 + (l.map cost).sum ≤ N)
    (h : ∀ (k : Nat) (x : α) (a : σ), idx l (k : Int) = some x → l[k]? = some x → decide ((k : Int) < (l.length : Int)) = true → IntKind.i64.wrap ((k : Int) + 1) = ((k + 1 : Nat) : Int) → k < l.length → m a + cost x ≤ N →
      step (enc k a) = some (.inl (enc (k + 1) (f k x a))) ∧ m (f k x a) ≤ m a + cost x)
    (he : ∀ a, step (enc l.length a) = some (.inr (out a))) : loopM step s0 = some (out (foldI f 0 l a0)) ∧ m (foldI f 0 l a0) ≤ m a0 + (l.map cost).sum := by
  subst hs
  have key : ∀ (rest pre : List α) (a : σ), pre ++ rest = l → m a + (rest.map cost).sum ≤ N → loopM step (enc pre.length a) = some (out (foldI f pre.length rest a)) ∧ m (foldI f pre.length rest a) ≤ m a + (rest.map cost).sum := by
    intro rest
    induction rest with
    | nil => intro pre a hp hI; rw [List.append_nil] at hp; subst hp; exact ⟨loopM_done (he a), by simp [foldI]⟩
    | cons x rest ih =>
      intro pre a hp hI
      have hlt : pre.length < l.length := by rw [← hp]; simp
      have hx : l[pre.length]? = some x := by rw [← hp]; simp
      simp only [List.map_cons, List.sum_cons] at hI ⊢
      obtain ⟨h1, h2⟩ := h pre.length x a (by rw [idx_nat]; exact hx) hx (by simpa using hlt) (by rw [wrap_in (by omega) (by omega)]; omega) hlt (by omega)
      simp only [foldI]
      rw [loopM_next h1]
      have := ih (pre ++ [x]) (f pre.length x a) (by simpa using hp) (by omega)
      simp only [List.length_append, List.length_cons, List.length_nil, Nat.zero_add] at this
      exact ⟨this.1, by omega⟩
  exact key l [] a0 rfl hN
/-- The same, the growth shown apart. -/
theorem loopG (enc : Nat → σ → S) (s0 : S) (a0 : σ) (l : List α) (f : Nat → α → σ → σ) (m : σ → Nat) (cost : α → Nat) (N : Nat) (out : σ → R) {step : S → Option (S ⊕ R)} (hs : s0 = enc 0 a0) (hl : l.length ≤ 4611686018427387904) (hN : m a0 + (l.map cost).sum ≤ N) (hm : ∀ k x a, m (f k x a) ≤ m a + cost x)
    (h : ∀ (k : Nat) (x : α) (a : σ), idx l (k : Int) = some x → l[k]? = some x → decide ((k : Int) < (l.length : Int)) = true → IntKind.i64.wrap ((k : Int) + 1) = ((k + 1 : Nat) : Int) → k < l.length → m a + cost x ≤ N →
      step (enc k a) = some (.inl (enc (k + 1) (f k x a))))
    (he : ∀ a, step (enc l.length a) = some (.inr (out a))) : loopM step s0 = some (out (foldI f 0 l a0)) :=
  (loopF enc s0 a0 l f m cost N out hs hl hN (fun k x a h1 h2 h3 h4 h5 h6 => ⟨h k x a h1 h2 h3 h4 h5 h6, hm k x a⟩) he).1
theorem foldI_m {f : Nat → α → σ → σ} {m : σ → Nat} {cost : α → Nat} (hm : ∀ k x a, m (f k x a) ≤ m a + cost x) : ∀ (l : List α) (k : Nat) (a : σ), m (foldI f k l a) ≤ m a + (l.map cost).sum
  | [], _, _ => by simp [foldI]
  | x :: xs, k, a => by
    have h1 := hm k x a
    have h2 := foldI_m hm xs (k + 1) (f k x a)
    simp only [foldI, List.map_cons, List.sum_cons]
    omega
/-- A loop over a list from its end. -/
theorem loopR (enc : Int → σ → S) (s0 : S) (a0 : σ) (l : List α) (f : α → σ → σ) (m : σ → Nat) (cost : α → Nat) (N : Nat) (out : σ → R) {step : S → Option (S ⊕ R)} (hs : s0 = enc ((l.length : Int) - 1) a0) (hl : l.length ≤ 4611686018427387904) (hN : m a0 + (l.map cost).sum ≤ N) (hm : ∀ x a, m (f x a) ≤ m a + cost x)
    (h : ∀ (k : Nat) (x : α) (a : σ), idx l (k : Int) = some x → l[k]? = some x → decide ((k : Int) ≥ (0 : Int)) = true → IntKind.i64.wrap ((k : Int) - 1) = (k : Int) - 1 → k < l.length → m a + cost x ≤ N → step (enc (k : Int) a) = some (.inl (enc ((k : Int) - 1) (f x a))))
    (he : ∀ a, step (enc (-1) a) = some (.inr (out a))) : loopM step s0 = some (out (l.foldr f a0)) := by
  subst hs
  have key : ∀ (n : Nat) (pre post : List α) (a : σ), pre ++ post = l → pre.length = n → m a + (pre.map cost).sum ≤ N → loopM step (enc ((pre.length : Int) - 1) a) = some (out (pre.foldr f a)) := by
    intro n
    induction n with
    | zero =>
      intro pre post a hp hn hI
      have : pre = [] := List.length_eq_zero_iff.1 hn
      subst this
      exact loopM_done (he a)
    | succ n ih =>
      intro pre post a hp hn hI
      rcases nil_or_concat pre with rfl | ⟨q, x, rfl⟩
      · simp at hn
      · have hq : q.length = n := by simpa using hn
        have hx : l[q.length]? = some x := by rw [← hp]; simp
        have hlt : q.length < l.length := (List.getElem?_eq_some_iff.1 hx).1
        rw [List.map_append, List.sum_append] at hI
        simp only [List.map_cons, List.map_nil, List.sum_cons, List.sum_nil, Nat.add_zero] at hI
        have h1 := h q.length x a (by rw [idx_nat]; exact hx) hx (by simp) (wrap_in (by omega) (by omega)) hlt (by omega)
        have h2 := hm x a
        have e1 : (((q ++ [x]).length : Nat) : Int) - 1 = (q.length : Int) := by simp
        rw [e1, loopM_next h1, ih q ([x] ++ post) (f x a) (by simpa using hp) hq (by omega)]
        rw [List.foldr_append]
        rfl
  have := key l.length l [] a0 (List.append_nil l) rfl hN
  exact this
theorem foldr_m {f : α → σ → σ} {m : σ → Nat} {cost : α → Nat} (hm : ∀ x a, m (f x a) ≤ m a + cost x) : ∀ (l : List α) (a : σ), m (l.foldr f a) ≤ m a + (l.map cost).sum
  | [], _ => by simp
  | x :: xs, a => by
    have h2 := foldr_m hm xs a
    have h1 := hm x (xs.foldr f a)
    simp only [List.foldr_cons, List.map_cons, List.sum_cons]
    omega
theorem foldr_map {β : Type} (g : α → β) : ∀ (l : List α) (a : List β), l.foldr (fun x a => a ++ [g x]) a = a ++ (l.reverse.map g)
  | [], a => by simp
  | x :: xs, a => by simp [foldr_map g xs]
theorem set_last {α : Type} (m : List α) (z y : α) : (m ++ [z]).set m.length y = m ++ [y] := by simp
theorem lt_last {α : Type} (m : List α) (z : α) : decide ((m.length : Int) < ((m ++ [z]).length : Int)) = true := by
  rw [List.length_append, List.length_singleton]; simp; omega
theorem get_last {α : Type} (m : List α) (z : α) : (m ++ [z])[m.length]? = some z := by simp
theorem pos_nat (n : Nat) : decide ((0 : Int) ≤ (n : Int)) = true := by simp
theorem pos_nat' (n : Nat) : decide ((n : Int) ≥ (0 : Int)) = true := by simp
theorem foldI_foldl (g : σ → α → σ) : ∀ (l : List α) (k : Nat) (a : σ), foldI (fun _ x a => g a x) k l a = l.foldl g a
  | [], _, _ => rfl
  | x :: xs, k, a => foldI_foldl g xs (k + 1) (g a x)
theorem foldI_map {β : Type} (g : α → β) : ∀ (l : List α) (k : Nat) (a : List β), foldI (fun _ x a => a ++ [g x]) k l a = a ++ l.map g
  | [], _, a => by simp [foldI]
  | x :: xs, k, a => by simp [foldI, foldI_map g xs]
theorem foldI_filter (p : α → Bool) : ∀ (l : List α) (k : Nat) (a : List α), foldI (fun _ x a => if p x then a ++ [x] else a) k l a = a ++ l.filter p
  | [], _, a => by simp [foldI]
  | x :: xs, k, a => by
    simp only [foldI, List.filter_cons]
    rw [foldI_filter p xs]
    split <;> simp
theorem foldI_congr {f g : Nat → α → σ → σ} : ∀ {l : List α} {k : Nat} {a : σ}, (∀ j x a, l[j]? = some x → f (k + j) x a = g (k + j) x a) → foldI f k l a = foldI g k l a
  | [], _, _, _ => rfl
  | x :: xs, k, a, h => by
    have h0 := h 0 x a rfl
    simp only [Nat.add_zero] at h0
    simp only [foldI, h0]
    exact foldI_congr fun j y b hy => by
      have h1 := h (j + 1) y b (by simpa using hy)
      rw [show k + 1 + j = k + (j + 1) by omega]
      exact h1
end

/-- A copy of a slice, element by element. -/
theorem toL_run {α : Type} {bytes : Nat} {z : α} {a : List α} {step : Int × List α → Option ((Int × List α) ⊕ List α)} (hl : a.length ≤ 1048576) (hb : bytes ≤ 100000)
    (h : ∀ (k : Nat) (L : List α) (x : α), idx a (k : Int) = some x → x ∈ a → decide ((k : Int) < (a.length : Int)) = true → decide ((0 : Int) ≤ (k : Int)) = true → decide ((k : Int) < (L.length : Int)) = true → decide (k < L.length) = true → IntKind.i64.wrap ((k : Int) + 1) = ((k + 1 : Nat) : Int) → step ((k : Int), L) = some (.inl (((k + 1 : Nat) : Int), L.set k x)))
    (he : ∀ L, step ((a.length : Int), L) = some (.inr L)) : cond (mkOk bytes (a.length : Int) (a.length : Int)) (@Option.bind (List α) (List α) (@loopM (Int × List α) (List α) step ((0 : Int), List.replicate (a.length : Int).toNat z)) fun s => some s) none = some a := by
  have hmk : mkOk bytes (a.length : Int) (a.length : Int) = true := by
    simp only [mkOk, Bool.and_eq_true, decide_eq_true_eq]
    refine ⟨trivial, by omega, ?_, by omega⟩
    have : bytes * a.length ≤ 100000 * 1048576 := Nat.mul_le_mul hb hl
    have h2 : ((bytes : Int) * (a.length : Int)) = ((bytes * a.length : Nat) : Int) := by simp
    omega
  rw [hmk, cond_true]
  have := loopM_to (step := step) (st := fun k => ((k : Int), a.take k ++ List.replicate (a.length - k) z)) (m := a.length) (r := a) (fun k hk => by
      have h3 : a[k]? = some a[k] := List.getElem?_eq_getElem hk
      have h4 : (a.take k ++ List.replicate (a.length - k) z).length = a.length := by simp; omega
      have h7 : (a.take k ++ List.replicate (a.length - k) z).set k a[k] = a.take (k + 1) ++ List.replicate (a.length - (k + 1)) z := by
        have e1 : (a.take k).length = k := by simp; omega
        rw [List.set_append_right _ _ (by omega), e1, Nat.sub_self]
        obtain ⟨m, hm⟩ : ∃ m, a.length - k = m + 1 := ⟨a.length - k - 1, by omega⟩
        have e2 : a.take (k + 1) = a.take k ++ [a[k]] := by rw [List.take_add_one, h3]; rfl
        rw [hm, List.replicate_succ, List.set_cons_zero, show a.length - (k + 1) = m by omega, e2, List.append_assoc]
        rfl
      rw [← h7]
      exact h k _ a[k] (by rw [idx_nat]; exact h3) (List.getElem_mem hk) (by simpa using hk) (by simp) (by rw [h4]; simpa using hk) (by rw [h4]; simpa using hk) (by rw [wrap_in (by omega) (by omega)]; omega)) (by simpa [List.take_of_length_le] using he a)
  have h0 : (((0 : Nat) : Int), a.take 0 ++ List.replicate (a.length - 0) z) = ((0 : Int), List.replicate (a.length : Int).toNat z) := by simp
  rw [h0] at this
  rw [this]
  rfl

theorem toL_run' {α : Type} {bytes : Nat} {z : α} {a : List α} {step : Int × List α → Option ((Int × List α) ⊕ List α)} (hl : a.length ≤ 1048576) (hb : bytes ≤ 100000)
    (h : ∀ (k : Nat) (L : List α) (x : α), idx a (k : Int) = some x → x ∈ a → decide ((k : Int) < (a.length : Int)) = true → decide ((0 : Int) ≤ (k : Int)) = true → decide ((k : Int) < (L.length : Int)) = true → decide (k < L.length) = true → IntKind.i64.wrap ((k : Int) + 1) = ((k + 1 : Nat) : Int) → step ((k : Int), L) = some (.inl (((k + 1 : Nat) : Int), L.set k x)))
    (he : ∀ L, step ((a.length : Int), L) = some (.inr L)) : @Option.bind (List α) (List α) (cond (mkOk bytes (a.length : Int) (a.length : Int)) (some (List.replicate (a.length : Int).toNat z)) none) (fun s1 => @Option.bind (List α) (List α) (@loopM (Int × List α) (List α) step ((0 : Int), s1)) fun s => some s) = some a := by
  have key := toL_run (z := z) hl hb h he
  cases hm : mkOk bytes (a.length : Int) (a.length : Int) with
  | false => rw [hm] at key; cases key
  | true => rw [hm] at key; exact key

/-! ### sizes -/
theorem apOk_le {b n m : Nat} (hb : b ≤ 2000) (h : n + m ≤ 68719476736) : apOk b n m = true := by
  simp only [apOk, decide_eq_true_eq]
  calc (n + m) * (b + 1) ≤ 68719476736 * 2001 := Nat.mul_le_mul h (by omega)
    _ ≤ 140737488355328 := by decide
theorem tot_mem {t : Ty} {l : List (den t)} {x : den t} (h : x ∈ l) : 1 + tot t x ≤ tot (.sl t) l := by
  have h1 := sum_mem (f := tot t) h
  have h2 := List.length_pos_of_mem h
  simp only [tot]; omega
theorem tot_get {t : Ty} {l : List (den t)} {x : den t} {k : Nat} (h : l[k]? = some x) : 1 + tot t x ≤ tot (.sl t) l := tot_mem (List.mem_of_getElem? h)
theorem tot_len {t : Ty} (l : List (den t)) : l.length ≤ tot (.sl t) l := Nat.le_add_right _ _
theorem tot_app {t : Ty} (l m : List (den t)) : tot (.sl t) (l ++ m) = tot (.sl t) l + tot (.sl t) m := by
  simp only [tot, List.length_append, List.map_append, List.sum_append]; omega
theorem tot_cons {t : Ty} (x : den t) (l : List (den t)) : tot (.sl t) (x :: l) = 1 + tot t x + tot (.sl t) l := by
  simp only [tot, List.length_cons, List.map_cons, List.sum_cons]; omega
theorem tot_one {t : Ty} (x : den t) : tot (.sl t) [x] = 1 + tot t x := by simp [tot]
theorem tot_nil {t : Ty} : tot (.sl t) ([] : List (den t)) = 0 := rfl
theorem tot_sum {t : Ty} (l : List (den t)) : (l.map fun x => 1 + tot t x).sum = tot (.sl t) l := by
  induction l with
  | nil => rfl
  | cons x l ih => rw [tot_cons, List.map_cons, List.sum_cons, ih]
theorem sum_one {α : Type} (l : List α) : (l.map fun _ => 1).sum = l.length := by
  induction l with
  | nil => rfl
  | cons x l ih => rw [List.map_cons, List.sum_cons, ih, List.length_cons]; omega
theorem sum_nil {α : Type} (l : List α) : (l.map fun _ => 0).sum = 0 := by
  induction l with
  | nil => rfl
  | cons x l ih => rw [List.map_cons, List.sum_cons, ih]
theorem tot_take {t : Ty} (l : List (den t)) (n : Nat) : tot (.sl t) (l.take n) ≤ tot (.sl t) l := by
  have h := tot_app (t := t) (l.take n) (l.drop n)
  rw [List.take_append_drop] at h
  omega
theorem tot_drop {t : Ty} (l : List (den t)) (n : Nat) : tot (.sl t) (l.drop n) ≤ tot (.sl t) l := by
  have h := tot_app (t := t) (l.take n) (l.drop n)
  rw [List.take_append_drop] at h
  omega
theorem tot_filter {t : Ty} (p : den t → Bool) : ∀ l : List (den t), tot (.sl t) (l.filter p) ≤ tot (.sl t) l
  | [] => Nat.le_refl _
  | x :: l => by
    rw [List.filter_cons, tot_cons]
    have := tot_filter p l
    split
    · rw [tot_cons]; omega
    · omega
theorem tot_rev {t : Ty} : ∀ l : List (den t), tot (.sl t) l.reverse = tot (.sl t) l
  | [] => rfl
  | x :: l => by rw [List.reverse_cons, tot_app, tot_one, tot_cons, tot_rev l]; omega
theorem get_take {α : Type} {l : List α} {n k : Nat} {x : α} (h : (l.take n)[k]? = some x) : l[k]? = some x ∧ k < n := by
  rw [List.getElem?_take] at h
  by_cases hk : k < n
  · rw [if_pos hk] at h; exact ⟨h, hk⟩
  · rw [if_neg hk] at h; cases h
theorem get_some {α : Type} {l : List α} {i : Int} (h0 : 0 ≤ i) (h : i ≤ (l.length : Int) - 1) : ∃ x, l[i.toNat]? = some x := ⟨l[i.toNat]'(by omega), List.getElem?_eq_getElem (by omega)⟩
theorem take_succ {α : Type} {l : List α} {i : Nat} {x : α} (h : l[i]? = some x) : l.take (i + 1) = l.take i ++ [x] := by rw [List.take_add_one, h]; rfl
theorem cut_drop {α : Type} {l : List α} {k : Nat} (h : k ≤ l.length) : cut l (k : Int) (l.length : Int) = l.drop k := by
  simp only [cut, Int.toNat_natCast]
  exact List.take_of_length_le (by simp)
theorem slOk_nat {a b n : Nat} : slOk (a : Int) (b : Int) (n : Int) = (decide (a ≤ b) && decide (b ≤ n)) := by
  simp [slOk]
theorem idx_neg {α : Type} {l : List α} {i : Int} (h : ¬ (0 ≤ i)) : idx l i = none := by simp [idx, h]
theorem idx_of {α : Type} {l : List α} {i : Int} {x : α} (h0 : 0 ≤ i) (h : l[i.toNat]? = some x) : idx l i = some x := by simp [idx, h0, h]
theorem idx_lt {α : Type} {l : List α} {i : Int} (h0 : 0 ≤ i) (h : i < (l.length : Int)) : idx l i = some (l[i.toNat]'(by omega)) := by
  simp [idx, h0]
theorem peta {α β : Type} (p : α × β) : (p.1, p.2) = p := rfl
theorem wrap_nat {n : Nat} (h : n ≤ 4611686018427387904) : IntKind.i64.wrap (n : Int) = (n : Int) := wrap_in (by omega) (by omega)
theorem map_id_of {α : Type} {f : α → α} {l : List α} (h : ∀ x ∈ l, f x = x) : l.map f = l := by
  induction l with
  | nil => rfl
  | cons x l ih => rw [List.map_cons, h x (List.mem_cons_self ..), ih fun y hy => h y (List.mem_cons_of_mem _ hy)]
end Go.V
