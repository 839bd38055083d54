/-
  Data that memory can hold (Wf), data of at most 2^20 elements a slice (Sm), and the first from a reading. Over any program. Conditions: none.
-/
import Derived.Test.YtdmiboplfgmgiaaAbN
namespace Go.Ab
open Go.RowKit

inductive T.Wf : T → Prop
  | lit {v : Value} (h : plain v = true) : T.Wf (.lit v)
  | sl {es : List (List T)} (hl : es.length ≤ maxLen) (h : ∀ e ∈ es, ∀ t ∈ e, T.Wf t) : T.Wf (.sl es)
def WfL (ts : List T) : Prop := ∀ t ∈ ts, T.Wf t
inductive T.Sm : T → Prop
  | lit {v : Value} : T.Sm (.lit v)
  | sl {es : List (List T)} (hl : es.length ≤ 1048576) (h : ∀ e ∈ es, ∀ t ∈ e, T.Sm t) : T.Sm (.sl es)
def SmL (ts : List T) : Prop := ∀ t ∈ ts, T.Sm t

theorem Rep.wf {w : World} {v : Value} {t : T} {F : List Nat} (h : Rep w v t F) : T.Wf t :=
  Rep.rec (motive_1 := fun _ t _ _ => T.Wf t) (motive_2 := fun _ ts _ _ => WfL ts) (fun h => .lit h) (fun _ => .sl (Nat.zero_le _) (by simp))
    (fun {b off n c k es xs F} hn h0 hk0 hk hc hm hx hcell hr ih => .sl (by omega) fun e he t ht => ih t (List.mem_flatten.2 ⟨e, he, ht⟩))
    (by intro t ht; cases ht) (fun _ _ ih1 ih2 t ht => (List.mem_cons.1 ht).elim (fun e => e ▸ ih1) (ih2 t)) h
theorem RepL.wf {w : World} {vs : List Value} {ts : List T} {F : List Nat} (h : RepL w vs ts F) : WfL ts :=
  RepL.rec (motive_1 := fun _ t _ _ => T.Wf t) (motive_2 := fun _ ts _ _ => WfL ts) (fun h => .lit h) (fun _ => .sl (Nat.zero_le _) (by simp))
    (fun {b off n c k es xs F} hn h0 hk0 hk hc hm hx hcell hr ih => .sl (by omega) fun e he t ht => ih t (List.mem_flatten.2 ⟨e, he, ht⟩))
    (by intro t ht; cases ht) (fun _ _ ih1 ih2 t ht => (List.mem_cons.1 ht).elim (fun e => e ▸ ih1) (ih2 t)) h
theorem RepV.wf_one {w : World} {v : Value} {t : T} {F : List Nat} (h : RepV w v (.one t) F) : T.Wf t := Rep.wf h
theorem RepV.wf_agg {w : World} {v : Value} {ts : List T} {F : List Nat} (h : RepV w v (.agg ts) F) : WfL ts := by
  obtain ⟨vs, _, hr⟩ := h; exact hr.wf

section
variable {α : Type} {en : α → List T} {l : List α}
theorem T.Wf.len (h : T.Wf (.sl (l.map en))) : l.length ≤ maxLen := by cases h with | sl hl _ => simpa using hl
theorem T.Wf.el (h : T.Wf (.sl (l.map en))) {x : α} (hx : x ∈ l) : WfL (en x) := by cases h with | sl _ h => exact h _ (List.mem_map_of_mem hx)
theorem T.Wf.mk (hl : l.length ≤ maxLen) (h : ∀ x ∈ l, WfL (en x)) : T.Wf (.sl (l.map en)) := .sl (by simpa using hl) fun e he => by obtain ⟨x, hx, rfl⟩ := List.mem_map.1 he; exact h x hx
theorem T.Wf.tail {x : α} (h : T.Wf (.sl ((x :: l).map en))) : T.Wf (.sl (l.map en)) := .mk (by have := h.len; simp at this; omega) fun _ hy => h.el (List.mem_cons_of_mem _ hy)
theorem T.Sm.len (h : T.Sm (.sl (l.map en))) : l.length ≤ 1048576 := by cases h with | sl hl _ => simpa using hl
theorem T.Sm.el (h : T.Sm (.sl (l.map en))) {x : α} (hx : x ∈ l) : SmL (en x) := by cases h with | sl _ h => exact h _ (List.mem_map_of_mem hx)
theorem T.Sm.mk (hl : l.length ≤ 1048576) (h : ∀ x ∈ l, SmL (en x)) : T.Sm (.sl (l.map en)) := .sl (by simpa using hl) fun e he => by obtain ⟨x, hx, rfl⟩ := List.mem_map.1 he; exact h x hx
theorem T.Wf.int {n : Int} (h : T.Wf (I n)) : -9223372036854775808 ≤ n ∧ n ≤ 9223372036854775807 := by
  cases h with | lit h => simpa [plain, IntKind.min, IntKind.max, IntKind.signed, IntKind.bits] using h
theorem T.Wf.byte {n : Int} (h : T.Wf (U n)) : 0 ≤ n ∧ n ≤ 255 := by
  cases h with | lit h => simpa [plain, IntKind.min, IntKind.max, IntKind.signed, IntKind.bits] using h
end

/-- What a law's measure of size says: too big, or small, and so much is left. -/
def SzOk (r left : Int) (p : Prop) : Prop := r < 0 ∨ (p ∧ 0 ≤ r ∧ r ≤ left)
theorem SzOk.get {r left : Int} {p : Prop} (h : SzOk r left p) (hr : ¬ r < 0) : p ∧ 0 ≤ r ∧ r ≤ left := h.resolve_left hr
theorem SzOk.sm {r left : Int} {p : Prop} (h : SzOk r left p) (hr : decide (r < 0) = false) : p := (h.get (by simpa using hr)).1
/-- The length taken off. -/
theorem sz_len {n : Nat} {left : Int} (hn : n ≤ maxLen) (h0 : 0 ≤ left) (h1 : left ≤ 1048576) : wr (left - (n : Int)) = left - n := by
  simp only [maxLen] at hn
  exact wrap_in (by omega)
theorem sz_flat {n : Nat} {left : Int} {p : Prop} (hn : n ≤ maxLen) (h0 : 0 ≤ left) (h1 : left ≤ 1048576) (hp : n ≤ 1048576 → p) : SzOk (cond (decide (wr (left - (n : Int)) < 0)) (-1) (wr (left - (n : Int)))) left p := by
  rw [sz_len hn h0 h1]
  by_cases h : left - (n : Int) < 0
  · rw [decide_eq_true h, cond_true]; exact .inl (by decide)
  · rw [decide_eq_false h]; exact .inr ⟨hp (by omega), by simp; omega, by simp; omega⟩
/-- A field's measure, ahead of the others'. -/
theorem sz_field {r left : Int} {p q : Prop} {k : Int} (h : SzOk r left p) (hk : p → 0 ≤ r → r ≤ left → SzOk k r q) : SzOk (cond (decide (r < 0)) (-1) k) left (p ∧ q) := by
  by_cases hr : r < 0
  · rw [decide_eq_true hr, cond_true]; exact .inl (by decide)
  · rw [decide_eq_false hr]
    obtain ⟨h1, h2, h3⟩ := h.get hr
    rcases hk h1 h2 h3 with h4 | ⟨h4, h5, h6⟩
    · exact .inl h4
    · exact .inr ⟨⟨h1, h4⟩, h5, by simp; omega⟩
theorem sz_done {r : Int} (h : 0 ≤ r) : SzOk r r True := .inr ⟨trivial, h, Int.le_refl _⟩
theorem SzOk.imp {r left : Int} {p q : Prop} (h : SzOk r left p) (hpq : p → q) : SzOk r left q := Or.imp id (fun ⟨a, b⟩ => ⟨hpq a, b⟩) h
end Go.Ab
