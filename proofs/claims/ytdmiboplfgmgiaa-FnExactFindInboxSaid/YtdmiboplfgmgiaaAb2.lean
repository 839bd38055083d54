/-
  Abstract frames (slots, local boxes, local rows) and when a frame and a world are as the abstract one says. Over any program. Conditions: none.
-/
import Derived.Test.YtdmiboplfgmgiaaAb1
namespace Go.Ab
open Go.RowKit

inductive All2 {α β : Type} (R : α → β → Prop) : List α → List β → Prop
  | nil : All2 R [] []
  | cons {a : α} {b : β} {as : List α} {bs : List β} (h : R a b) (hs : All2 R as bs) : All2 R (a :: as) (b :: bs)

section
variable {α β : Type} {R R' : α → β → Prop}
theorem All2.length {as : List α} {bs : List β} (h : All2 R as bs) : as.length = bs.length := by
  induction h with
  | nil => rfl
  | cons _ _ ih => simp [ih]
theorem All2.mono {as : List α} {bs : List β} (h : All2 R as bs) (hr : ∀ a b, b ∈ bs → R a b → R' a b) : All2 R' as bs := by
  induction h with
  | nil => exact .nil
  | cons h hs ih => exact .cons (hr _ _ (List.mem_cons_self ..) h) (ih fun a b hb => hr a b (List.mem_cons_of_mem _ hb))
theorem All2.get {as : List α} {bs : List β} (h : All2 R as bs) : ∀ {j : Nat} {b : β}, bs[j]? = some b → ∃ a, as[j]? = some a ∧ R a b := by
  induction h with
  | nil => intro j b hb; simp at hb
  | cons h hs ih =>
    intro j b hb
    cases j with
    | zero => simp at hb; subst hb; exact ⟨_, rfl, h⟩
    | succ j => obtain ⟨a, ha, hr⟩ := ih (j := j) (b := b) (by simpa using hb); exact ⟨a, by simpa using ha, hr⟩
theorem All2.take {as : List α} {bs : List β} (h : All2 R as bs) : ∀ n, All2 R (as.take n) (bs.take n) := by
  induction h with
  | nil => intro n; simpa using .nil
  | cons h hs ih =>
    intro n
    cases n with
    | zero => exact .nil
    | succ n => exact .cons h (ih n)
theorem All2.drop {as : List α} {bs : List β} (h : All2 R as bs) : ∀ n, All2 R (as.drop n) (bs.drop n) := by
  induction h with
  | nil => intro n; simpa using .nil
  | cons h hs ih =>
    intro n
    cases n with
    | zero => exact .cons h hs
    | succ n => exact ih n
theorem All2.set {as : List α} {bs : List β} (h : All2 R as bs) {a : α} {b : β} (hr : R a b) : ∀ n, All2 R (as.set n a) (bs.set n b) := by
  induction h with
  | nil => intro n; simpa using .nil
  | cons h hs ih =>
    intro n
    cases n with
    | zero => exact .cons hr hs
    | succ n => exact .cons h (ih n)
theorem All2.append {as as' : List α} {bs bs' : List β} (h : All2 R as bs) (h' : All2 R as' bs') : All2 R (as ++ as') (bs ++ bs') := by
  induction h with
  | nil => exact h'
  | cons h hs ih => exact .cons h ih
end

/-- A value: one cell, or a struct's cells. -/
inductive AV where
  | one (t : T)
  | agg (ts : List T)
  deriving Inhabited
/-- What a slot holds. -/
inductive Slot where
  | val (x : AV)
  | tup (xs : List AV)
  deriving Inhabited
/-- A local object: a box (a variable in memory), or a row that the call has made (element type e, k cells an element; deep: its elements' memory is its own). -/
inductive LO where
  | box (cs : List T)
  | row (e k : Nat) (es : List (List T)) (deep : Bool)
  deriving Inhabited
/-- Is a guarded slot filled? -/
def on : Option Bool → Bool
  | none => true
  | some b => b
structure St where
  fr : List (Nat × Option Bool × Slot)
  ob : List (Nat × LO)
structure Cx where
  loc : Nat → Nat
  rv : Nat → Value

def RelT (c : Cx) (w : World) (ok : Nat → Prop) (v : Value) : T → Prop
  | .lit u => v = u ∧ plain u = true
  | .sl es => ∃ F, Rep w v (.sl es) F ∧ ∀ b ∈ F, ok b
  | .nil => v = .slice none 0 0
  | .row r => v = c.rv r
  | .ptr o off => v = .pointer (some ⟨c.loc o, off, none⟩)
  | .ep e off => ∃ b base, v = .pointer (some ⟨b, base + off, none⟩) ∧ ok b ∧ b < w.heap.size ∧ ∃ xs F, RepL w xs e F ∧ (∀ j u, xs[j]? = some u → w.cell? ⟨b, base + j, none⟩ = some u) ∧ ∀ b ∈ F, ok b
  | .rp r k i off => ∃ g n cap, c.rv r = .slice (some ⟨g, 0, none⟩) n cap ∧ v = .pointer (some ⟨g, i * k + off, none⟩)
  | .any => True

def RelV (c : Cx) (w : World) (ok : Nat → Prop) (v : Value) : AV → Prop
  | .one t => RelT c w ok v t
  | .agg ts => ∃ vs : List Value, v = .agg vs.toArray ∧ All2 (RelT c w ok) vs ts

def RelS (c : Cx) (w : World) (ok : Nat → Prop) (v : Value) : Slot → Prop
  | .val x => RelV c w ok v x
  | .tup xs => ∃ vs : List Value, v = .tuple vs.toArray ∧ All2 (RelV c w ok) vs xs

/-- What stays when the world turns: blocks that are let stay as they are, none is let anew that was there. -/
structure Keeps (w w' : World) (ok ok' : Nat → Prop) : Prop where
  size : w.heap.size ≤ w'.heap.size
  block : ∀ b, b < w.heap.size → ok b → w'.heap[b]? = w.heap[b]?
  good : ∀ b, b < w.heap.size → ok b → ok' b

theorem RelT.keep {c : Cx} {w w' : World} {ok ok' : Nat → Prop} {v : Value} {t : T} (h : RelT c w ok v t) (k : Keeps w w' ok ok') : RelT c w' ok' v t := by
  cases t with
  | sl es =>
    obtain ⟨F, hr, hF⟩ := h
    exact ⟨F, hr.frame fun b hb => k.block b (hr.lt b hb) (hF b hb), fun b hb => k.good b (hr.lt b hb) (hF b hb)⟩
  | ep e off =>
    obtain ⟨b, base, hv, hb, hlt, xs, F, hr, hc, hF⟩ := h
    exact ⟨b, base, hv, k.good b hlt hb, Nat.lt_of_lt_of_le hlt k.size, xs, F, hr.frame fun b hb => k.block b (hr.lt b hb) (hF b hb),
      fun j u hu => (World.cell?_of_block (k.block b hlt hb)).trans (hc j u hu), fun b hb => k.good b (hr.lt b hb) (hF b hb)⟩
  | lit _ => exact h
  | nil => exact h
  | row _ => exact h
  | ptr _ _ => exact h
  | rp _ _ _ _ => exact h
  | any => exact h
theorem RelV.keep {c : Cx} {w w' : World} {ok ok' : Nat → Prop} {v : Value} {x : AV} (h : RelV c w ok v x) (k : Keeps w w' ok ok') : RelV c w' ok' v x := by
  cases x with
  | one t => exact RelT.keep h k
  | agg ts => obtain ⟨vs, hv, ha⟩ := h; exact ⟨vs, hv, ha.mono fun a b _ hr => hr.keep k⟩
theorem RelS.keep {c : Cx} {w w' : World} {ok ok' : Nat → Prop} {v : Value} {x : Slot} (h : RelS c w ok v x) (k : Keeps w w' ok ok') : RelS c w' ok' v x := by
  cases x with
  | val x => exact RelV.keep h k
  | tup xs => obtain ⟨vs, hv, ha⟩ := h; exact ⟨vs, hv, ha.mono fun a b _ hr => hr.keep k⟩

/-- Does a leaf name object d? -/
def T.names (d : Nat) : T → Bool
  | .row r => r == d
  | .ptr o _ => o == d
  | .rp r _ _ _ => r == d
  | _ => false
def AV.names (d : Nat) : AV → Bool
  | .one t => t.names d
  | .agg ts => ts.any (T.names d)
def Slot.names (d : Nat) : Slot → Bool
  | .val x => x.names d
  | .tup xs => xs.any (AV.names d)

def Cx.setLoc (c : Cx) (d b : Nat) : Cx := { c with loc := fun o => if o = d then b else c.loc o }
def Cx.setRv (c : Cx) (d : Nat) (v : Value) : Cx := { c with rv := fun o => if o = d then v else c.rv o }
/-- Two contexts that agree but for object d. -/
structure Cx.but (c c' : Cx) (d : Nat) : Prop where
  loc : ∀ o, o ≠ d → c'.loc o = c.loc o
  rv : ∀ o, o ≠ d → c'.rv o = c.rv o
theorem Cx.but_loc (c : Cx) (d b : Nat) : c.but (c.setLoc d b) d := ⟨fun o h => by simp [Cx.setLoc, h], fun _ _ => rfl⟩
theorem Cx.but_rv (c : Cx) (d : Nat) (v : Value) : c.but (c.setRv d v) d := ⟨fun _ _ => rfl, fun o h => by simp [Cx.setRv, h]⟩

theorem RelT.but {c c' : Cx} {w : World} {ok : Nat → Prop} {v : Value} {t : T} {d : Nat} (h : RelT c w ok v t) (hd : t.names d = false) (k : c.but c' d) : RelT c' w ok v t := by
  cases t with
  | row r => simp [T.names] at hd; simp only [RelT] at h ⊢; rw [k.rv r hd]; exact h
  | ptr o off => simp [T.names] at hd; simp only [RelT] at h ⊢; rw [k.loc o hd]; exact h
  | rp r k' i off => simp [T.names] at hd; simp only [RelT] at h ⊢; rw [k.rv r hd]; exact h
  | lit _ => exact h
  | sl _ => exact h
  | nil => exact h
  | ep _ _ => exact h
  | any => exact h
theorem RelV.but {c c' : Cx} {w : World} {ok : Nat → Prop} {v : Value} {x : AV} {d : Nat} (h : RelV c w ok v x) (hd : x.names d = false) (k : c.but c' d) : RelV c' w ok v x := by
  cases x with
  | one t => exact RelT.but h hd k
  | agg ts =>
    obtain ⟨vs, hv, ha⟩ := h
    simp only [AV.names, List.any_eq_false] at hd
    exact ⟨vs, hv, ha.mono fun a b hb hr => hr.but (by simpa using hd b hb) k⟩
theorem RelS.but {c c' : Cx} {w : World} {ok : Nat → Prop} {v : Value} {x : Slot} {d : Nat} (h : RelS c w ok v x) (hd : x.names d = false) (k : c.but c' d) : RelS c' w ok v x := by
  cases x with
  | val x => exact RelV.but h hd k
  | tup xs =>
    obtain ⟨vs, hv, ha⟩ := h
    simp only [Slot.names, List.any_eq_false] at hd
    exact ⟨vs, hv, ha.mono fun a b hb hr => hr.but (by simpa using hd b hb) k⟩

/-- The block that an object may be written in. -/
def LO.main (c : Cx) (o : Nat) : LO → Option Nat
  | .box _ => some (c.loc o)
  | .row _ _ _ _ => (c.rv o).ownBlock
def live (c : Cx) (ob : List (Nat × LO)) (b : Nat) : Prop := ∃ o x, (o, x) ∈ ob ∧ x.main c o = some b
def okB (src : Nat → Prop) (c : Cx) (ob : List (Nat × LO)) (b : Nat) : Prop := src b ∧ ¬ live c ob b
def Unf (w : World) (b : Nat) : Prop := ∃ cs e, w.heap[b]? = some (.cells cs e (0, 0))

def BoxOk (B : Nat) (c : Cx) (ow : Nat → Option Nat) (w : World) (ok : Nat → Prop) (o : Nat) (cs : List T) : Prop :=
  B ≤ c.loc o ∧ ow (c.loc o) = some o ∧ ∃ (vs : List Value) (ty : TypeId), w.heap[c.loc o]? = some (.cells vs.toArray ty (0, 0)) ∧ All2 (RelT c w ok) vs cs
def RowOk (B : Nat) (c : Cx) (ow : Nat → Option Nat) (w : World) (ok : Nat → Prop) (r e k : Nat) (es : List (List T)) (deep : Bool) : Prop :=
  0 < k ∧ (∀ x ∈ es, x.length = k) ∧ (∀ g, (c.rv r).ownBlock = some g → ow g = some r) ∧
  ∃ (xs : List Value) (F : List Nat), w.ownsRow B e k (c.rv r) es.length xs ∧ RepL w xs es.flatten F ∧ (∀ b ∈ F, ok b) ∧
    (deep = true → F.Nodup ∧ ∀ b ∈ F, B ≤ b ∧ ow b = some r ∧ (c.rv r).ownBlock ≠ some b ∧ Unf w b)
def ObOk (B : Nat) (c : Cx) (ow : Nat → Option Nat) (w : World) (ok : Nat → Prop) (o : Nat) : LO → Prop
  | .box cs => BoxOk B c ow w ok o cs
  | .row e k es deep => RowOk B c ow w ok o e k es deep

structure SimC (B : Nat) (src : Nat → Prop) (c : Cx) (ow : Nat → Option Nat) (st : St) (a : Act) (w : World) : Prop where
  defers : a.defers = []
  base : B ≤ w.heap.size
  fr : ∀ s g x, (s, g, x) ∈ st.fr → ∃ v, a.tmps[s]? = some v ∧ (on g = true → RelS c w (okB src c st.ob) v x) ∧ (on g = false → v = undef)
  ob : ∀ o x, (o, x) ∈ st.ob → ObOk B c ow w (okB src c st.ob) o x
  uniq : ∀ o x y, (o, x) ∈ st.ob → (o, y) ∈ st.ob → x = y
  rvs : ∀ r, ∃ ad n k, c.rv r = .slice ad n k
def Sim (B : Nat) (src : Nat → Prop) (st : St) (a : Act) (w : World) : Prop := ∃ c ow, SimC B src c ow st a w

theorem Unf.keep {w w' : World} {b : Nat} (h : Unf w b) (hk : w'.heap[b]? = w.heap[b]?) : Unf w' b := by
  obtain ⟨cs, e, h⟩ := h; exact ⟨cs, e, hk.trans h⟩
theorem Unf.lt {w : World} {b : Nat} (h : Unf w b) : b < w.heap.size := by
  obtain ⟨cs, e, h⟩ := h; exact (Array.getElem?_eq_some_iff.1 h).1

theorem ownsRow_keep {w w' : World} {B e k : Nat} {v : Value} {n : Nat} {xs : List Value} (h : w.ownsRow B e k v n xs) (hk : ∀ g, v.ownBlock = some g → w'.heap[g]? = w.heap[g]?) : w'.ownsRow B e k v n xs := by
  obtain ⟨h1, h2⟩ := h
  refine ⟨h1, ?_⟩
  rcases h2 with h2 | ⟨g, cap, cur, hv, hB, hh, hr⟩
  · exact .inl h2
  · exact .inr ⟨g, cap, cur, hv, hB, by rw [hk g (by simp [hv, Value.ownBlock])]; exact hh, hr⟩
theorem ownsRow_lt {w : World} {B e k : Nat} {v : Value} {n : Nat} {xs : List Value} (h : w.ownsRow B e k v n xs) {g : Nat} (hg : v.ownBlock = some g) : g < w.heap.size ∧ B ≤ g := by
  obtain ⟨_, h2⟩ := h
  rcases h2 with ⟨h2, _⟩ | ⟨g', cap, cur, hv, hB, hh, hr⟩
  · simp [h2, Value.ownBlock] at hg
  · simp [hv, Value.ownBlock] at hg; subst hg; exact ⟨(Array.getElem?_eq_some_iff.1 hh).1, hB⟩

theorem BoxOk.lt {B : Nat} {c : Cx} {ow : Nat → Option Nat} {w : World} {ok : Nat → Prop} {o : Nat} {cs : List T} (h : BoxOk B c ow w ok o cs) : c.loc o < w.heap.size := by
  obtain ⟨_, _, vs, ty, hh, _⟩ := h; exact (Array.getElem?_eq_some_iff.1 hh).1
theorem BoxOk.keep {B : Nat} {c : Cx} {ow ow' : Nat → Option Nat} {w w' : World} {ok ok' : Nat → Prop} {o : Nat} {cs : List T} (h : BoxOk B c ow w ok o cs) (k : Keeps w w' ok ok')
    (hb : w'.heap[c.loc o]? = w.heap[c.loc o]?) (ho : ∀ b, b < w.heap.size → ow b = some o → ow' b = some o) : BoxOk B c ow' w' ok' o cs := by
  have hlt := h.lt
  obtain ⟨h1, h2, vs, ty, hh, ha⟩ := h
  exact ⟨h1, ho _ hlt h2, vs, ty, by rw [hb]; exact hh, ha.mono fun a b _ hr => hr.keep k⟩
theorem RowOk.keep {B : Nat} {c : Cx} {ow ow' : Nat → Option Nat} {w w' : World} {ok ok' : Nat → Prop} {r e k : Nat} {es : List (List T)} {deep : Bool} (h : RowOk B c ow w ok r e k es deep) (kp : Keeps w w' ok ok')
    (hb : ∀ g, (c.rv r).ownBlock = some g → w'.heap[g]? = w.heap[g]?) (ho : ∀ b, b < w.heap.size → ow b = some r → ow' b = some r) : RowOk B c ow' w' ok' r e k es deep := by
  obtain ⟨h0, h1, h2, xs, F, h3, h4, h5, h6⟩ := h
  refine ⟨h0, h1, fun g hg => ?_, xs, F, ownsRow_keep h3 hb, h4.frame fun b hb => kp.block b (h4.lt b hb) (h5 b hb), fun b hb => kp.good b (h4.lt b hb) (h5 b hb), fun hd => ?_⟩
  · exact ho g (ownsRow_lt h3 hg).1 (h2 g hg)
  · obtain ⟨h7, h8⟩ := h6 hd
    refine ⟨h7, fun b hb => ?_⟩
    obtain ⟨h9, h10, h11, h12⟩ := h8 b hb
    exact ⟨h9, ho b (h4.lt b hb) h10, h11, h12.keep (kp.block b (h4.lt b hb) (h5 b hb))⟩
end Go.Ab
