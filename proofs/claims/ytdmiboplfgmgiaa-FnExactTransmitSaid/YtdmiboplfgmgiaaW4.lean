/-
  When a frame and a world of the model are as a typed frame says; what stays when the world turns. Over any program. Conditions: none.
-/
import Derived.Test.YtdmiboplfgmgiaaW3
set_option linter.unusedVariables false
namespace Go.V
open Go.Ab Go.RowKit

inductive All2 {α β : Type} (R : α → β → Prop) : List α → List β → Prop
  | nil : All2 R [] []
  | cons {a : α} {b : β} {as : List α} {bs : List β} (h : R a b) (hs : All2 R as bs) : All2 R (a :: as) (b :: bs)

section
variable {α β : Type} {R R' : α → β → Prop}
theorem All2.length {as : List α} {bs : List β} (h : All2 R as bs) : as.length = bs.length := by
  induction h with
  | nil => rfl
  | cons _ _ ih => simp [ih]
theorem All2.mono {as : List α} {bs : List β} (h : All2 R as bs) (hr : ∀ a b, b ∈ bs → R a b → R' a b) : All2 R' as bs := by
  induction h with
  | nil => exact .nil
  | cons h hs ih => exact .cons (hr _ _ (List.mem_cons_self ..) h) (ih fun a b hb => hr a b (List.mem_cons_of_mem _ hb))
theorem All2.get {as : List α} {bs : List β} (h : All2 R as bs) : ∀ {j : Nat} {b : β}, bs[j]? = some b → ∃ a, as[j]? = some a ∧ R a b := by
  induction h with
  | nil => intro j b hb; simp at hb
  | cons h hs ih =>
    intro j b hb
    cases j with
    | zero => simp at hb; subst hb; exact ⟨_, rfl, h⟩
    | succ j => obtain ⟨a, ha, hr⟩ := ih (j := j) (b := b) (by simpa using hb); exact ⟨a, by simpa using ha, hr⟩
theorem All2.take {as : List α} {bs : List β} (h : All2 R as bs) : ∀ n, All2 R (as.take n) (bs.take n) := by
  induction h with
  | nil => intro n; simpa using .nil
  | cons h hs ih =>
    intro n
    cases n with
    | zero => exact .nil
    | succ n => exact .cons h (ih n)
theorem All2.drop {as : List α} {bs : List β} (h : All2 R as bs) : ∀ n, All2 R (as.drop n) (bs.drop n) := by
  induction h with
  | nil => intro n; simpa using .nil
  | cons h hs ih =>
    intro n
    cases n with
    | zero => exact .cons h hs
    | succ n => exact ih n
theorem All2.set {as : List α} {bs : List β} (h : All2 R as bs) {a : α} {b : β} (hr : R a b) : ∀ n, All2 R (as.set n a) (bs.set n b) := by
  induction h with
  | nil => intro n; simpa using .nil
  | cons h hs ih =>
    intro n
    cases n with
    | zero => exact .cons hr hs
    | succ n => exact .cons h (ih n)
theorem All2.append {as as' : List α} {bs bs' : List β} (h : All2 R as bs) (h' : All2 R as' bs') : All2 R (as ++ as') (bs ++ bs') := by
  induction h with
  | nil => exact h'
  | cons h hs ih => exact .cons h ih
theorem All2.comp {γ : Type} {S : γ → β → Prop} {Q : α → γ → Prop} {as : List α} {bs : List β} {cs : List γ} (h : All2 R as bs) (h' : All2 S cs bs) (hq : ∀ a b c, R a b → S c b → Q a c) : All2 Q as cs := by
  induction h generalizing cs with
  | nil => cases h'; exact .nil
  | cons h hs ih => cases h' with | cons h1 h2 => exact .cons (hq _ _ _ h h1) (ih h2)
end

structure Cx where
  loc : Nat → Nat
  rv : Nat → Value

def RelC (c : Cx) (ow : Nat → Option Nat) (w : World) (ok : Nat → Prop) (v : Value) : C → Prop
  | .v t x => ∃ G, Rep w v (leafT t x) G ∧ ∀ b ∈ G, ok b
  | .nil => v = .slice none 0 0
  | .row r => v = c.rv r
  | .ptr o off => v = .pointer (some ⟨c.loc o, off, none⟩)
  | .ep t x off => ∃ b base, v = .pointer (some ⟨b, base + off, none⟩) ∧ ok b ∧ b < w.heap.size ∧ ∃ xs G, RepL w xs (cells t x) G ∧ (∀ j u, xs[j]? = some u → w.cell? ⟨b, base + j, none⟩ = some u) ∧ ∀ b ∈ G, ok b
  | .rp r k i off => ∃ g b0 n cap, c.rv r = .slice (some ⟨g, b0, none⟩) n cap ∧ v = .pointer (some ⟨g, b0 + (i * k + off), none⟩)
  | .sub r k i off t x => ∃ g b0 n cap, c.rv r = .slice (some ⟨g, b0, none⟩) n cap ∧ w.cell? ⟨g, b0 + (i * k + off), none⟩ = some v ∧ ∃ G, Rep w v (leafT (.sl t) x) G ∧ ∀ b ∈ G, ow b = some r
  | .any => True
def RelA (c : Cx) (ow : Nat → Option Nat) (w : World) (ok : Nat → Prop) (v : Value) : A → Prop
  | .one x => RelC c ow w ok v x
  | .agg cs => ∃ vs : List Value, v = .agg vs.toArray ∧ All2 (RelC c ow w ok) vs cs
def RelS (c : Cx) (ow : Nat → Option Nat) (w : World) (ok : Nat → Prop) (v : Value) : S → Prop
  | .val x => RelA c ow w ok v x
  | .tup xs => ∃ vs : List Value, v = .tuple vs.toArray ∧ All2 (RelA c ow w ok) vs xs
  | .un => v = undef

def F.subFree (f : F) : Prop := (∀ s n x, (s, n, x) ∈ f.fr → x.isSub = false) ∧ ∀ o n x, (o, n, x) ∈ f.ob → x.isSub = false

/-- What stays when the world turns: blocks that are let stay as they are, none is let anew that was there. -/
structure Keeps (w w' : World) (ok ok' : Nat → Prop) : Prop where
  size : w.heap.size ≤ w'.heap.size
  block : ∀ b, b < w.heap.size → ok b → w'.heap[b]? = w.heap[b]?
  good : ∀ b, b < w.heap.size → ok b → ok' b

section
variable {c : Cx} {ow ow' : Nat → Option Nat} {w w' : World} {ok ok' : Nat → Prop} {v : Value}
theorem RelC.keep {x : C} (h : RelC c ow w ok v x) (hs : x.isSub = false) (k : Keeps w w' ok ok') : RelC c ow' w' ok' v x := by
  cases x with
  | v t x =>
    obtain ⟨G, hr, hG⟩ := h
    exact ⟨G, hr.frame fun b hb => k.block b (hr.lt b hb) (hG b hb), fun b hb => k.good b (hr.lt b hb) (hG b hb)⟩
  | ep t x off =>
    obtain ⟨b, base, hv, hb, hlt, xs, G, hr, hc, hG⟩ := h
    exact ⟨b, base, hv, k.good b hlt hb, Nat.lt_of_lt_of_le hlt k.size, xs, G, hr.frame fun b hb => k.block b (hr.lt b hb) (hG b hb),
      fun j u hu => (World.cell?_of_block (k.block b hlt hb)).trans (hc j u hu), fun b hb => k.good b (hr.lt b hb) (hG b hb)⟩
  | sub _ _ _ _ _ _ => cases hs
  | nil => exact h
  | row _ => exact h
  | ptr _ _ => exact h
  | rp _ _ _ _ => exact h
  | any => exact h
theorem RelA.keep {x : A} (h : RelA c ow w ok v x) (hs : x.isSub = false) (k : Keeps w w' ok ok') : RelA c ow' w' ok' v x := by
  cases x with
  | one t => exact RelC.keep h hs k
  | agg ts =>
    simp only [A.isSub, List.any_eq_false] at hs
    obtain ⟨vs, hv, ha⟩ := h
    exact ⟨vs, hv, ha.mono fun a b hb hr => hr.keep (by simpa using hs b hb) k⟩
theorem RelS.keep {x : S} (h : RelS c ow w ok v x) (hs : x.isSub = false) (k : Keeps w w' ok ok') : RelS c ow' w' ok' v x := by
  cases x with
  | val x => exact RelA.keep h hs k
  | tup xs =>
    simp only [S.isSub, List.any_eq_false] at hs
    obtain ⟨vs, hv, ha⟩ := h
    exact ⟨vs, hv, ha.mono fun a b hb hr => hr.keep (by simpa using hs b hb) k⟩
  | un => exact h
/-- The same world, more blocks let. -/
theorem RelC.good {x : C} (h : RelC c ow w ok v x) (k : ∀ b, b < w.heap.size → ok b → ok' b) : RelC c ow w ok' v x := by
  cases x with
  | v t x => obtain ⟨G, hr, hG⟩ := h; exact ⟨G, hr, fun b hb => k b (hr.lt b hb) (hG b hb)⟩
  | ep t x off =>
    obtain ⟨b, base, hv, hb, hlt, xs, G, hr, hc, hG⟩ := h
    exact ⟨b, base, hv, k b hlt hb, hlt, xs, G, hr, hc, fun b hb => k b (hr.lt b hb) (hG b hb)⟩
  | sub _ _ _ _ _ _ => exact h
  | nil => exact h
  | row _ => exact h
  | ptr _ _ => exact h
  | rp _ _ _ _ => exact h
  | any => exact h
theorem RelA.good {x : A} (h : RelA c ow w ok v x) (k : ∀ b, b < w.heap.size → ok b → ok' b) : RelA c ow w ok' v x := by
  cases x with
  | one t => exact RelC.good h k
  | agg ts => obtain ⟨vs, hv, ha⟩ := h; exact ⟨vs, hv, ha.mono fun a b _ hr => hr.good k⟩
theorem RelS.good {x : S} (h : RelS c ow w ok v x) (k : ∀ b, b < w.heap.size → ok b → ok' b) : RelS c ow w ok' v x := by
  cases x with
  | val x => exact RelA.good h k
  | tup xs => obtain ⟨vs, hv, ha⟩ := h; exact ⟨vs, hv, ha.mono fun a b _ hr => hr.good k⟩
  | un => exact h
end

/-- Two contexts that agree but for object d. -/
structure Cx.but (c c' : Cx) (d : Nat) : Prop where
  loc : ∀ o, o ≠ d → c'.loc o = c.loc o
  rv : ∀ o, o ≠ d → c'.rv o = c.rv o
def Cx.setLoc (c : Cx) (d b : Nat) : Cx := { c with loc := fun o => if o = d then b else c.loc o }
def Cx.setRv (c : Cx) (d : Nat) (v : Value) : Cx := { c with rv := fun o => if o = d then v else c.rv o }
theorem Cx.but_loc (c : Cx) (d b : Nat) : c.but (c.setLoc d b) d := ⟨fun o h => by simp [Cx.setLoc, h], fun _ _ => rfl⟩
theorem Cx.but_rv (c : Cx) (d : Nat) (v : Value) : c.but (c.setRv d v) d := ⟨fun _ _ => rfl, fun o h => by simp [Cx.setRv, h]⟩

section
variable {c c' : Cx} {ow : Nat → Option Nat} {w : World} {ok : Nat → Prop} {v : Value} {d : Nat}
theorem RelC.but {x : C} (h : RelC c ow w ok v x) (hd : x.names d = false) (k : c.but c' d) : RelC c' ow w ok v x := by
  cases x with
  | row r => simp [C.names] at hd; simp only [RelC] at h ⊢; rw [k.rv r hd]; exact h
  | ptr o off => simp [C.names] at hd; simp only [RelC] at h ⊢; rw [k.loc o hd]; exact h
  | rp r k' i off => simp [C.names] at hd; simp only [RelC] at h ⊢; rw [k.rv r hd]; exact h
  | sub r k' i off t x => simp [C.names] at hd; simp only [RelC] at h ⊢; rw [k.rv r hd]; exact h
  | v _ _ => exact h
  | nil => exact h
  | ep _ _ _ => exact h
  | any => exact h
theorem RelA.but {x : A} (h : RelA c ow w ok v x) (hd : x.names d = false) (k : c.but c' d) : RelA c' ow w ok v x := by
  cases x with
  | one t => exact RelC.but h hd k
  | agg ts =>
    obtain ⟨vs, hv, ha⟩ := h
    simp only [A.names, List.any_eq_false] at hd
    exact ⟨vs, hv, ha.mono fun a b hb hr => hr.but (by simpa using hd b hb) k⟩
theorem RelS.but {x : S} (h : RelS c ow w ok v x) (hd : x.names d = false) (k : c.but c' d) : RelS c' ow w ok v x := by
  cases x with
  | val x => exact RelA.but h hd k
  | tup xs =>
    obtain ⟨vs, hv, ha⟩ := h
    simp only [S.names, List.any_eq_false] at hd
    exact ⟨vs, hv, ha.mono fun a b hb hr => hr.but (by simpa using hd b hb) k⟩
  | un => exact h
end

def tyLen : Ty → Nat
  | .pair a b => tyLen a + tyLen b
  | _ => 1
theorem cells_len : ∀ (t : Ty) (x : den t), (cells t x).length = tyLen t
  | .int _, _ => rfl
  | .bool, _ => rfl
  | .str, _ => rfl
  | .sl _, _ => rfl
  | .pair a b, x => by simp [cells, tyLen, cells_len a, cells_len b]
theorem split_len : ∀ (t : Ty) (x : den t), (split t x).length = tyLen t
  | .int _, _ => rfl
  | .bool, _ => rfl
  | .str, _ => rfl
  | .sl _, _ => rfl
  | .pair a b, x => by simp [split, tyLen, split_len a, split_len b]

/-- The blocks of an object that may be written. -/
def O.blk (c : Cx) (ow : Nat → Option Nat) (o : Nat) : O → Nat → Prop
  | .box _, b => c.loc o = b
  | .row _ _ _ _ _, b => (c.rv o).ownBlock = some b
  | .win _ _ _, b => ow b = some o
def live (c : Cx) (ow : Nat → Option Nat) (ob : List (Nat × Nat × O)) (b : Nat) : Prop := ∃ o n x, (o, n, x) ∈ ob ∧ x.blk c ow o b
def okB (src : Nat → Prop) (c : Cx) (ow : Nat → Option Nat) (ob : List (Nat × Nat × O)) (b : Nat) : Prop := src b ∧ ¬ live c ow ob b
def Unf (w : World) (b : Nat) : Prop := ∃ cs e, w.heap[b]? = some (.cells cs e (0, 0))

def BoxOk (M : Nat → Prop) (c : Cx) (ow : Nat → Option Nat) (w : World) (ok : Nat → Prop) (o : Nat) (cs : List C) : Prop :=
  M (c.loc o) ∧ ow (c.loc o) = some o ∧ ∃ (vs : List Value) (ty : TypeId), w.heap[c.loc o]? = some (.cells vs.toArray ty (0, 0)) ∧ All2 (RelC c ow w ok) vs cs
def RowOk (M : Nat → Prop) (c : Cx) (ow : Nat → Option Nat) (w : World) (ok : Nat → Prop) (r e k : Nat) (t : Ty) (l : List (den t)) (deep : Bool) : Prop :=
  0 < k ∧ tyLen t = k ∧ (∀ g, (c.rv r).ownBlock = some g → M g ∧ ow g = some r) ∧
  ∃ (xs : List Value) (G : List Nat), w.ownsRow 0 e k (c.rv r) l.length xs ∧ RepL w xs (l.map (cells t)).flatten G ∧ (∀ b ∈ G, ok b) ∧
    (deep = true → G.Nodup ∧ ∀ b ∈ G, M b ∧ ow b = some r ∧ (c.rv r).ownBlock ≠ some b ∧ Unf w b)
def WinOk (M : Nat → Prop) (c : Cx) (ow : Nat → Option Nat) (w : World) (r k : Nat) (t : Ty) (l : List (den t)) : Prop :=
  0 < k ∧ tyLen t = k ∧ ∃ G, Rep w (c.rv r) (leafT (.sl t) l) G ∧ G.Nodup ∧ ∀ b ∈ G, M b ∧ ow b = some r ∧ Unf w b
def ObOk (M : Nat → Prop) (c : Cx) (ow : Nat → Option Nat) (w : World) (ok : Nat → Prop) (o : Nat) : O → Prop
  | .box cs => BoxOk M c ow w ok o cs
  | .row e k t l deep => RowOk M c ow w ok o e k t l deep
  | .win k t l => WinOk M c ow w o k t l

structure SimC (M src : Nat → Prop) (c : Cx) (ow : Nat → Option Nat) (f : F) (a : Act) (w : World) : Prop where
  defers : a.defers = []
  fr : ∀ s n x, (s, n, x) ∈ f.fr → ∃ v, a.tmps[s]? = some v ∧ RelS c ow w (okB src c ow f.ob) v x
  ob : ∀ o n x, (o, n, x) ∈ f.ob → ObOk M c ow w (okB src c ow f.ob) o x
  uniq : ∀ o n x m y, (o, n, x) ∈ f.ob → (o, m, y) ∈ f.ob → x = y
  rvs : ∀ r, ∃ ad n k, c.rv r = .slice ad n k

theorem Unf.keep {w w' : World} {b : Nat} (h : Unf w b) (hk : w'.heap[b]? = w.heap[b]?) : Unf w' b := by
  obtain ⟨cs, e, h⟩ := h; exact ⟨cs, e, hk.trans h⟩
theorem Unf.lt {w : World} {b : Nat} (h : Unf w b) : b < w.heap.size := by
  obtain ⟨cs, e, h⟩ := h; exact (Array.getElem?_eq_some_iff.1 h).1

theorem ownsRow_keep {w w' : World} {B e k : Nat} {v : Value} {n : Nat} {xs : List Value} (h : w.ownsRow B e k v n xs) (hk : ∀ g, v.ownBlock = some g → w'.heap[g]? = w.heap[g]?) : w'.ownsRow B e k v n xs := by
  obtain ⟨h1, h2⟩ := h
  refine ⟨h1, ?_⟩
  rcases h2 with h2 | ⟨g, cap, cur, hv, hB, hh, hr⟩
  · exact .inl h2
  · exact .inr ⟨g, cap, cur, hv, hB, by rw [hk g (by simp [hv, Value.ownBlock])]; exact hh, hr⟩
theorem ownsRow_lt {w : World} {B e k : Nat} {v : Value} {n : Nat} {xs : List Value} (h : w.ownsRow B e k v n xs) {g : Nat} (hg : v.ownBlock = some g) : g < w.heap.size ∧ B ≤ g := by
  obtain ⟨_, h2⟩ := h
  rcases h2 with ⟨h2, _⟩ | ⟨g', cap, cur, hv, hB, hh, hr⟩
  · simp [h2, Value.ownBlock] at hg
  · simp [hv, Value.ownBlock] at hg; subst hg; exact ⟨(Array.getElem?_eq_some_iff.1 hh).1, hB⟩

section
variable {M src : Nat → Prop} {c : Cx} {ow ow' : Nat → Option Nat} {w w' : World} {ok ok' : Nat → Prop}
theorem BoxOk.lt {o : Nat} {cs : List C} (h : BoxOk M c ow w ok o cs) : c.loc o < w.heap.size := by
  obtain ⟨_, _, vs, ty, hh, _⟩ := h; exact (Array.getElem?_eq_some_iff.1 hh).1
theorem ObOk.own {o : Nat} {x : O} (h : ObOk M c ow w ok o x) {b : Nat} (hb : x.blk c ow o b) : ow b = some o := by
  cases x with
  | box cs => have hb : c.loc o = b := hb; subst hb; exact h.2.1
  | row e k t l deep => obtain ⟨r0, r1, r2, _⟩ := h; exact (r2 b hb).2
  | win k t l => exact hb
/-- An object whose blocks have not turned. -/
theorem ObOk.keep {o : Nat} {x : O} (h : ObOk M c ow w ok o x) (hs : x.isSub = false) (kp : Keeps w w' ok ok') (hb : ∀ b, b < w.heap.size → ow b = some o → x.blk c ow o b → w'.heap[b]? = w.heap[b]?)
    (ho : ∀ b, b < w.heap.size → ow b = some o → ow' b = some o) : ObOk M c ow' w' ok' o x := by
  cases x with
  | box cs =>
    have hlt := BoxOk.lt h
    obtain ⟨h1, h2, vs, ty, hh, ha⟩ := h
    simp only [O.isSub, List.any_eq_false] at hs
    exact ⟨h1, ho _ hlt h2, vs, ty, by rw [hb _ hlt h2 rfl]; exact hh, ha.mono fun a b hb hr => hr.keep (by simpa using hs b hb) kp⟩
  | row e k t l deep =>
    obtain ⟨h0, h1, h2, xs, G, h3, h4, h5, h6⟩ := h
    refine ⟨h0, h1, fun g hg => ?_, xs, G, ownsRow_keep h3 fun g hg => hb g (ownsRow_lt h3 hg).1 (h2 g hg).2 hg, h4.frame fun b hb => kp.block b (h4.lt b hb) (h5 b hb), fun b hb => kp.good b (h4.lt b hb) (h5 b hb), fun hd => ?_⟩
    · exact ⟨(h2 g hg).1, ho g (ownsRow_lt h3 hg).1 (h2 g hg).2⟩
    · obtain ⟨h7, h8⟩ := h6 hd
      refine ⟨h7, fun b hb => ?_⟩
      obtain ⟨h9, h10, h11, h12⟩ := h8 b hb
      exact ⟨h9, ho b (h4.lt b hb) h10, h11, h12.keep (kp.block b (h4.lt b hb) (h5 b hb))⟩
  | win k t l =>
    obtain ⟨h0, h1, G, h2, h3, h4⟩ := h
    have hblk : ∀ b ∈ G, w'.heap[b]? = w.heap[b]? := fun b hbG => hb b (h2.lt b hbG) (h4 b hbG).2.1 (h4 b hbG).2.1
    exact ⟨h0, h1, G, h2.frame hblk, h3, fun b hbG => ⟨(h4 b hbG).1, ho b (h2.lt b hbG) (h4 b hbG).2.1, (h4 b hbG).2.2.keep (hblk b hbG)⟩⟩
end
end Go.V
