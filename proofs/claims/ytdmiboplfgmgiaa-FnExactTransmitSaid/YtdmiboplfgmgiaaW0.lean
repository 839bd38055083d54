/-
  The abstract data of a frame (leaf cells, slices as lists of element cells) and how memory represents it. Over any program. Conditions: none.
-/
import Derived.WalkKit
import Derived.Below
import Derived.Maps.AppendAt
import Derived.Deep.Draws
import Derived.OrdersHeld
namespace Go.Ab
open Go.RowKit

/-- The data of one cell. 'lit': a number, a bool, a string. 'sl es': a slice, each element by its cells. The others occur in frames alone. -/
inductive T where
  | lit (v : Value)
  | sl (es : List (List T))
  | nil
  | row (r : Nat)
  | ptr (o off : Nat)
  | ep (e : List T) (off : Nat)
  | rp (r k i off : Nat)
  | any
  deriving Inhabited

/-- A plain value of one cell. -/
def plain : Value → Bool
  | .int k n => decide (k.min ≤ n) && decide (n ≤ k.max)
  | .bool _ => true
  | .string s => decide (s.size ≤ maxLen)
  | _ => false

mutual
/-- In world w the value v holds the data t; the blocks of its slices are F, each as often as it is met. -/
inductive Rep (w : World) : Value → T → List Nat → Prop
  | lit {v : Value} (h : plain v = true) : Rep w v (.lit v) []
  | nil {a : Option Addr} {c : Nat} (hc : c ≤ maxLen) : Rep w (.slice a 0 c) (.sl []) []
  | cons {b off n c k : Nat} {es : List (List T)} {xs : List Value} {F : List Nat} (hn : es.length = n) (h0 : 0 < n) (hk0 : 0 < k) (hk : ∀ e ∈ es, e.length = k) (hc : n ≤ c) (hm : c ≤ maxLen)
      (hx : xs.length = n * k) (hcell : ∀ j u, xs[j]? = some u → w.cell? ⟨b, off + j, none⟩ = some u) (hr : RepL w xs es.flatten F) : Rep w (.slice (some ⟨b, off, none⟩) n c) (.sl es) (b :: F)
inductive RepL (w : World) : List Value → List T → List Nat → Prop
  | nil : RepL w [] [] []
  | cons {v : Value} {t : T} {F : List Nat} {vs : List Value} {ts : List T} {G : List Nat} (h : Rep w v t F) (hs : RepL w vs ts G) : RepL w (v :: vs) (t :: ts) (F ++ G)
end

theorem RepL.length {w : World} {vs : List Value} {ts : List T} {F : List Nat} (h : RepL w vs ts F) : vs.length = ts.length :=
  RepL.rec (motive_1 := fun _ _ _ _ => True) (motive_2 := fun vs ts _ _ => vs.length = ts.length) (fun _ => trivial) (fun _ => trivial) (fun _ _ _ _ _ _ _ _ _ _ => trivial) rfl
    (fun _ _ _ ih => by simp [ih]) h

theorem cell?_lt {w : World} {a : Addr} {u : Value} (h : w.cell? a = some u) : a.block < w.heap.size := by
  unfold World.cell? at h
  split at h
  · rename_i c _ _ hb
    exact (Array.getElem?_eq_some_iff.1 hb).1
  · cases h

theorem Rep.lt {w : World} {v : Value} {t : T} {F : List Nat} (h : Rep w v t F) : ∀ b ∈ F, b < w.heap.size :=
  Rep.rec (motive_1 := fun _ _ F _ => ∀ b ∈ F, b < w.heap.size) (motive_2 := fun _ _ F _ => ∀ b ∈ F, b < w.heap.size) (fun _ => by simp) (fun _ => by simp)
    (fun {b off n c k es xs F} hn h0 hk0 hk hc hm hx hcell hr ih => by
      intro x hx'
      rcases List.mem_cons.1 hx' with rfl | hx'
      · have hp : 0 < xs.length := by rw [hx]; exact Nat.mul_pos h0 hk0
        exact cell?_lt (hcell 0 xs[0] (List.getElem?_eq_getElem hp))
      · exact ih x hx')
    (by simp) (fun _ _ ih1 ih2 b hb => (List.mem_append.1 hb).elim (ih1 b) (ih2 b)) h
theorem RepL.lt {w : World} {vs : List Value} {ts : List T} {F : List Nat} (h : RepL w vs ts F) : ∀ b ∈ F, b < w.heap.size :=
  RepL.rec (motive_1 := fun _ _ F _ => ∀ b ∈ F, b < w.heap.size) (motive_2 := fun _ _ F _ => ∀ b ∈ F, b < w.heap.size) (fun _ => by simp) (fun _ => by simp)
    (fun {b off n c k es xs F} hn h0 hk0 hk hc hm hx hcell hr ih => by
      intro x hx'
      rcases List.mem_cons.1 hx' with rfl | hx'
      · have hp : 0 < xs.length := by rw [hx]; exact Nat.mul_pos h0 hk0
        exact cell?_lt (hcell 0 xs[0] (List.getElem?_eq_getElem hp))
      · exact ih x hx')
    (by simp) (fun _ _ ih1 ih2 b hb => (List.mem_append.1 hb).elim (ih1 b) (ih2 b)) h

/-- The data stay while the blocks stay. -/
theorem Rep.frame {w w' : World} {v : Value} {t : T} {F : List Nat} (h : Rep w v t F) (hF : ∀ b ∈ F, w'.heap[b]? = w.heap[b]?) : Rep w' v t F :=
  Rep.rec (motive_1 := fun v t F _ => (∀ b ∈ F, w'.heap[b]? = w.heap[b]?) → Rep w' v t F) (motive_2 := fun vs ts F _ => (∀ b ∈ F, w'.heap[b]? = w.heap[b]?) → RepL w' vs ts F)
    (fun h _ => .lit h) (fun h _ => .nil h)
    (fun hn h0 hk0 hk hc hm hx hcell _ ih hF => .cons hn h0 hk0 hk hc hm hx (fun j u hu => (World.cell?_of_block (hF _ (List.mem_cons_self ..))).trans (hcell j u hu)) (ih fun b hb => hF b (List.mem_cons_of_mem _ hb)))
    (fun _ => .nil) (fun _ _ ih1 ih2 hF => .cons (ih1 fun b hb => hF b (List.mem_append_left _ hb)) (ih2 fun b hb => hF b (List.mem_append_right _ hb))) h hF
theorem RepL.frame {w w' : World} {vs : List Value} {ts : List T} {F : List Nat} (h : RepL w vs ts F) (hF : ∀ b ∈ F, w'.heap[b]? = w.heap[b]?) : RepL w' vs ts F :=
  RepL.rec (motive_1 := fun v t F _ => (∀ b ∈ F, w'.heap[b]? = w.heap[b]?) → Rep w' v t F) (motive_2 := fun vs ts F _ => (∀ b ∈ F, w'.heap[b]? = w.heap[b]?) → RepL w' vs ts F)
    (fun h _ => .lit h) (fun h _ => .nil h)
    (fun hn h0 hk0 hk hc hm hx hcell _ ih hF => .cons hn h0 hk0 hk hc hm hx (fun j u hu => (World.cell?_of_block (hF _ (List.mem_cons_self ..))).trans (hcell j u hu)) (ih fun b hb => hF b (List.mem_cons_of_mem _ hb)))
    (fun _ => .nil) (fun _ _ ih1 ih2 hF => .cons (ih1 fun b hb => hF b (List.mem_append_left _ hb)) (ih2 fun b hb => hF b (List.mem_append_right _ hb))) h hF

theorem RepL.append {w : World} {vs vs' : List Value} {ts ts' : List T} {F G : List Nat} (h : RepL w vs ts F) (h' : RepL w vs' ts' G) : RepL w (vs ++ vs') (ts ++ ts') (F ++ G) :=
  RepL.rec (motive_1 := fun _ _ _ _ => True) (motive_2 := fun vs ts F _ => RepL w (vs ++ vs') (ts ++ ts') (F ++ G)) (fun _ => trivial) (fun _ => trivial) (fun _ _ _ _ _ _ _ _ _ _ => trivial)
    h' (fun hv _ _ ih => by simpa using RepL.cons hv ih) h

theorem RepL.get {w : World} : ∀ {vs : List Value} {ts : List T} {F : List Nat}, RepL w vs ts F → ∀ {j : Nat} {t : T}, ts[j]? = some t → ∃ v G, vs[j]? = some v ∧ Rep w v t G ∧ ∀ b ∈ G, b ∈ F := by
  intro vs
  induction vs with
  | nil => intro ts F h j t ht; cases h; simp at ht
  | cons v vs ih =>
    intro ts F h j t ht
    cases h with
    | cons h hs =>
      cases j with
      | zero => simp at ht; subst ht; exact ⟨v, _, rfl, h, fun b hb => List.mem_append_left _ hb⟩
      | succ j =>
        obtain ⟨u, G, h1, h2, h3⟩ := ih hs (j := j) (t := t) (by simpa using ht)
        exact ⟨u, G, by simpa using h1, h2, fun b hb => List.mem_append_right _ (h3 b hb)⟩

theorem RepL.take {w : World} : ∀ {vs : List Value} {ts : List T} {F : List Nat}, RepL w vs ts F → ∀ n, ∃ G H, RepL w (vs.take n) (ts.take n) G ∧ RepL w (vs.drop n) (ts.drop n) H ∧ F = G ++ H := by
  intro vs
  induction vs with
  | nil => intro ts F h n; cases h; exact ⟨[], [], by simpa using .nil, by simpa using .nil, rfl⟩
  | cons v vs ih =>
    intro ts F h n
    cases h with
    | cons h hs =>
      cases n with
      | zero => exact ⟨[], _, .nil, .cons h hs, rfl⟩
      | succ n =>
        obtain ⟨G, H, h1, h2, h3⟩ := ih hs n
        exact ⟨_, H, .cons h h1, h2, by rw [h3, List.append_assoc]⟩

/-- Element i of a flattened list of lists of one length. -/
theorem flatten_get {es : List (List T)} {k : Nat} (hk : ∀ e ∈ es, e.length = k) {i : Nat} {e : List T} (he : es[i]? = some e) : (es.flatten.drop (i * k)).take k = e := by
  induction es generalizing i with
  | nil => simp at he
  | cons x xs ih =>
    have hx : x.length = k := hk x (List.mem_cons_self ..)
    cases i with
    | zero => simp at he; subst he; simp [hx]
    | succ i =>
      have he' : xs[i]? = some e := by simpa using he
      have := ih (fun e he => hk e (List.mem_cons_of_mem _ he)) he'
      have h1 : (i + 1) * k = i * k + k := Nat.succ_mul i k
      have h2 : (i + 1) * k - x.length = i * k := by rw [h1, hx]; omega
      rw [List.flatten_cons, List.drop_append, h2, List.drop_eq_nil_of_le (by rw [hx, h1]; omega), List.nil_append]
      exact this

theorem flatten_length {es : List (List T)} {k : Nat} (hk : ∀ e ∈ es, e.length = k) : es.flatten.length = es.length * k := by
  induction es with
  | nil => simp
  | cons x xs ih =>
    rw [List.flatten_cons, List.length_append, ih (fun e he => hk e (List.mem_cons_of_mem _ he)), hk x (List.mem_cons_self ..), List.length_cons, Nat.succ_mul, Nat.add_comm]
end Go.Ab
