/-
  How a typed frame is carried over the steps of the model: a slot is filled, something is forgotten, an object is made anew or turns. Over any program. Conditions: none.
-/
import Derived.Test.YtdmiboplfgmgiaaW4
set_option linter.unusedVariables false
namespace Go.V
open Go.Ab Go.RowKit

/-- What has not been changed since is as it was. -/
structure Ext (f g : F) : Prop where
  ctr : f.ctr ≤ g.ctr
  fr : ∀ s n x, (s, n, x) ∈ g.fr → n < f.ctr → (s, n, x) ∈ f.fr
  ob : ∀ o n x, (o, n, x) ∈ g.ob → n < f.ctr → (o, n, x) ∈ f.ob
theorem Ext.refl (f : F) : Ext f f := ⟨Nat.le_refl _, fun _ _ _ h _ => h, fun _ _ _ h _ => h⟩
theorem Ext.trans {f g h : F} (a : Ext f g) (b : Ext g h) : Ext f h :=
  ⟨Nat.le_trans a.ctr b.ctr, fun s n x hm hn => a.fr s n x (b.fr s n x hm (Nat.lt_of_lt_of_le hn a.ctr)) hn, fun s n x hm hn => a.ob s n x (b.ob s n x hm (Nat.lt_of_lt_of_le hn a.ctr)) hn⟩
theorem Ext.put (f : F) (d : Option Nat) (x : S) : Ext f (f.put d x) := by
  cases d with
  | none => exact .refl _
  | some d =>
    refine ⟨Nat.le_succ _, fun s n y hm hn => ?_, fun _ _ _ h _ => h⟩
    simp only [F.put, List.mem_cons, List.mem_filter] at hm
    rcases hm with hm | hm
    · injection hm with _ hm; injection hm with e _; omega
    · exact hm.1

section
variable {M src : Nat → Prop} {c : Cx} {ow : Nat → Option Nat} {f g : F} {a : Act} {w : World}

/-- A slot is filled anew. -/
theorem SimC.put (h : SimC M src c ow f a w) {d : Nat} {x : S} {v : Value} (hd : d < a.tmps.size) (hx : RelS c ow w (okB src c ow f.ob) v x) : SimC M src c ow (f.put (some d) x) (a.put (some d) v) w := by
  refine ⟨h.defers, ?_, h.ob, h.uniq, h.rvs⟩
  intro s n y hm
  simp only [F.put, List.mem_cons, List.mem_filter] at hm
  rcases hm with hm | ⟨hm, hne⟩
  · injection hm with e1 hm
    injection hm with e2 e3
    subst e1 e2 e3
    exact ⟨v, by simp [Act.put, hd], hx⟩
  · obtain ⟨u, hu, h1⟩ := h.fr s n y hm
    have hne' : s ≠ d := by simpa using hne
    exact ⟨u, by simp only [Act.put]; rw [Array.getElem?_setIfInBounds_ne (Ne.symm hne')]; exact hu, h1⟩

/-- A weaker cell, a weaker object. -/
def C.le (c' c : C) : Prop := c' = c ∨ c' = .any
inductive O.le : O → O → Prop
  | box {cs' cs : List C} (h : All2 C.le cs' cs) : O.le (.box cs') (.box cs)
  | row {e k : Nat} {t : Ty} {l : List (den t)} {deep' deep : Bool} (h : deep' = true → deep = true) : O.le (.row e k t l deep') (.row e k t l deep)
  | win {k : Nat} {t : Ty} {l : List (den t)} : O.le (.win k t l) (.win k t l)
theorem O.le_refl (x : O) : x.le x := by
  cases x with
  | box cs =>
    refine .box ?_
    induction cs with
    | nil => exact .nil
    | cons t ts ih => exact .cons (.inl rfl) ih
  | row e k t l deep => exact .row id
  | win k t l => exact .win
theorem O.le.blk {x y : O} (h : x.le y) {o b : Nat} (hb : x.blk c ow o b) : y.blk c ow o b := by
  cases h with
  | box _ => exact hb
  | row _ => exact hb
  | win => exact hb

theorem SimC.weak (h : SimC M src c ow f a w) (hf : ∀ s n x, (s, n, x) ∈ g.fr → ∃ m, (s, m, x) ∈ f.fr) (ho : ∀ o n x, (o, n, x) ∈ g.ob → ∃ m y, (o, m, y) ∈ f.ob ∧ x.le y)
    (hu : ∀ o n x m y, (o, n, x) ∈ g.ob → (o, m, y) ∈ g.ob → x = y) : SimC M src c ow g a w := by
  have hlive : ∀ b, live c ow g.ob b → live c ow f.ob b := by
    rintro b ⟨o, n, y, hm, hy⟩
    obtain ⟨m, x, hx, hle⟩ := ho o n y hm
    exact ⟨o, m, x, hx, hle.blk hy⟩
  have kg : ∀ b, b < w.heap.size → okB src c ow f.ob b → okB src c ow g.ob b := fun b _ hb => ⟨hb.1, fun hl => hb.2 (hlive b hl)⟩
  refine ⟨h.defers, fun s n x hm => ?_, fun o n y hm => ?_, hu, h.rvs⟩
  · obtain ⟨m, hm'⟩ := hf s n x hm
    obtain ⟨v, hv, h1⟩ := h.fr s m x hm'
    exact ⟨v, hv, h1.good kg⟩
  · obtain ⟨m, x, hx, hle⟩ := ho o n y hm
    have hok := h.ob o m x hx
    cases hle with
    | box hall =>
      obtain ⟨b1, b2, vs, ty, b3, b4⟩ := hok
      exact ⟨b1, b2, vs, ty, b3, b4.comp hall fun u t t' hr ht => by
        rcases ht with rfl | rfl
        · exact RelC.good hr kg
        · trivial⟩
    | row hd =>
      obtain ⟨r0, r1, r2, xs, G, r3, r4, r5, r6⟩ := hok
      exact ⟨r0, r1, r2, xs, G, r3, r4, fun b hb => kg b (r4.lt b hb) (r5 b hb), fun hd' => r6 (hd hd')⟩
    | win => exact hok

theorem scrubC_le (d : Nat) (cs : List C) : All2 C.le (cs.map (scrubC d)) cs := by
  induction cs with
  | nil => exact .nil
  | cons t ts ih => exact .cons (by unfold scrubC; split <;> simp [C.le]) ih
theorem O.scrub_le (d : Nat) (x : O) : (x.scrub d).le x := by
  cases x with
  | box cs => exact .box (scrubC_le d cs)
  | row e k t l deep => exact .row id
  | win k t l => exact .win
theorem scrub_mem {d : Nat} {o n : Nat} {x : O} (h : (o, n, x) ∈ (f.scrub d).ob) : o ≠ d ∧ ∃ m y, (o, m, y) ∈ f.ob ∧ (x = y.scrub d ∨ (x = y ∧ y.names d = false ∧ n = m)) := by
  simp only [F.scrub, List.mem_map, List.mem_filter] at h
  obtain ⟨⟨o', m, y⟩, ⟨hm, hne⟩, he⟩ := h
  have hne' : o' ≠ d := by simpa using hne
  cases hn : y.names d with
  | true =>
    simp only [hn, if_true] at he
    injection he with e1 e2
    injection e2 with e2 e3
    subst e1 e3
    exact ⟨hne', m, y, hm, .inl rfl⟩
  | false =>
    simp only [hn] at he
    injection he with e1 e2
    injection e2 with e2 e3
    subst e1 e2 e3
    exact ⟨hne', m, y, hm, .inr ⟨rfl, hn, rfl⟩⟩
theorem O.scrub_self {x : O} {d : Nat} (h : x.names d = false) : x.scrub d = x := by
  cases x with
  | box cs =>
    simp only [O.names, List.any_eq_false] at h
    simp only [O.scrub]
    congr 1
    induction cs with
    | nil => rfl
    | cons c cs ih =>
      rw [List.map_cons, ih fun x hx => h x (List.mem_cons_of_mem _ hx)]
      simp [scrubC, h c (List.mem_cons_self ..)]
  | row _ _ _ _ _ => rfl
  | win _ _ _ => rfl
theorem scrub_mem' {d : Nat} {o n : Nat} {x : O} (h : (o, n, x) ∈ (f.scrub d).ob) : o ≠ d ∧ ∃ m y, (o, m, y) ∈ f.ob ∧ x = y.scrub d := by
  obtain ⟨h1, m, y, h2, h3⟩ := scrub_mem h
  refine ⟨h1, m, y, h2, ?_⟩
  rcases h3 with rfl | ⟨rfl, hn, _⟩
  · rfl
  · rw [O.scrub_self hn]
theorem O.scrub_names (x : O) (d : Nat) : (x.scrub d).names d = false := by
  cases x with
  | box cs =>
    simp only [O.scrub, O.names, List.any_eq_false, List.mem_map]
    rintro t ⟨u, _, rfl⟩
    unfold scrubC
    split
    · simp [C.names]
    · assumption
  | row _ _ _ _ _ => rfl
  | win _ _ _ => rfl
theorem SimC.scrub (h : SimC M src c ow f a w) (d : Nat) : SimC M src c ow (f.scrub d) a w := by
  refine h.weak (fun s n x hm => ⟨n, (List.mem_filter.1 hm).1⟩) (fun o n x hm => ?_) (fun o n x m y hx hy => ?_)
  · obtain ⟨_, m, y, hy, rfl⟩ := scrub_mem' hm
    exact ⟨m, y, hy, O.scrub_le d y⟩
  · obtain ⟨_, _, x', hx', rfl⟩ := scrub_mem' hx
    obtain ⟨_, _, y', hy', rfl⟩ := scrub_mem' hy
    rw [h.uniq _ _ _ _ _ hx' hy']
theorem Ext.scrub (f : F) (d : Nat) : Ext f (f.scrub d) := by
  refine ⟨Nat.le_succ _, fun s n x hm _ => (List.mem_filter.1 hm).1, fun o n x hm hn => ?_⟩
  simp only [F.scrub, List.mem_map, List.mem_filter] at hm
  obtain ⟨⟨o', m, y⟩, ⟨hm, _⟩, he⟩ := hm
  split at he
  · injection he with _ he; injection he with e _; omega
  · rw [← he]; exact hm

/-- Object d is named nowhere. -/
def F.free (f : F) (d : Nat) : Prop := (∀ s n x, (s, n, x) ∈ f.fr → x.names d = false) ∧ ∀ o n x, (o, n, x) ∈ f.ob → o ≠ d ∧ x.names d = false
theorem free_scrub (f : F) (d : Nat) : (f.scrub d).free d := by
  refine ⟨fun s n x h => ?_, fun o n x h => ?_⟩
  · have := (List.mem_filter.1 h).2
    simpa using this
  · obtain ⟨h1, m, y, _, rfl⟩ := scrub_mem' h
    exact ⟨h1, O.scrub_names y d⟩

/-- The context turns at an object that is named nowhere. -/
theorem SimC.recx {c' : Cx} {d : Nat} (h : SimC M src c ow f a w) (hf : f.free d) (k : c.but c' d) (hrv : ∀ r, ∃ ad n k, c'.rv r = .slice ad n k) : SimC M src c' ow f a w := by
  have hblk : ∀ o n x, (o, n, x) ∈ f.ob → ∀ b, x.blk c' ow o b ↔ x.blk c ow o b := by
    intro o n x hm b
    have hne := (hf.2 o n x hm).1
    cases x with
    | box cs => simp [O.blk, k.loc o hne]
    | row e kk t l deep => simp [O.blk, k.rv o hne]
    | win _ _ _ => exact Iff.rfl
  have hok : okB src c' ow f.ob = okB src c ow f.ob := by
    funext b
    apply propext
    constructor
    · rintro ⟨h1, h2⟩
      exact ⟨h1, fun ⟨o, n, x, hm, hx⟩ => h2 ⟨o, n, x, hm, (hblk o n x hm b).2 hx⟩⟩
    · rintro ⟨h1, h2⟩
      exact ⟨h1, fun ⟨o, n, x, hm, hx⟩ => h2 ⟨o, n, x, hm, (hblk o n x hm b).1 hx⟩⟩
  refine ⟨h.defers, fun s n x hm => ?_, fun o n x hm => ?_, h.uniq, hrv⟩
  · obtain ⟨v, hv, h1⟩ := h.fr s n x hm
    exact ⟨v, hv, by rw [hok]; exact h1.but (hf.1 s n x hm) k⟩
  · rw [hok]
    have ho := h.ob o n x hm
    obtain ⟨hne, hn⟩ := hf.2 o n x hm
    cases x with
    | box cs =>
      obtain ⟨b1, b2, vs, ty, b3, b4⟩ := ho
      simp only [O.names, List.any_eq_false] at hn
      exact ⟨by rw [k.loc o hne]; exact b1, by rw [k.loc o hne]; exact b2, vs, ty, by rw [k.loc o hne]; exact b3, b4.mono fun u t ht hr => hr.but (by simpa using hn t ht) k⟩
    | row e kk t l deep =>
      obtain ⟨r0, r1, r2, xs, G, r3, r4, r5, r6⟩ := ho
      exact ⟨r0, r1, by rw [k.rv o hne]; exact r2, xs, G, by rw [k.rv o hne]; exact r3, r4, r5, by rw [k.rv o hne]; exact r6⟩
    | win kk t l =>
      obtain ⟨r0, r1, G, r2, r3, r4⟩ := ho
      exact ⟨r0, r1, G, by rw [k.rv o hne]; exact r2, r3, r4⟩

/-- The one step of memory: blocks that may be written may turn; each object is an old one whose blocks have not turned, or is shown anew. -/
theorem SimC.step (h : SimC M src c ow f a w) (hsf : f.subFree) {w' : World} {ow' : Nat → Option Nat} {ob' : List (Nat × Nat × O)} {n' : Nat} (hs : w.heap.size ≤ w'.heap.size)
    (hb : ∀ b, b < w.heap.size → ¬ live c ow f.ob b → w'.heap[b]? = w.heap[b]?) (hl : ∀ b, b < w.heap.size → live c ow' ob' b → live c ow f.ob b)
    (hob : ∀ o n x, (o, n, x) ∈ ob' → ((∃ m, (o, m, x) ∈ f.ob) ∧ (∀ b, b < w.heap.size → ow b = some o → x.blk c ow o b → w'.heap[b]? = w.heap[b]?) ∧ ∀ b, b < w.heap.size → ow b = some o → ow' b = some o) ∨ ObOk M c ow' w' (okB src c ow' ob') o x)
    (hu : ∀ o n x m y, (o, n, x) ∈ ob' → (o, m, y) ∈ ob' → x = y) : SimC M src c ow' ⟨n', f.fr, ob'⟩ a w' := by
  have kp : Keeps w w' (okB src c ow f.ob) (okB src c ow' ob') := ⟨hs, fun b hlt hok => hb b hlt hok.2, fun b hlt hok => ⟨hok.1, fun h' => hok.2 (hl b hlt h')⟩⟩
  refine ⟨h.defers, fun s n x hm => ?_, fun o n x hm => ?_, hu, h.rvs⟩
  · obtain ⟨v, hv, h1⟩ := h.fr s n x hm
    exact ⟨v, hv, h1.keep (hsf.1 s n x hm) kp⟩
  · rcases hob o n x hm with ⟨⟨m, hm'⟩, hbl, how⟩ | hnew
    · exact (h.ob o m x hm').keep (hsf.2 o m x hm') kp hbl how
    · exact hnew
/-- Two objects do not share a block. -/
theorem SimC.apart (h : SimC M src c ow f a w) {o o' n n' : Nat} {x x' : O} (hx : (o, n, x) ∈ f.ob) (hx' : (o', n', x') ∈ f.ob) {b : Nat} (hb : x.blk c ow o b) (hb' : x'.blk c ow o' b) : o = o' := by
  have h1 := (h.ob o n x hx).own hb
  have h2 := (h.ob o' n' x' hx').own hb'
  rw [h1] at h2
  injection h2
/-- The world grows, and what was there stays. -/
theorem SimC.world {w' : World} (h : SimC M src c ow f a w) (hsf : f.subFree) (hs : w.heap.size ≤ w'.heap.size) (hb : ∀ b, b < w.heap.size → w'.heap[b]? = w.heap[b]?) : SimC M src c ow f a w' :=
  h.step hsf hs (fun b hlt _ => hb b hlt) (fun _ _ h => h) (fun o n x hm => .inl ⟨⟨n, hm⟩, fun b hlt _ _ => hb b hlt, fun _ _ h => h⟩) h.uniq

/-- A new object in new blocks. -/
theorem SimC.add (h : SimC M src c ow f a w) (hsf : f.subFree) {w' : World} {ow' : Nat → Option Nat} {d m n' : Nat} {x : O} (hf : ∀ o n y, (o, n, y) ∈ f.ob → o ≠ d) (hs : w.heap.size ≤ w'.heap.size) (hb : ∀ b, b < w.heap.size → w'.heap[b]? = w.heap[b]?)
    (ho : ∀ b, b < w.heap.size → ow' b = ow b) (hm : ∀ b, x.blk c ow' d b → w.heap.size ≤ b) (hx : ObOk M c ow' w' (okB src c ow' ((d, m, x) :: f.ob)) d x) :
    SimC M src c ow' ⟨n', f.fr, (d, m, x) :: f.ob⟩ a w' := by
  refine h.step hsf hs (fun b hlt _ => hb b hlt) (fun b hlt hl => ?_) (fun o n y hy => ?_) (fun o n y n2 z hy hz => ?_)
  · obtain ⟨o, n, y, hy, hyb⟩ := hl
    rcases List.mem_cons.1 hy with he | hy
    · injection he with e1 e2
      injection e2 with e2 e3
      subst e1 e3
      have := hm b hyb
      omega
    · refine ⟨o, n, y, hy, ?_⟩
      cases y with
      | box _ => exact hyb
      | row _ _ _ _ _ => exact hyb
      | win _ _ _ => show ow b = some o; rw [← ho b hlt]; exact hyb
  · rcases List.mem_cons.1 hy with he | hy
    · injection he with e1 e2
      injection e2 with e2 e3
      subst e1 e3
      exact .inr hx
    · exact .inl ⟨⟨n, hy⟩, fun b hlt _ _ => hb b hlt, fun b hlt hw => by rw [ho b hlt]; exact hw⟩
  · rcases List.mem_cons.1 hy with he | hy1
    · injection he with e1 e2
      injection e2 with _ e2
      rcases List.mem_cons.1 hz with he' | hz1
      · injection he' with e3 e4
        injection e4 with _ e4
        rw [e2, e4]
      · exact absurd e1 (hf _ _ _ hz1)
    · rcases List.mem_cons.1 hz with he' | hz1
      · injection he' with e3 e4
        exact absurd e3 (hf _ _ _ hy1)
      · exact h.uniq o n y n2 z hy1 hz1

theorem C.names_scrub (d : Nat) (c : C) : (scrubC d c).names d = false := by
  unfold scrubC
  split
  · rfl
  · rename_i h; simpa using h
theorem C.isSub_scrub {d : Nat} {c : C} (h : c.isSub = false) : (scrubC d c).isSub = false := by
  unfold scrubC
  split
  · rfl
  · exact h
theorem subFree_scrub (h : f.subFree) (d : Nat) : (f.scrub d).subFree := by
  refine ⟨fun s n x hm => h.1 s n x (List.mem_filter.1 hm).1, fun o n x hm => ?_⟩
  obtain ⟨_, m, y, hy, rfl⟩ := scrub_mem' hm
  have := h.2 o m y hy
  cases y with
  | box cs =>
    simp only [O.isSub, O.scrub, List.any_eq_false, List.mem_map] at this ⊢
    rintro t ⟨u, hu, rfl⟩
    have := C.isSub_scrub (d := d) (by simpa using this u hu)
    simp [this]
  | row _ _ _ _ _ => rfl
  | win _ _ _ => rfl
end

/-- The streams are as they were, and so is every block but those that may be written. -/
structure BelowM (M : Nat → Prop) (w w' : World) : Prop where
  os : w'.os = w.os
  tape : w'.tape = w.tape
  output : w'.output = w.output
  size : w.heap.size ≤ w'.heap.size
  block : ∀ k, k < w.heap.size → ¬ M k → w'.heap[k]? = w.heap[k]?
theorem BelowM.refl (M : Nat → Prop) (w : World) : BelowM M w w := ⟨rfl, rfl, rfl, Nat.le_refl _, fun _ _ _ => rfl⟩
theorem BelowM.trans {M : Nat → Prop} {a b c : World} (h : BelowM M a b) (k : BelowM M b c) : BelowM M a c :=
  ⟨k.os.trans h.os, k.tape.trans h.tape, k.output.trans h.output, Nat.le_trans h.size k.size, fun i hi hm => (k.block i (Nat.lt_of_lt_of_le hi h.size) hm).trans (h.block i hi hm)⟩
theorem BelowM.of_below {M : Nat → Prop} {w w' : World} (h : Below w.heap.size w w') : BelowM M w w' := ⟨h.os, h.tape, h.output, h.size, fun k hk _ => h.block k hk⟩
theorem BelowM.drew {M : Nat → Prop} {a w : World} (h : BelowM M a w) : BelowM M a w.drew := ⟨h.os, h.tape, h.output, h.size, h.block⟩

/-- What a walk of one body keeps fixed: the program, the frame's length, the world at the call, the blocks that may be written, the blocks that data may lie in, where the objects lie that the caller has given. -/
structure Ctx where
  P : Program
  n : Nat
  w0 : World
  M : Nat → Prop
  src : Nat → Prop
  c0 : Cx
  hM : ∀ b, w0.heap.size ≤ b → M b
  hsrc : ∀ b, M b → src b
def Pins (X : Ctx) (c : Cx) : Prop := ∀ o, pinned o = true → c.loc o = X.c0.loc o ∧ c.rv o = X.c0.rv o
def At (X : Ctx) (f : F) (a : Act) (w : World) : Prop := (∃ c ow, SimC X.M X.src c ow f a w ∧ Pins X c) ∧ BelowM X.M X.w0 w ∧ a.tmps.size = X.n
/-- What was there is there. -/
def Stays (w w' : World) : Prop := ∀ b, b < w.heap.size → w'.heap[b]? = w.heap[b]?
theorem Pins.loc {X : Ctx} {c : Cx} (h : Pins X c) {d : Nat} (hd : pinned d = false) (b : Nat) : Pins X (c.setLoc d b) := fun o ho => by
  have hne : o ≠ d := by rintro rfl; rw [hd] at ho; cases ho
  simp only [Cx.setLoc, if_neg hne]
  exact h o ho
theorem Pins.rv {X : Ctx} {c : Cx} (h : Pins X c) {d : Nat} (hd : pinned d = false) (v : Value) : Pins X (c.setRv d v) := fun o ho => by
  have hne : o ≠ d := by rintro rfl; rw [hd] at ho; cases ho
  simp only [Cx.setRv, if_neg hne]
  exact h o ho
theorem size_put (a : Act) (d : Option Nat) (v : Value) : (a.put d v).tmps.size = a.tmps.size := by cases d <;> simp [Act.put]
theorem inFrame_lt {n d : Nat} (h : inFrame n (some d) = true) : d < n := by simpa [inFrame] using h
theorem At.put {X : Ctx} {f : F} {a : Act} {w : World} (h : At X f a w) {c : Cx} {ow : Nat → Option Nat} (hs : SimC X.M X.src c ow f a w) (hp : Pins X c) {d : Option Nat} {x : S} {v : Value} (hd : inFrame X.n d = true) (hx : RelS c ow w (okB X.src c ow f.ob) v x) : At X (f.put d x) (a.put d v) w := by
  obtain ⟨_, hb, hn⟩ := h
  refine ⟨⟨c, ow, ?_, hp⟩, hb, (size_put a d v).trans hn⟩
  cases d with
  | none => exact hs
  | some d => exact hs.put (by rw [hn]; exact inFrame_lt hd) hx
end Go.V
