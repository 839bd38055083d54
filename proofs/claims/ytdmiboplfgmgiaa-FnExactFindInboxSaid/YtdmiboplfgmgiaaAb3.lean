/-
  How an abstract frame is carried over the steps of the model: a slot is filled, something is forgotten, the world grows, a box is made or written. Over any program. Conditions: none.
-/
import Derived.Test.YtdmiboplfgmgiaaAb2
namespace Go.Ab
open Go.RowKit

section
variable {B : Nat} {src : Nat → Prop} {c : Cx} {ow : Nat → Option Nat} {st : St} {a : Act} {w : World}

/-- A slot is filled anew. -/
def putFr (fr : List (Nat × Option Bool × Slot)) (d : Nat) (g : Option Bool) (x : Slot) : List (Nat × Option Bool × Slot) := (d, g, x) :: fr.filter fun e => e.1 != d
def St.put (st : St) (d : Option Nat) (g : Option Bool) (x : Slot) : St :=
  match d with
  | some d => { st with fr := putFr st.fr d g x }
  | none => st

theorem SimC.put (h : SimC B src c ow st a w) {d : Nat} {g : Option Bool} {x : Slot} {v : Value} (hd : d < a.tmps.size) (hx : on g = true → RelS c w (okB src c st.ob) v x) (hv : on g = false → v = undef) :
    SimC B src c ow (st.put (some d) g x) (a.put (some d) v) w := by
  refine ⟨h.defers, h.base, ?_, h.ob, h.uniq, h.rvs⟩
  intro s g' x' hm
  simp only [St.put, putFr, List.mem_cons, List.mem_filter] at hm
  rcases hm with hm | ⟨hm, hne⟩
  · injection hm with e1 hm
    injection hm with e2 e3
    subst e1 e2 e3
    exact ⟨v, by simp [Act.put, hd], hx, hv⟩
  · obtain ⟨u, hu, h1, h2⟩ := h.fr s g' x' hm
    have hne' : s ≠ d := by simpa using hne
    exact ⟨u, by simp only [Act.put]; rw [Array.getElem?_setIfInBounds_ne (Ne.symm hne')]; exact hu, h1, h2⟩

/-- A slot that is not spoken of is filled. -/
theorem SimC.putNone (h : SimC B src c ow st a w) (v : Value) : SimC B src c ow st (a.put none v) w := h

/-- The world has turned, and what the state speaks of has not. -/
theorem SimC.world {w' : World} {ow' : Nat → Option Nat} (h : SimC B src c ow st a w) (hs : w.heap.size ≤ w'.heap.size) (hb : ∀ b, b < w.heap.size → w'.heap[b]? = w.heap[b]?) (ho : ∀ b o, b < w.heap.size → ow b = some o → ow' b = some o) :
    SimC B src c ow' st a w' := by
  have kp : Keeps w w' (okB src c st.ob) (okB src c st.ob) := ⟨hs, fun b hl _ => hb b hl, fun _ _ h => h⟩
  refine ⟨h.defers, Nat.le_trans h.base hs, fun s g x hm => ?_, fun o x hm => ?_, h.uniq, h.rvs⟩
  · obtain ⟨v, hv, h1, h2⟩ := h.fr s g x hm
    exact ⟨v, hv, fun hg => (h1 hg).keep kp, h2⟩
  · have := h.ob o x hm
    cases x with
    | box cs => exact BoxOk.keep this kp (hb _ (BoxOk.lt this)) (fun b => ho b o)
    | row e k es deep =>
      refine RowOk.keep this kp (fun g hg => ?_) (fun b => ho b o)
      obtain ⟨_, _, _, xs, F, h3, _⟩ := this
      exact hb g (ownsRow_lt h3 hg).1
theorem SimC.below {w' : World} (h : SimC B src c ow st a w) (hb : Below w.heap.size w w') : SimC B src c ow st a w' := h.world hb.size hb.block (fun _ _ _ h => h)

/-- A weaker object: a box some of whose cells are no longer spoken of; a row that may no longer be written, or whose elements are no longer its own. -/
def LO.le : LO → LO → Prop
  | .box cs', .box cs => All2 (fun t' t => t' = t ∨ t' = .any) cs' cs
  | .row e' k' es' deep', .row e k es deep => e' = e ∧ k' = k ∧ es' = es ∧ (deep' = true → deep = true)
  | _, _ => False

def St.weak (st : St) (p : Nat × Option Bool × Slot → Bool) (f : Nat → LO → Option LO) : St :=
  ⟨st.fr.filter p, st.ob.filterMap fun x => (f x.1 x.2).map fun y => (x.1, y)⟩

theorem All2.comp {α β γ : Type} {R : α → β → Prop} {S : γ → β → Prop} {Q : α → γ → Prop} {as : List α} {bs : List β} {cs : List γ} (h : All2 R as bs) (h' : All2 S cs bs) (hq : ∀ a b c, R a b → S c b → Q a c) : All2 Q as cs := by
  induction h generalizing cs with
  | nil => cases h'; exact .nil
  | cons h hs ih => cases h' with | cons h1 h2 => exact .cons (hq _ _ _ h h1) (ih h2)

theorem SimC.weak (h : SimC B src c ow st a w) (p : Nat × Option Bool × Slot → Bool) (f : Nat → LO → Option LO) (hf : ∀ o x y, (o, x) ∈ st.ob → f o x = some y → y.le x) : SimC B src c ow (st.weak p f) a w := by
  have hmem : ∀ o y, (o, y) ∈ (st.weak p f).ob → ∃ x, (o, x) ∈ st.ob ∧ f o x = some y ∧ y.le x := by
    intro o y hm
    simp only [St.weak, List.mem_filterMap, Option.map_eq_some_iff] at hm
    obtain ⟨⟨o', x⟩, hx, z, hz, he⟩ := hm
    injection he with e1 e2
    subst e1 e2
    exact ⟨x, hx, hz, hf o' x z hx hz⟩
  have hlive : ∀ b, live c (st.weak p f).ob b → live c st.ob b := by
    rintro b ⟨o, y, hm, hy⟩
    obtain ⟨x, hx, _, hle⟩ := hmem o y hm
    refine ⟨o, x, hx, ?_⟩
    cases y with
    | box cs' =>
      cases x with
      | box cs => exact hy
      | row e k es deep => exact hle.elim
    | row e' k' es' deep' =>
      cases x with
      | box cs => exact hle.elim
      | row e k es deep =>
        exact hy
  have kp : Keeps w w (okB src c st.ob) (okB src c (st.weak p f).ob) := ⟨Nat.le_refl _, fun _ _ _ => rfl, fun b _ hb => ⟨hb.1, fun hl => hb.2 (hlive b hl)⟩⟩
  refine ⟨h.defers, h.base, fun s g x hm => ?_, fun o y hm => ?_, fun o x y hx hy => ?_, h.rvs⟩
  · obtain ⟨v, hv, h1, h2⟩ := h.fr s g x (List.mem_filter.1 hm).1
    exact ⟨v, hv, fun hg => (h1 hg).keep kp, h2⟩
  · obtain ⟨x, hx, _, hle⟩ := hmem o y hm
    have hok := h.ob o x hx
    cases y with
    | box cs' =>
      cases x with
      | box cs =>
        obtain ⟨b1, b2, vs, ty, b3, b4⟩ := BoxOk.keep hok kp rfl (fun _ _ h => h)
        exact ⟨b1, b2, vs, ty, b3, b4.comp hle fun u t t' hr ht => by
          rcases ht with rfl | rfl
          · exact hr
          · trivial⟩
      | row e k es deep => exact hle.elim
    | row e' k' es' deep' =>
      cases x with
      | box cs => exact hle.elim
      | row e k es deep =>
        obtain ⟨rfl, rfl, rfl, h5⟩ := hle
        obtain ⟨r0, r1, r2, xs, F, r3, r4, r5, r6⟩ := RowOk.keep hok kp (fun _ _ => rfl) (fun _ _ h => h)
        exact ⟨r0, r1, r2, xs, F, r3, r4, r5, fun hd => r6 (h5 hd)⟩
  · obtain ⟨z, hz, e1, _⟩ := hmem o x hx
    obtain ⟨z', hz', e2, _⟩ := hmem o y hy
    have := h.uniq o z z' hz hz'
    subst this
    rw [e1] at e2
    injection e2

/-- Forget all that names object d. -/
def scrubT (d : Nat) (t : T) : T := if t.names d then .any else t
def scrubOb (d : Nat) (o : Nat) : LO → Option LO
  | .box cs => if o = d then none else some (.box (cs.map (scrubT d)))
  | x => if o = d then none else some x
def St.scrub (st : St) (d : Nat) : St := st.weak (fun e => !e.2.2.names d) (scrubOb d)

theorem le_scrub (d : Nat) (cs : List T) : All2 (fun t' t => t' = t ∨ t' = .any) (cs.map (scrubT d)) cs := by
  induction cs with
  | nil => exact .nil
  | cons t ts ih => exact .cons (by unfold scrubT; split <;> simp) ih
theorem LO.le_refl (x : LO) : x.le x := by
  cases x with
  | box cs =>
    show All2 _ cs cs
    induction cs with
    | nil => exact .nil
    | cons t ts ih => exact .cons (.inl rfl) ih
  | row e k es deep => exact ⟨rfl, rfl, rfl, id⟩

theorem SimC.scrub (h : SimC B src c ow st a w) (d : Nat) : SimC B src c ow (st.scrub d) a w := by
  refine h.weak _ _ fun o x y hm hf => ?_
  cases x with
  | box cs =>
    simp only [scrubOb] at hf
    split at hf
    · cases hf
    · injection hf with hf; subst hf; exact le_scrub d cs
  | row e k es deep =>
    simp only [scrubOb] at hf
    split at hf
    · cases hf
    · injection hf with hf; subst hf; exact LO.le_refl _

theorem scrub_fr {d : Nat} {s : Nat} {g : Option Bool} {x : Slot} (h : (s, g, x) ∈ (st.scrub d).fr) : x.names d = false := by
  simp only [St.scrub, St.weak, List.mem_filter] at h
  simpa using h.2
theorem scrub_ob {d o : Nat} {x : LO} (h : (o, x) ∈ (st.scrub d).ob) : o ≠ d ∧ ∀ cs, x = .box cs → ∀ t ∈ cs, t.names d = false := by
  simp only [St.scrub, St.weak, List.mem_filterMap, Option.map_eq_some_iff] at h
  obtain ⟨⟨o', y⟩, hy, z, hz, he⟩ := h
  injection he with e1 e2
  subst e1 e2
  cases y with
  | box cs =>
    simp only [scrubOb] at hz
    split at hz
    · cases hz
    · rename_i hne
      injection hz with hz
      subst hz
      refine ⟨hne, fun cs' he t ht => ?_⟩
      injection he with he
      subst he
      obtain ⟨u, _, rfl⟩ := List.mem_map.1 ht
      unfold scrubT
      split
      · rfl
      · rename_i hh; simpa using hh
  | row e k es deep =>
    simp only [scrubOb] at hz
    split at hz
    · cases hz
    · rename_i hne
      injection hz with hz
      subst hz
      exact ⟨hne, fun cs he => by cases he⟩

/-- Object d is named nowhere. -/
def St.free (st : St) (d : Nat) : Prop := (∀ s g x, (s, g, x) ∈ st.fr → x.names d = false) ∧ ∀ o x, (o, x) ∈ st.ob → o ≠ d ∧ ∀ cs, x = .box cs → ∀ t ∈ cs, t.names d = false
theorem free_scrub (st : St) (d : Nat) : (st.scrub d).free d := ⟨fun _ _ _ h => scrub_fr h, fun _ _ h => scrub_ob h⟩

/-- The context turns at an object that is named nowhere. -/
theorem SimC.recx {c' : Cx} {d : Nat} (h : SimC B src c ow st a w) (hf : st.free d) (k : c.but c' d) (hrv : ∀ r, ∃ ad n k, c'.rv r = .slice ad n k) : SimC B src c' ow st a w := by
  have hmain : ∀ o x, (o, x) ∈ st.ob → x.main c' o = x.main c o := by
    intro o x hm
    have hne := (hf.2 o x hm).1
    cases x with
    | box cs => simp [LO.main, k.loc o hne]
    | row e kk es deep => simp [LO.main, k.rv o hne]
  have hok : okB src c' st.ob = okB src c st.ob := by
    funext b
    apply propext
    constructor
    · rintro ⟨h1, h2⟩
      exact ⟨h1, fun ⟨o, x, hm, hx⟩ => h2 ⟨o, x, hm, by rw [hmain o x hm]; exact hx⟩⟩
    · rintro ⟨h1, h2⟩
      exact ⟨h1, fun ⟨o, x, hm, hx⟩ => h2 ⟨o, x, hm, by rw [← hmain o x hm]; exact hx⟩⟩
  refine ⟨h.defers, h.base, fun s g x hm => ?_, fun o x hm => ?_, h.uniq, hrv⟩
  · obtain ⟨v, hv, h1, h2⟩ := h.fr s g x hm
    exact ⟨v, hv, fun hg => by rw [hok]; exact (h1 hg).but (hf.1 s g x hm) k, h2⟩
  · rw [hok]
    have ho := h.ob o x hm
    obtain ⟨hne, hn⟩ := hf.2 o x hm
    cases x with
    | box cs =>
      obtain ⟨b1, b2, vs, ty, b3, b4⟩ := ho
      refine ⟨by rw [k.loc o hne]; exact b1, by rw [k.loc o hne]; exact b2, vs, ty, by rw [k.loc o hne]; exact b3, b4.mono fun u t ht hr => hr.but (hn cs rfl t ht) k⟩
    | row e kk es deep =>
      obtain ⟨r0, r1, r2, xs, F, r3, r4, r5, r6⟩ := ho
      exact ⟨r0, r1, by rw [k.rv o hne]; exact r2, xs, F, by rw [k.rv o hne]; exact r3, r4, r5, by rw [k.rv o hne]; exact r6⟩

/-- The blocks of an object itself. -/
def LO.blk (c : Cx) (o : Nat) : LO → Option Nat
  | .box _ => some (c.loc o)
  | .row _ _ _ _ => (c.rv o).ownBlock

theorem ObOk.blk {ok : Nat → Prop} {o : Nat} {x : LO} (h : ObOk B c ow w ok o x) {b : Nat} (hb : x.blk c o = some b) : b < w.heap.size ∧ ow b = some o := by
  cases x with
  | box cs => simp [LO.blk] at hb; subst hb; exact ⟨BoxOk.lt h, h.2.1⟩
  | row e k es deep => obtain ⟨r0, r1, r2, xs, F, r3, _⟩ := h; exact ⟨(ownsRow_lt r3 hb).1, r2 b hb⟩
theorem LO.blk_of_main {o : Nat} {x : LO} {b : Nat} (h : x.main c o = some b) : x.blk c o = some b := by
  cases x with
  | box cs => exact h
  | row e k es deep => exact h

/-- The one step of memory: blocks that are live may turn; each object is an old one whose blocks have not turned, or is shown anew. -/
theorem SimC.step (h : SimC B src c ow st a w) {w' : World} {ow' : Nat → Option Nat} {ob' : List (Nat × LO)} (hs : w.heap.size ≤ w'.heap.size)
    (hb : ∀ b, b < w.heap.size → ¬ live c st.ob b → w'.heap[b]? = w.heap[b]?) (hl : ∀ b, b < w.heap.size → live c ob' b → live c st.ob b)
    (hob : ∀ o x, (o, x) ∈ ob' → ((o, x) ∈ st.ob ∧ (∀ b, x.blk c o = some b → w'.heap[b]? = w.heap[b]?) ∧ ∀ b, b < w.heap.size → ow b = some o → ow' b = some o) ∨ ObOk B c ow' w' (okB src c ob') o x)
    (hu : ∀ o x y, (o, x) ∈ ob' → (o, y) ∈ ob' → x = y) : SimC B src c ow' ⟨st.fr, ob'⟩ a w' := by
  have kp : Keeps w w' (okB src c st.ob) (okB src c ob') := ⟨hs, fun b hlt hok => hb b hlt hok.2, fun b hlt hok => ⟨hok.1, fun h' => hok.2 (hl b hlt h')⟩⟩
  refine ⟨h.defers, Nat.le_trans h.base hs, fun s g x hm => ?_, fun o x hm => ?_, hu, h.rvs⟩
  · obtain ⟨v, hv, h1, h2⟩ := h.fr s g x hm
    exact ⟨v, hv, fun hg => (h1 hg).keep kp, h2⟩
  · rcases hob o x hm with ⟨hm', hbl, how⟩ | hnew
    · have ho := h.ob o x hm'
      cases x with
      | box cs => exact BoxOk.keep ho kp (hbl _ rfl) how
      | row e k es deep => exact RowOk.keep ho kp hbl how
    · exact hnew
theorem keeps_of {w' : World} {ob' : List (Nat × LO)} (hs : w.heap.size ≤ w'.heap.size) (hb : ∀ b, b < w.heap.size → ¬ live c st.ob b → w'.heap[b]? = w.heap[b]?)
    (hl : ∀ b, b < w.heap.size → live c ob' b → live c st.ob b) : Keeps w w' (okB src c st.ob) (okB src c ob') :=
  ⟨hs, fun b hlt hok => hb b hlt hok.2, fun b hlt hok => ⟨hok.1, fun h' => hok.2 (hl b hlt h')⟩⟩

/-- Two live objects do not share a block. -/
theorem SimC.apart (h : SimC B src c ow st a w) {o o' : Nat} {x x' : LO} (hx : (o, x) ∈ st.ob) (hx' : (o', x') ∈ st.ob) {b : Nat} (hb : x.blk c o = some b) (hb' : x'.blk c o' = some b) : o = o' := by
  have h1 := ((h.ob o x hx).blk hb).2
  have h2 := ((h.ob o' x' hx').blk hb').2
  rw [h1] at h2
  injection h2

/-- A new object in new blocks. -/
theorem SimC.add (h : SimC B src c ow st a w) {w' : World} {ow' : Nat → Option Nat} {d : Nat} {x : LO} (hf : ∀ o y, (o, y) ∈ st.ob → o ≠ d) (hs : w.heap.size ≤ w'.heap.size) (hb : ∀ b, b < w.heap.size → w'.heap[b]? = w.heap[b]?)
    (ho : ∀ b, b < w.heap.size → ow' b = ow b) (hm : ∀ b, x.main c d = some b → w.heap.size ≤ b) (hx : ObOk B c ow' w' (okB src c ((d, x) :: st.ob)) d x) :
    SimC B src c ow' ⟨st.fr, (d, x) :: st.ob⟩ a w' := by
  refine h.step hs (fun b hlt _ => hb b hlt) (fun b hlt hl => ?_) (fun o y hy => ?_) (fun o y z hy hz => ?_)
  · obtain ⟨o, y, hy, hyb⟩ := hl
    rcases List.mem_cons.1 hy with he | hy
    · injection he with e1 e2
      subst e1 e2
      have := hm b hyb
      omega
    · exact ⟨o, y, hy, hyb⟩
  · rcases List.mem_cons.1 hy with he | hy
    · injection he with e1 e2
      subst e1 e2
      exact .inr hx
    · exact .inl ⟨hy, fun b hbb => hb b ((h.ob o y hy).blk hbb).1, fun b hlt hw => by rw [ho b hlt]; exact hw⟩
  · rcases List.mem_cons.1 hy with he | hy1
    · injection he with e1 e2
      rcases List.mem_cons.1 hz with he' | hz1
      · injection he' with e3 e4
        rw [e2, e4]
      · exact absurd e1 (hf _ _ hz1)
    · rcases List.mem_cons.1 hz with he' | hz1
      · injection he' with e3 e4
        exact absurd e3 (hf _ _ hy1)
      · exact h.uniq o y z hy1 hz1

/-- A new box. -/
theorem SimC.newBox (h : SimC B src c ow st a w) (d : Nat) (hf : st.free d) (hd : B ≤ w.heap.size) {vs : List Value} {cs : List T} (ty : TypeId) (hv : All2 (RelT c w (okB src c st.ob)) vs cs) (hn : ∀ t ∈ cs, t.names d = false) :
    SimC B src (c.setLoc d w.heap.size) (fun b => if b = w.heap.size then some d else ow b) ⟨st.fr, (d, .box cs) :: st.ob⟩ a (w.alloc (.cells vs.toArray ty (0, 0))) := by
  have h' := h.recx hf (c.but_loc d w.heap.size) h.rvs
  have hloc : (c.setLoc d w.heap.size).loc d = w.heap.size := by simp [Cx.setLoc]
  have hsz : (w.alloc (.cells vs.toArray ty (0, 0))).heap.size = w.heap.size + 1 := by simp
  have hblk : ∀ b, b < w.heap.size → (w.alloc (.cells vs.toArray ty (0, 0))).heap[b]? = w.heap[b]? := fun b hb => Below.heap_alloc _ _ _ hb
  refine h'.add (fun o y hy => (hf.2 o y hy).1) (by omega) hblk (fun b hb => by rw [if_neg (by omega)]) (fun b hb => by simp [LO.main, hloc] at hb; omega) ?_
  have hl : ∀ b, b < w.heap.size → live (c.setLoc d w.heap.size) ((d, .box cs) :: st.ob) b → live (c.setLoc d w.heap.size) st.ob b := by
    rintro b hb ⟨o, y, hy, hyb⟩
    rcases List.mem_cons.1 hy with he | hy
    · injection he with e1 e2
      subst e1 e2
      simp [LO.main, hloc] at hyb
      omega
    · exact ⟨o, y, hy, hyb⟩
  have kp := keeps_of (src := src) (c := c.setLoc d w.heap.size) (st := st) (w := w) (w' := w.alloc (.cells vs.toArray ty (0, 0))) (ob' := (d, .box cs) :: st.ob) (by omega) (fun b hb _ => hblk b hb) hl
  have hok : okB src (c.setLoc d w.heap.size) st.ob = okB src c st.ob := by
    funext b
    apply propext
    have hmain : ∀ o x, (o, x) ∈ st.ob → x.main (c.setLoc d w.heap.size) o = x.main c o := by
      intro o x hm
      have hne := (hf.2 o x hm).1
      cases x with
      | box cs => simp [LO.main, Cx.setLoc, hne]
      | row e kk es deep => simp [LO.main, Cx.setLoc]
    constructor
    · rintro ⟨h1, h2⟩
      exact ⟨h1, fun ⟨o, x, hm, hx⟩ => h2 ⟨o, x, hm, by rw [hmain o x hm]; exact hx⟩⟩
    · rintro ⟨h1, h2⟩
      exact ⟨h1, fun ⟨o, x, hm, hx⟩ => h2 ⟨o, x, hm, by rw [← hmain o x hm]; exact hx⟩⟩
  refine ⟨by rw [hloc]; exact hd, by rw [hloc]; simp, vs, ty, by rw [hloc]; exact heap_alloc_new w _, hv.mono fun u t ht hr => ?_⟩
  have h2 := hr.but (hn t ht) (c.but_loc d w.heap.size)
  rw [← hok] at h2
  exact h2.keep kp

end
end Go.Ab
