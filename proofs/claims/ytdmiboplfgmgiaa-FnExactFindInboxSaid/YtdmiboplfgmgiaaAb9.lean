/-
  Variables in memory: a box is made, a box is written, on abstract frames. Over any program. Conditions: the obligations that the abstract operation lists.
-/
import Derived.Test.YtdmiboplfgmgiaaAb8
namespace Go.Ab
open Go.RowKit

def T.solid : T → Bool
  | .any => false
  | _ => true
def zT : Value → T
  | .int k n => if plain (.int k n) then .lit (.int k n) else .any
  | .bool b => .lit (.bool b)
  | .string s => if plain (.string s) then .lit (.string s) else .any
  | .slice none 0 0 => .nil
  | _ => .any
def AV.cells : AV → List T
  | .one t => [t]
  | .agg ts => ts
/-- A list with a part written anew. -/
def sp {α : Type} (L : List α) (off : Nat) (cs : List α) : List α := L.take off ++ cs ++ L.drop (off + cs.length)
def setBox (o off : Nat) (ts : List T) (l : List (Nat × LO)) : List (Nat × LO) :=
  l.map fun e => if e.1 = o then (e.1, match e.2 with | .box cs => .box (sp cs off ts) | x => x) else e

/-- A new box at id d, its address in slot d. -/
def St.newBox (st : St) (d : Nat) (cs : List T) : St :=
  let s := st.scrub d
  (⟨s.fr, (d, .box cs) :: s.ob⟩ : St).put (some d) none (.val (.one (.ptr d 0)))

section
variable {B : Nat} {src : Nat → Prop} {c : Cx} {ow : Nat → Option Nat} {st : St} {a : Act} {w : World} {P : Program} {o : Oper}

theorem zT_sound {ok : Nat → Prop} (v : Value) : RelT c w ok v (zT v) := by
  unfold zT
  split
  · split
    · exact ⟨rfl, ‹_›⟩
    · trivial
  · exact ⟨rfl, rfl⟩
  · split
    · exact ⟨rfl, ‹_›⟩
    · trivial
  · rfl
  · trivial
theorem zTs_sound {ok : Nat → Prop} (vs : List Value) : All2 (RelT c w ok) vs (vs.map zT) := by
  induction vs with
  | nil => exact .nil
  | cons v vs ih => exact .cons (zT_sound v) ih
theorem zT_names (d : Nat) (v : Value) : (zT v).names d = false := by
  unfold zT
  repeat' split
  all_goals rfl

theorem solid_cell (hrv : ∀ r, ∃ ad n k, c.rv r = .slice ad n k) {ok : Nat → Prop} {t : T} {v : Value} (h : RelT c w ok v t) (hs : t.solid = true) : v.oneCell' = true ∧ v.cells = #[v] := by
  cases t with
  | lit u => obtain ⟨rfl, hp⟩ := h; cases v <;> simp [plain] at hp <;> exact ⟨rfl, rfl⟩
  | sl es => obtain ⟨F, hr, _⟩ := h; cases hr <;> exact ⟨rfl, rfl⟩
  | nil => have : v = .slice none 0 0 := h; subst this; exact ⟨rfl, rfl⟩
  | row r => have : v = c.rv r := h; subst this; obtain ⟨ad, n, k, he⟩ := hrv r; rw [he]; exact ⟨rfl, rfl⟩
  | ptr _ _ => have : v = _ := h; subst this; exact ⟨rfl, rfl⟩
  | ep _ _ => obtain ⟨b, base, rfl, _⟩ := h; exact ⟨rfl, rfl⟩
  | rp _ _ _ _ => obtain ⟨g, n, cap, _, rfl⟩ := h; exact ⟨rfl, rfl⟩
  | any => cases hs
theorem solid_cells (hrv : ∀ r, ∃ ad n k, c.rv r = .slice ad n k) {ok : Nat → Prop} {x : AV} {v : Value} (h : RelV c w ok v x) (hs : x.cells.all T.solid = true) :
    ∃ vs : List Value, v.cells = vs.toArray ∧ All2 (RelT c w ok) vs x.cells ∧ ∀ u ∈ vs, u.oneCell' = true := by
  cases x with
  | one t =>
    simp only [AV.cells, List.all_cons, List.all_nil, Bool.and_true] at hs
    have h1 := solid_cell hrv h hs
    exact ⟨[v], h1.2, .cons h .nil, by simpa using h1.1⟩
  | agg ts =>
    obtain ⟨vs, rfl, ha⟩ := h
    refine ⟨vs, rfl, ha, ?_⟩
    have hs' : ts.all T.solid = true := hs
    clear hs
    induction ha with
    | nil => simp
    | cons hr hrs ih =>
      simp only [List.all_cons, Bool.and_eq_true] at hs'
      intro u hu
      rcases List.mem_cons.1 hu with rfl | hu
      · exact (solid_cell hrv hr hs'.1).1
      · exact ih hs'.2 u hu

theorem okB_but {c' : Cx} {d : Nat} (hf : ∀ o x, (o, x) ∈ st.ob → o ≠ d) (k : c.but c' d) : okB src c' st.ob = okB src c st.ob := by
  have hmain : ∀ o x, (o, x) ∈ st.ob → x.main c' o = x.main c o := by
    intro o x hm
    have hne := hf o x hm
    cases x with
    | box cs => simp [LO.main, k.loc o hne]
    | row e kk es deep => simp [LO.main, k.rv o hne]
  funext b
  apply propext
  constructor
  · rintro ⟨h1, h2⟩
    exact ⟨h1, fun ⟨o, x, hm, hx⟩ => h2 ⟨o, x, hm, by rw [hmain o x hm]; exact hx⟩⟩
  · rintro ⟨h1, h2⟩
    exact ⟨h1, fun ⟨o, x, hm, hx⟩ => h2 ⟨o, x, hm, by rw [← hmain o x hm]; exact hx⟩⟩

theorem All2.scrub {ok : Nat → Prop} {vs : List Value} {cs : List T} (h : All2 (RelT c w ok) vs cs) (d : Nat) : All2 (RelT c w ok) vs (cs.map (scrubT d)) := by
  induction h with
  | nil => exact .nil
  | cons hr hrs ih =>
    refine .cons ?_ ih
    unfold scrubT
    split
    · trivial
    · exact hr
theorem scrubT_names (d : Nat) (t : T) : (scrubT d t).names d = false := by
  unfold scrubT
  split
  · rfl
  · rename_i h; simpa using h

theorem Rel_scrub {st : St} {v : Value} {t : T} {d : Nat} (h : RelT c w (okB src c st.ob) v t) (hsub : ∀ b, live c (st.scrub d).ob b → live c st.ob b) : RelT c w (okB src c (st.scrub d).ob) v t :=
  h.keep ⟨Nat.le_refl _, fun _ _ _ => rfl, fun b _ hb => ⟨hb.1, fun hl => hb.2 (hsub b hl)⟩⟩
theorem live_scrub {st : St} {d b : Nat} (h : live c (st.scrub d).ob b) : live c st.ob b := by
  obtain ⟨o, x, hm, hx⟩ := h
  simp only [St.scrub, St.weak, List.mem_filterMap, Option.map_eq_some_iff] at hm
  obtain ⟨⟨o', y⟩, hy, z, hz, he⟩ := hm
  injection he with e1 e2
  subst e1 e2
  refine ⟨o', y, hy, ?_⟩
  cases y with
  | box cs =>
    simp only [scrubOb] at hz
    split at hz
    · cases hz
    · injection hz with hz; subst hz; exact hx
  | row e k es deep =>
    simp only [scrubOb] at hz
    split at hz
    · cases hz
    · injection hz with hz; subst hz; exact hx

/-- The model lays a new variable: the abstract one does. -/
theorem newBox_sound (h : SimC B src c ow st a w) {d : Nat} (hd : d < a.tmps.size) {vs : List Value} {cs : List T} (ty : TypeId) (hv : All2 (RelT c w (okB src c st.ob)) vs cs) :
    Sim B src (st.newBox d (cs.map (scrubT d))) (a.put (some d) (.pointer (some ⟨w.heap.size, 0, none⟩))) (w.alloc (.cells vs.toArray ty (0, 0))) := by
  have h1 := h.scrub d
  have hv1 : All2 (RelT c w (okB src c (st.scrub d).ob)) vs (cs.map (scrubT d)) := (hv.scrub d).mono fun u t _ hr => Rel_scrub hr fun b => live_scrub
  have h2 := h1.newBox d (free_scrub st d) h.base ty hv1 (fun t ht => by obtain ⟨u, _, rfl⟩ := List.mem_map.1 ht; exact scrubT_names d u)
  exact ⟨_, _, h2.put (v := .pointer (some ⟨w.heap.size, 0, none⟩)) hd (fun _ => by simp [RelS, RelV, RelT, Cx.setLoc]) (fun h => by cases h)⟩

theorem run_newVar {t : TypeId} {v : Value} (w : World) : (newVar t v).run P w = .ok ⟨w.heap.size, 0, none⟩ (w.alloc (.cells v.cells t (0, 0))) := by
  simp [newVar, newRow]

/-! ### a box is written -/
theorem mem_setBox {i off : Nat} {ts : List T} {l : List (Nat × LO)} {o' : Nat} {x : LO} (h : (o', x) ∈ setBox i off ts l) : (o' ≠ i ∧ (o', x) ∈ l) ∨ (o' = i ∧ ∃ y, (i, y) ∈ l ∧ x = match y with | .box cs => .box (sp cs off ts) | z => z) := by
  simp only [setBox, List.mem_map] at h
  obtain ⟨⟨o1, y⟩, hy, he⟩ := h
  split at he
  · rename_i h1
    simp only at h1
    injection he with e1 e2
    subst e1 h1
    exact .inr ⟨rfl, y, hy, e2.symm⟩
  · rename_i h1
    injection he with e1 e2
    subst e1 e2
    exact .inl ⟨h1, hy⟩
theorem main_upd (y : LO) (off : Nat) (ts : List T) (i : Nat) : (match y with | .box cs => LO.box (sp cs off ts) | z => z).main c i = y.main c i := by
  cases y <;> rfl
theorem live_setBox {i off : Nat} {ts : List T} {l : List (Nat × LO)} {b : Nat} (h : live c (setBox i off ts l) b) : live c l b := by
  obtain ⟨o', x, hm, hx⟩ := h
  rcases mem_setBox hm with ⟨_, hm⟩ | ⟨rfl, y, hy, rfl⟩
  · exact ⟨o', x, hm, hx⟩
  · exact ⟨o', y, hy, by rw [main_upd] at hx; exact hx⟩

theorem All2.sp {α β : Type} {R : α → β → Prop} {as as' : List α} {bs bs' : List β} (h : All2 R as bs) (h' : All2 R as' bs') (off : Nat) : All2 R (sp as off as') (sp bs off bs') := by
  unfold Go.Ab.sp
  rw [h'.length]
  exact ((h.take off).append h').append (h.drop _)

theorem storeBox_sound (h : SimC B src c ow st a w) {i off : Nat} {cs ts : List T} {us : List Value} (hb : (i, .box cs) ∈ st.ob) (hle : off + ts.length ≤ cs.length) (hu : All2 (RelT c w (okB src c st.ob)) us ts) (h1 : ∀ u ∈ us, u.oneCell' = true) :
    ∃ w', (storeCells ⟨c.loc i, off, none⟩ us).run P w = .ok () w' ∧ SimC B src c ow ⟨st.fr, setBox i off ts st.ob⟩ a w' ∧ (∀ b, b ≠ c.loc i → w'.heap[b]? = w.heap[b]?) ∧ w'.heap.size = w.heap.size ∧ w'.os = w.os ∧ w'.tape = w.tape ∧ w'.output = w.output ∧ B ≤ c.loc i := by
  have hbx := h.ob _ _ hb
  have hlt := BoxOk.lt hbx
  obtain ⟨b1, b2, vs, ty, hh, ha⟩ := hbx
  have hlen : us.length = ts.length := hu.length
  have hvl : vs.length = cs.length := ha.length
  have hrun := run_storeCells_at (P := P) (c.loc i) off ty us 0 vs.toArray w hh (by simp; omega) h1
  simp only [Nat.add_zero] at hrun
  have hother : ∀ b, b ≠ c.loc i → (w.setRow (c.loc i) (vs.take off ++ us ++ vs.drop (off + us.length)).toArray).heap[b]? = w.heap[b]? := by
    intro b hne
    simp only [World.setRow, Array.getElem?_modify]
    rw [if_neg (Ne.symm hne)]
  have hsz : (w.setRow (c.loc i) (vs.take off ++ us ++ vs.drop (off + us.length)).toArray).heap.size = w.heap.size := by simp [World.setRow]
  refine ⟨_, hrun, ?_, hother, hsz, rfl, rfl, rfl, b1⟩
  have hlive : live c st.ob (c.loc i) := ⟨i, _, hb, rfl⟩
  have hbk : ∀ b, b < w.heap.size → ¬ live c st.ob b → (w.setRow (c.loc i) (vs.take off ++ us ++ vs.drop (off + us.length)).toArray).heap[b]? = w.heap[b]? := fun b _ hnl => hother b fun e => hnl (e ▸ hlive)
  have kp := keeps_of (src := src) (c := c) (st := st) (w := w) (w' := w.setRow (c.loc i) (vs.take off ++ us ++ vs.drop (off + us.length)).toArray) (ob' := setBox i off ts st.ob) (by omega) hbk (fun b _ hl => live_setBox hl)
  refine h.step (by omega) hbk (fun b _ hl => live_setBox hl) (fun o' x hx => ?_) (fun o' x y hx hy => ?_)
  · rcases mem_setBox hx with ⟨hne, hm⟩ | ⟨rfl, y, hy, rfl⟩
    · refine .inl ⟨hm, fun b hbb => hother b fun e => ?_, fun _ _ h => h⟩
      exact hne (h.apart hm hb hbb (by rw [e]; rfl))
    · have := h.uniq _ _ _ hy hb
      subst this
      refine .inr ⟨b1, b2, _, ty, setRow_heap w _ _ _ ty _ hh, ?_⟩
      have := ha.sp hu off
      unfold sp at this ⊢
      exact this.mono fun u t _ hr => hr.keep kp
  · rcases mem_setBox hx with ⟨hne, hm⟩ | ⟨e1, y1, hy1, rfl⟩
    · rcases mem_setBox hy with ⟨_, hm'⟩ | ⟨e2, _⟩
      · exact h.uniq _ _ _ hm hm'
      · exact absurd e2 hne
    · rcases mem_setBox hy with ⟨hne, _⟩ | ⟨_, y2, hy2, rfl⟩
      · exact absurd e1 hne
      · have := h.uniq _ _ _ hy1 hy2
        subst this
        rfl
end
end Go.Ab
