/-
  From a walk of a body on abstract frames to the function's contract. Over any program. Conditions: none beyond the walk.
-/
import Derived.Test.YtdmiboplfgmgiaaAbA
namespace Go.Ab
open Go.RowKit

def resOne (P : Program) (st : St) : ResultVar → Option AV
  | .tmp t =>
    match st.look t with
    | some (none, .val x) => some x
    | _ => none
  | .cell t ty =>
    match st.look t with
    | some (none, .val (.one (.ptr i off))) =>
      match st.box i with
      | some cs => rdCells P ty off cs
      | none => none
    | _ => none
def resOf (P : Program) (st : St) : List ResultVar → Option (List AV)
  | [] => some []
  | r :: rs =>
    match resOne P st r, resOf P st rs with
    | some x, some xs => some (x :: xs)
    | _, _ => none
def sinkVs (st : St) : List AV → Option (List AV)
  | [] => some []
  | x :: xs =>
    match sinkV st x, sinkVs st xs with
    | some y, some ys => some (y :: ys)
    | _, _ => none
def initFr : Nat → List AV → List (Nat × Option Bool × Slot)
  | _, [] => []
  | i, x :: xs => (i, none, .val x) :: initFr (i + 1) xs
def initSt (xs : List AV) : St := ⟨initFr 0 xs, []⟩

/-- A result, as the model reads it. -/
def rvSem (tmps : Array Value) : ResultVar → Sem Value
  | .tmp t => pure (tmps.getD t undef)
  | .cell ad t => do loadVar t (← asAddr (tmps.getD ad undef))
theorem results_eq (fn : Func) (tmps : Array Value) : results fn tmps = (do let vs ← fn.results.mapM (rvSem tmps); pure (if h : vs.size = 1 then vs[0] else .tuple vs)) := by
  have : (rvSem tmps) = (fun | .tmp t => pure (tmps.getD t undef) | .cell a t => do loadVar t (← asAddr (tmps.getD a undef))) := by
    funext r; cases r <;> rfl
  rw [this]
  rfl

section
variable {B : Nat} {src : Nat → Prop} {c : Cx} {ow : Nat → Option Nat} {st : St} {a : Act} {w : World} {P : Program}

theorem initFr_get : ∀ (i : Nat) (xs : List AV) (s : Nat) (g : Option Bool) (x : Slot), (s, g, x) ∈ initFr i xs → ∃ j y, s = i + j ∧ g = none ∧ x = .val y ∧ xs[j]? = some y
  | i, [], s, g, x, h => by cases h
  | i, y :: ys, s, g, x, h => by
    rcases List.mem_cons.1 h with he | h
    · injection he with e1 he
      injection he with e2 e3
      exact ⟨0, y, e1, e2, e3, rfl⟩
    · obtain ⟨j, z, h1, h2, h3, h4⟩ := initFr_get (i + 1) ys s g x h
      exact ⟨j + 1, z, by omega, h2, h3, by simpa using h4⟩

theorem init_sim {vs : List Value} {xs : List AV} {F : List Nat} (h : RepVs w vs xs F) (n : Nat) : Sim w.heap.size (fun b => b ∈ F ∨ w.heap.size ≤ b) (initSt xs) { tmps := vs.toArray ++ Array.replicate (n - vs.toArray.size) undef, defers := [] } w := by
  refine ⟨⟨fun _ => 0, fun _ => .slice none 0 0⟩, fun _ => none, rfl, Nat.le_refl _, ?_, (fun _ _ h => by cases h), (fun _ _ _ h => by cases h), fun _ => ⟨_, _, _, rfl⟩⟩
  intro s g x hm
  obtain ⟨j, y, rfl, rfl, rfl, hy⟩ := initFr_get 0 xs s g x hm
  have hall : All2 (RelV ⟨fun _ => 0, fun _ => .slice none 0 0⟩ w (okB (fun b => b ∈ F ∨ w.heap.size ≤ b) ⟨fun _ => 0, fun _ => .slice none 0 0⟩ (initSt xs).ob)) vs xs :=
    RelVs_of_rep h fun b hb => ⟨.inl hb, fun ⟨_, _, hm, _⟩ => by cases hm⟩
  obtain ⟨v, hv, hr⟩ := hall.get hy
  have hlt : j < vs.length := (List.getElem?_eq_some_iff.1 hv).1
  refine ⟨v, ?_, fun _ => hr, fun h => by cases h⟩
  rw [Nat.zero_add, Array.getElem?_append_left (by simpa using hlt)]
  simpa using hv

theorem resOne_sound (h : SimC B src c ow st a w) {r : ResultVar} {x : AV} (hr : resOne P st r = some x) :
    ∃ v, RelV c w (okB src c st.ob) v x ∧ (rvSem a.tmps r).run P w = .ok v w := by
  cases r with
  | tmp t =>
    simp only [resOne] at hr
    split at hr
    · rename_i x' hl
      injection hr with hr
      subst hr
      obtain ⟨v, hv, h1, _⟩ := h.fr t _ _ (look_mem hl)
      exact ⟨v, h1 rfl, by simp [rvSem, Array.getD_eq_getD_getElem?, hv]⟩
    · cases hr
  | cell t ty =>
    simp only [resOne] at hr
    split at hr
    · rename_i i off hl
      split at hr
      · rename_i cs hb
        obtain ⟨u, hu, h1, _⟩ := h.fr t _ _ (look_mem hl)
        have hu' : u = .pointer (some ⟨c.loc i, off, none⟩) := h1 rfl
        subst hu'
        have hbx : BoxOk B c ow w (okB src c st.ob) i cs := h.ob _ _ (box_mem hb)
        obtain ⟨_, _, vs, tt, hh, ha⟩ := hbx
        obtain ⟨v, hr', hl'⟩ := rdCells_sound hr ha
        have h2 := hl' w (c.loc i) 0 (cells_of_block hh)
        rw [Nat.zero_add] at h2
        refine ⟨v, hr', ?_⟩
        simp [rvSem, Array.getD_eq_getD_getElem?, hu, asAddr, h2]
      · cases hr
    · cases hr

theorem resOf_sound (h : SimC B src c ow st a w) : ∀ {rs : List ResultVar} {xs : List AV}, resOf P st rs = some xs → ∃ vs : List Value, All2 (RelV c w (okB src c st.ob)) vs xs ∧
    (rs.mapM (rvSem a.tmps)).run P w = .ok vs w := by
  intro rs
  induction rs with
  | nil => intro xs hr; injection hr with hr; subst hr; exact ⟨[], .nil, rfl⟩
  | cons r rs ih =>
    intro xs hr
    unfold resOf at hr
    split at hr
    · rename_i x xs' h1 h2
      injection hr with hr
      subst hr
      obtain ⟨v, g1, g2⟩ := resOne_sound (P := P) h h1
      obtain ⟨vs, g3, g4⟩ := ih h2
      refine ⟨v :: vs, .cons g1 g3, ?_⟩
      simp only [List.mapM_cons, Sem.run_bind, g2, Result.andThen_ok, g4]
      rfl
    · cases hr

theorem results_sound (h : SimC B src c ow st a w) {fn : Func} {xs : List AV} (hr : resOf P st fn.results.toList = some xs) : ∃ v vs, (results fn a.tmps).run P w = .ok v w ∧ ResIs v vs ∧ All2 (RelV c w (okB src c st.ob)) vs xs := by
  obtain ⟨vs, h1, h2⟩ := resOf_sound (P := P) h hr
  have he : fn.results = fn.results.toList.toArray := by simp
  have h3 : (results fn a.tmps).run P w = .ok (if h : vs.toArray.size = 1 then vs.toArray[0] else .tuple vs.toArray) w := by
    rw [results_eq, he, List.mapM_toArray]
    simp only [Sem.run_bind, map_eq_pure_bind, bind_assoc, pure_bind, h2, Result.andThen_ok]
    rfl
  refine ⟨_, vs, h3, ?_, h1⟩
  match vs with
  | [] => rfl
  | [v] => rfl
  | v :: u :: r => simp [ResIs]

theorem sinkVs_sound (h : SimC B src c ow st a w) : ∀ {xs ys : List AV} {vs : List Value}, sinkVs st xs = some ys → All2 (RelV c w (okB src c st.ob)) vs xs → ∃ F, RepVs w vs ys F ∧ ∀ b ∈ F, src b ∨ B ≤ b := by
  intro xs
  induction xs with
  | nil => intro ys vs hs hv; injection hs with hs; subst hs; cases hv; exact ⟨[], .nil, by simp⟩
  | cons x xs ih =>
    intro ys vs hs hv
    unfold sinkVs at hs
    split at hs
    · rename_i y ys' h1 h2
      injection hs with hs
      subst hs
      cases hv with
      | cons hr hrs =>
        obtain ⟨F, g1, g2⟩ := sinkV_sound h h1 hr
        obtain ⟨G, g3, g4⟩ := ih h2 hrs
        exact ⟨F ++ G, .cons g1 g3, fun b hb => (List.mem_append.1 hb).elim (g2 b) (g4 b)⟩
    · cases hs

theorem RepVs.length {vs : List Value} {xs : List AV} {F : List Nat} (h : RepVs w vs xs F) : vs.length = xs.length := by
  induction h with
  | nil => rfl
  | cons _ _ ih => simp [ih]

/-- A body has come to its end with the data 'outs'. -/
def EndsWith (P : Program) (fn : Func) (outs : List AV) (e : Exit) (st : St) : Prop := (e = .ret ∨ e = .normal) ∧ ∃ ys, resOf P st fn.results.toList = some ys ∧ sinkVs st ys = some outs

theorem meets_data {f : FuncId} {fn : Func} {cd : Code} {args outs : List AV} (hf : P.funcs[f]? = some fn) (hb : fn.body = some cd) (hn : (fn.name == "runtime.NumGoroutine") = false) (hl : args.length ≤ fn.ntmps)
    (h : ∀ X : Ctx, X.P = P → X.n = fn.ntmps → aw X cd (EndsWith P fn outs) (initSt args)) : MeetsAt P f args outs none := by
  refine ⟨enters_of hf hn (by rw [hb]; rfl), fun w vs F hr => ?_⟩
  refine calls_of_wp hf hb ?_
  let X : Ctx := ⟨P, fn.ntmps, w, w.heap.size, fun b => b ∈ F ∨ w.heap.size ≤ b, fun b h => .inr h⟩
  have hlen : vs.length = args.length := hr.length
  have hat : At X (initSt args) { tmps := vs.toArray ++ Array.replicate (fn.ntmps - vs.toArray.size) undef, defers := [] } w :=
    ⟨init_sim hr fn.ntmps, Below.refl _ _, by simp; show _ = fn.ntmps; omega⟩
  refine Code.wp_mono ?_ (h X rfl rfl _ w hat)
  rintro e a w' ⟨st', ⟨he, ys, hy1, hy2⟩, ⟨c, ow, hsim⟩, hbel, _⟩
  obtain ⟨v, us, hrun, hres, hall⟩ := results_sound (P := P) hsim hy1
  obtain ⟨G, g1, g2⟩ := sinkVs_sound hsim hy2 hall
  have hpost : bodyPost P fn (fun e w' => ∃ v us G, e = .returned v ∧ ResIs v us ∧ Below w.heap.size w w' ∧ (RepVs w' us outs G ∧ ∀ b ∈ G, b ∈ F ∨ w.heap.size ≤ b)) e a w' := by
    have : a.defers = [] ∧ ∃ v, (results fn a.tmps).run P w' = .ok v w' ∧ ∃ v' us G, Ending.returned v = .returned v' ∧ ResIs v' us ∧ Below w.heap.size w w' ∧ (RepVs w' us outs G ∧ ∀ b ∈ G, b ∈ F ∨ w.heap.size ≤ b) :=
      ⟨hsim.defers, v, hrun, v, us, G, rfl, hres, hbel, g1, fun b hb => (g2 b hb).elim id .inr⟩
    rcases he with rfl | rfl
    · exact this
    · exact this
  exact hpost

/-- A body has come to its end with the data 'outs', in memory of its own. -/
def EndsFresh (P : Program) (fn : Func) (outs : List AV) (ekss : List (List (Nat × Nat))) (e : Exit) (st : St) : Prop := (e = .ret ∨ e = .normal) ∧ ∃ ys ids, resOf P st fn.results.toList = some ys ∧ frVs st ekss ys = some (outs, ids) ∧ nodupB ids = true

theorem meets_fresh {f : FuncId} {fn : Func} {cd : Code} {args outs : List AV} {ekss : List (List (Nat × Nat))} (hf : P.funcs[f]? = some fn) (hb : fn.body = some cd) (hn : (fn.name == "runtime.NumGoroutine") = false) (hl : args.length ≤ fn.ntmps)
    (h : ∀ X : Ctx, X.P = P → X.n = fn.ntmps → aw X cd (EndsFresh P fn outs ekss) (initSt args)) : MeetsAt P f args outs (some ekss) := by
  refine ⟨enters_of hf hn (by rw [hb]; rfl), fun w vs F hr => ?_⟩
  refine calls_of_wp hf hb ?_
  let X : Ctx := ⟨P, fn.ntmps, w, w.heap.size, fun b => b ∈ F ∨ w.heap.size ≤ b, fun b h => .inr h⟩
  have hlen : vs.length = args.length := hr.length
  have hat : At X (initSt args) { tmps := vs.toArray ++ Array.replicate (fn.ntmps - vs.toArray.size) undef, defers := [] } w :=
    ⟨init_sim hr fn.ntmps, Below.refl _ _, by simp; show _ = fn.ntmps; omega⟩
  refine Code.wp_mono ?_ (h X rfl rfl _ w hat)
  rintro e a w' ⟨st', ⟨he, ys, ids, hy1, hy2, hy3⟩, ⟨c, ow, hsim⟩, hbel, _⟩
  obtain ⟨v, us, hrun, hres, hall⟩ := results_sound (P := P) hsim hy1
  obtain ⟨G, g1, g2, g3⟩ := frVs_sound hsim hy2 hall (nodupB_sound hy3)
  have hpost : bodyPost P fn (fun e w' => ∃ v us G, e = .returned v ∧ ResIs v us ∧ Below w.heap.size w w' ∧ (OwnVs w' w.heap.size ekss us outs G ∧ G.Nodup ∧ ∀ b ∈ G, w.heap.size ≤ b ∧ Unf w' b)) e a w' := by
    have : a.defers = [] ∧ ∃ v, (results fn a.tmps).run P w' = .ok v w' ∧ ∃ v' us G, Ending.returned v = .returned v' ∧ ResIs v' us ∧ Below w.heap.size w w' ∧ (OwnVs w' w.heap.size ekss us outs G ∧ G.Nodup ∧ ∀ b ∈ G, w.heap.size ≤ b ∧ Unf w' b) :=
      ⟨hsim.defers, v, hrun, v, us, G, rfl, hres, hbel, g1, g2, fun b hb => ⟨(g3 b hb).1, (g3 b hb).2.1⟩⟩
    rcases he with rfl | rfl
    · exact this
    · exact this
  exact hpost
end
end Go.Ab
