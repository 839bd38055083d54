/-
  Contracts of functions on abstract data, and a call of a function by its contract. Over any program. Conditions: the obligations that the abstract operation lists.
-/
import Derived.Test.YtdmiboplfgmgiaaAb6
namespace Go.Ab
open Go.RowKit

def RepV (w : World) (v : Value) : AV → List Nat → Prop
  | .one t, F => Rep w v t F
  | .agg ts, F => ∃ vs : List Value, v = .agg vs.toArray ∧ RepL w vs ts F
inductive RepVs (w : World) : List Value → List AV → List Nat → Prop
  | nil : RepVs w [] [] []
  | cons {v : Value} {x : AV} {F : List Nat} {vs : List Value} {xs : List AV} {G : List Nat} (h : RepV w v x F) (hs : RepVs w vs xs G) : RepVs w (v :: vs) (x :: xs) (F ++ G)

/-- A slice in memory of its own: element type and width (e, k). -/
def OwnT (w : World) (B : Nat) (ek : Nat × Nat) (v : Value) : T → List Nat → Prop
  | .lit u, F => v = u ∧ plain u = true ∧ F = []
  | .sl es, F => ∃ xs G, 0 < ek.2 ∧ (∀ x ∈ es, x.length = ek.2) ∧ w.ownsRow B ek.1 ek.2 v es.length xs ∧ RepL w xs es.flatten G ∧ F = v.ownBlock.toList ++ G
  | _, _ => False
inductive OwnL (w : World) (B : Nat) : List (Nat × Nat) → List Value → List T → List Nat → Prop
  | nil : OwnL w B [] [] [] []
  | cons {ek : Nat × Nat} {eks : List (Nat × Nat)} {v : Value} {t : T} {F : List Nat} {vs : List Value} {ts : List T} {G : List Nat} (h : OwnT w B ek v t F) (hs : OwnL w B eks vs ts G) : OwnL w B (ek :: eks) (v :: vs) (t :: ts) (F ++ G)
def OwnV (w : World) (B : Nat) (eks : List (Nat × Nat)) (v : Value) : AV → List Nat → Prop
  | .one t, F => ∃ ek, eks = [ek] ∧ OwnT w B ek v t F
  | .agg ts, F => ∃ vs : List Value, v = .agg vs.toArray ∧ OwnL w B eks vs ts F
inductive OwnVs (w : World) (B : Nat) : List (List (Nat × Nat)) → List Value → List AV → List Nat → Prop
  | nil : OwnVs w B [] [] [] []
  | cons {eks : List (Nat × Nat)} {ekss : List (List (Nat × Nat))} {v : Value} {x : AV} {F : List Nat} {vs : List Value} {xs : List AV} {G : List Nat} (h : OwnV w B eks v x F) (hs : OwnVs w B ekss vs xs G) :
      OwnVs w B (eks :: ekss) (v :: vs) (x :: xs) (F ++ G)

/-- One result is the value itself; none or several are a tuple. -/
def ResIs (v : Value) : List Value → Prop
  | [u] => v = u
  | us => v = .tuple us.toArray

/-- Function f, called with the data 'args', returns the data 'outs', and turns nothing that was there. fr = none: the results lie in new memory or in the arguments'; fr = some ..: in new memory of their own. -/
def Enters (P : Program) (f : FuncId) : Prop := ∀ (args : Array Value) (w : World), (callFunc f args).run P w = .ok (.enter f args) w
theorem enters_of {P : Program} {f : FuncId} {fn : Func} (hf : P.funcs[f]? = some fn) (hn : (fn.name == "runtime.NumGoroutine") = false) (hb : fn.body.isNone = false) : Enters P f := by
  intro args w
  have h1 : fn.name ≠ "runtime.NumGoroutine" := by simpa using hn
  have h2 : fn.body ≠ none := by intro h; rw [h] at hb; cases hb
  simp [callFunc, hf, h1, h2]
def MeetsAt (P : Program) (f : FuncId) (args outs : List AV) (fr : Option (List (List (Nat × Nat)))) : Prop :=
  Enters P f ∧ ∀ (w : World) (vs : List Value) (F : List Nat), RepVs w vs args F → Calls P f vs.toArray w fun e w' => ∃ v us G, e = .returned v ∧ ResIs v us ∧ Below w.heap.size w w' ∧
    (match fr with
     | none => RepVs w' us outs G ∧ ∀ b ∈ G, b ∈ F ∨ w.heap.size ≤ b
     | some ekss => OwnVs w' w.heap.size ekss us outs G ∧ G.Nodup ∧ ∀ b ∈ G, w.heap.size ≤ b ∧ Unf w' b)

/-! ### arguments -/
/-- The data behind a leaf of the frame. -/
def sinkT (st : St) : T → Option T
  | .lit v => some (.lit v)
  | .sl es => some (.sl es)
  | .nil => some (.sl [])
  | .row r => (st.row r).map fun x => .sl x.2.2.1
  | _ => none
def sinkL (st : St) : List T → Option (List T)
  | [] => some []
  | t :: ts =>
    match sinkT st t, sinkL st ts with
    | some t', some ts' => some (t' :: ts')
    | _, _ => none
def sinkV (st : St) : AV → Option AV
  | .one t => (sinkT st t).map .one
  | .agg ts => (sinkL st ts).map .agg
def St.getV (st : St) (x : Operand) : Option (AV × List Prop) :=
  match st.get x with
  | some (g, .val y) =>
    match sinkV st y with
    | some z => some (z, flagOb g)
    | none => none
  | _ => none
def getVs (st : St) : List Operand → Option (List AV × List Prop)
  | [] => some ([], [])
  | x :: xs =>
    match st.getV x, getVs st xs with
    | some (y, o), some (ys, os) => some (y :: ys, o ++ os)
    | _, _ => none

section
variable {B : Nat} {src : Nat → Prop} {c : Cx} {ow : Nat → Option Nat} {st : St} {a : Act} {w : World} {P : Program} {o : Oper}

theorem Rep_of_owns {e k : Nat} {v : Value} {es : List (List T)} {xs : List Value} {F : List Nat} {B : Nat} (h : w.ownsRow B e k v es.length xs) (hk0 : 0 < k) (hk : ∀ x ∈ es, x.length = k) (hr : RepL w xs es.flatten F) :
    ∃ G, Rep w v (.sl es) G ∧ ∀ b ∈ G, v.ownBlock = some b ∨ b ∈ F := by
  obtain ⟨hl, h2⟩ := h
  rcases h2 with ⟨rfl, h0⟩ | ⟨g, cap, cur, rfl, hB, hh, h1, h2, h3, h4⟩
  · have : es = [] := List.length_eq_zero_iff.1 h0
    subst this
    exact ⟨[], .nil (Nat.zero_le _), by simp⟩
  · rcases Nat.eq_zero_or_pos es.length with h0 | h0
    · have : es = [] := List.length_eq_zero_iff.1 h0
      subst this
      exact ⟨[], .nil h2, by simp⟩
    · refine ⟨g :: F, .cons rfl h0 hk0 hk h1 h2 hl (fun j u hu => ?_) hr, fun b hb => ?_⟩
      · rw [Nat.zero_add]
        rw [← h4, List.getElem?_take] at hu
        split at hu
        · simp only [World.cell?, hh]
          simpa using hu
        · cases hu
      · rcases List.mem_cons.1 hb with rfl | hb
        · exact .inl rfl
        · exact .inr hb

theorem sinkT_sound (h : SimC B src c ow st a w) {t t' : T} {v : Value} (hs : sinkT st t = some t') (hv : RelT c w (okB src c st.ob) v t) : ∃ F, Rep w v t' F ∧ ∀ b ∈ F, src b ∨ B ≤ b := by
  cases t with
  | lit u => injection hs with hs; subst hs; obtain ⟨rfl, hp⟩ := hv; exact ⟨[], .lit hp, by simp⟩
  | sl es => injection hs with hs; subst hs; obtain ⟨F, hr, hF⟩ := hv; exact ⟨F, hr, fun b hb => .inl (hF b hb).1⟩
  | nil => injection hs with hs; subst hs; have : v = .slice none 0 0 := hv; subst this; exact ⟨[], .nil (Nat.zero_le _), by simp⟩
  | row r =>
    obtain ⟨⟨e, k, es, deep⟩, hr, rfl⟩ := Option.map_eq_some_iff.1 hs
    have : v = c.rv r := hv
    subst this
    obtain ⟨r0, r1, r2, xs, F, r3, r4, r5, r6⟩ := h.ob _ _ (row_mem hr)
    obtain ⟨G, g1, g2⟩ := Rep_of_owns r3 r0 r1 r4
    refine ⟨G, g1, fun b hb => ?_⟩
    rcases g2 b hb with hb | hb
    · exact .inr (ownsRow_lt r3 hb).2
    · exact .inl (r5 b hb).1
  | ptr _ _ => cases hs
  | ep _ _ => cases hs
  | rp _ _ _ _ => cases hs
  | any => cases hs
theorem sinkL_sound (h : SimC B src c ow st a w) {ts ts' : List T} {vs : List Value} (hs : sinkL st ts = some ts') (hv : All2 (RelT c w (okB src c st.ob)) vs ts) : ∃ F, RepL w vs ts' F ∧ ∀ b ∈ F, src b ∨ B ≤ b := by
  induction hv generalizing ts' with
  | nil => injection hs with hs; subst hs; exact ⟨[], .nil, by simp⟩
  | cons hr hrs ih =>
    unfold sinkL at hs
    split at hs
    · rename_i t' ts'' h1 h2
      injection hs with hs
      subst hs
      obtain ⟨F, g1, g2⟩ := sinkT_sound h h1 hr
      obtain ⟨G, g3, g4⟩ := ih h2
      exact ⟨F ++ G, .cons g1 g3, fun b hb => (List.mem_append.1 hb).elim (g2 b) (g4 b)⟩
    · cases hs
theorem sinkV_sound (h : SimC B src c ow st a w) {x x' : AV} {v : Value} (hs : sinkV st x = some x') (hv : RelV c w (okB src c st.ob) v x) : ∃ F, RepV w v x' F ∧ ∀ b ∈ F, src b ∨ B ≤ b := by
  cases x with
  | one t => obtain ⟨t', ht, rfl⟩ := Option.map_eq_some_iff.1 hs; exact sinkT_sound h ht hv
  | agg ts =>
    obtain ⟨ts', ht, rfl⟩ := Option.map_eq_some_iff.1 hs
    obtain ⟨vs, rfl, ha⟩ := hv
    obtain ⟨F, g1, g2⟩ := sinkL_sound h ht ha
    exact ⟨F, ⟨vs, rfl, g1⟩, g2⟩
theorem getV_sound (h : SimC B src c ow st a w) {x : Operand} {y : AV} {os : List Prop} (hg : st.getV x = some (y, os)) (ho : Ob os) : ∃ F, RepV w (a.eval x) y F ∧ ∀ b ∈ F, src b ∨ B ≤ b := by
  unfold St.getV at hg
  split at hg
  · rename_i g y' hg'
    split at hg
    · rename_i z hz
      injection hg with hg
      injection hg with e1 e2
      subst e1 e2
      exact sinkV_sound h hz (h.getOn hg' ho)
    · cases hg
  · cases hg
theorem getVs_sound (h : SimC B src c ow st a w) {xs : List Operand} {ys : List AV} {os : List Prop} (hg : getVs st xs = some (ys, os)) (ho : Ob os) : ∃ F, RepVs w (xs.map a.eval) ys F ∧ ∀ b ∈ F, src b ∨ B ≤ b := by
  induction xs generalizing ys os with
  | nil => injection hg with hg; injection hg with e1 e2; subst e1 e2; exact ⟨[], .nil, by simp⟩
  | cons x xs ih =>
    unfold getVs at hg
    split at hg
    · rename_i y o1 ys' os' h1 h2
      injection hg with hg
      injection hg with e1 e2
      subst e1 e2
      obtain ⟨p1, p2⟩ := Ob_append ho
      obtain ⟨F, g1, g2⟩ := getV_sound h h1 p1
      obtain ⟨G, g3, g4⟩ := ih h2 p2
      exact ⟨F ++ G, .cons g1 g3, fun b hb => (List.mem_append.1 hb).elim (g2 b) (g4 b)⟩
    · cases hg
end
end Go.Ab
