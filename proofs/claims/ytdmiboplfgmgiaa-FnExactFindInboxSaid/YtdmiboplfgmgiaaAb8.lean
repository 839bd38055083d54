/-
  A call of a function by its contract, on abstract frames. Over any program. Conditions: the obligations that the abstract operation lists.
-/
import Derived.Test.YtdmiboplfgmgiaaAb7
namespace Go.Ab
open Go.RowKit

def T.isSl : T → Bool
  | .sl _ => true
  | _ => false
def AV.hasSl : AV → Bool
  | .one t => t.isSl
  | .agg ts => ts.any T.isSl
/-- A leaf that is no handle. -/
def T.still : T → Bool
  | .lit _ => true
  | .sl _ => true
  | .nil => true
  | _ => false
def AV.still : AV → Bool
  | .one t => t.still
  | .agg ts => ts.all T.still
def argStill (st : St) (x : Operand) : Bool :=
  match st.get x with
  | some (_, .val y) => y.still
  | _ => false

def resSlot : List AV → Slot
  | [x] => .val x
  | xs => .tup xs

section
variable {B : Nat} {src : Nat → Prop} {c : Cx} {ow : Nat → Option Nat} {st : St} {a : Act} {w : World} {P : Program} {o : Oper}

theorem sinkT_still {t t' : T} {v : Value} {ok : Nat → Prop} (hs : sinkT st t = some t') (hq : t.still = true) (hv : RelT c w ok v t) : ∃ F, Rep w v t' F ∧ ∀ b ∈ F, ok b := by
  cases t with
  | lit u => injection hs with hs; subst hs; obtain ⟨rfl, hp⟩ := hv; exact ⟨[], .lit hp, by simp⟩
  | sl es => injection hs with hs; subst hs; exact hv
  | nil => injection hs with hs; subst hs; have : v = .slice none 0 0 := hv; subst this; exact ⟨[], .nil (Nat.zero_le _), by simp⟩
  | row r => cases hq
  | ptr _ _ => cases hq
  | ep _ _ => cases hq
  | rp _ _ _ _ => cases hq
  | any => cases hq
theorem sinkL_still {ts ts' : List T} {vs : List Value} {ok : Nat → Prop} (hs : sinkL st ts = some ts') (hq : ts.all T.still = true) (hv : All2 (RelT c w ok) vs ts) : ∃ F, RepL w vs ts' F ∧ ∀ b ∈ F, ok b := by
  induction hv generalizing ts' with
  | nil => injection hs with hs; subst hs; exact ⟨[], .nil, by simp⟩
  | cons hr hrs ih =>
    unfold sinkL at hs
    split at hs
    · rename_i t' ts'' h1 h2
      injection hs with hs
      subst hs
      simp only [List.all_cons, Bool.and_eq_true] at hq
      obtain ⟨F, g1, g2⟩ := sinkT_still h1 hq.1 hr
      obtain ⟨G, g3, g4⟩ := ih h2 hq.2
      exact ⟨F ++ G, .cons g1 g3, fun b hb => (List.mem_append.1 hb).elim (g2 b) (g4 b)⟩
    · cases hs
theorem sinkV_still {x x' : AV} {v : Value} {ok : Nat → Prop} (hs : sinkV st x = some x') (hq : x.still = true) (hv : RelV c w ok v x) : ∃ F, RepV w v x' F ∧ ∀ b ∈ F, ok b := by
  cases x with
  | one t => obtain ⟨t', ht, rfl⟩ := Option.map_eq_some_iff.1 hs; exact sinkT_still ht hq hv
  | agg ts =>
    obtain ⟨ts', ht, rfl⟩ := Option.map_eq_some_iff.1 hs
    obtain ⟨vs, rfl, ha⟩ := hv
    obtain ⟨F, g1, g2⟩ := sinkL_still ht hq ha
    exact ⟨F, ⟨vs, rfl, g1⟩, g2⟩
theorem getVs_still (h : SimC B src c ow st a w) {xs : List Operand} {ys : List AV} {os : List Prop} (hg : getVs st xs = some (ys, os)) (hq : xs.all (argStill st) = true) (ho : Ob os) : ∃ F, RepVs w (xs.map a.eval) ys F ∧ ∀ b ∈ F, okB src c st.ob b := by
  induction xs generalizing ys os with
  | nil => injection hg with hg; injection hg with e1 e2; subst e1 e2; exact ⟨[], .nil, by simp⟩
  | cons x xs ih =>
    unfold getVs at hg
    split at hg
    · rename_i y o1 ys' os' h1 h2
      injection hg with hg
      injection hg with e1 e2
      subst e1 e2
      simp only [List.all_cons, Bool.and_eq_true] at hq
      obtain ⟨p1, p2⟩ := Ob_append ho
      unfold St.getV at h1
      split at h1
      · rename_i g y' hg'
        split at h1
        · rename_i z hz
          injection h1 with h1
          injection h1 with e1 e2
          subst e1 e2
          have hq1 : y'.still = true := by have := hq.1; simpa [argStill, hg'] using this
          obtain ⟨F, g1, g2⟩ := sinkV_still hz hq1 (h.getOn hg' p1)
          obtain ⟨G, g3, g4⟩ := ih h2 hq.2 p2
          exact ⟨F ++ G, .cons g1 g3, fun b hb => (List.mem_append.1 hb).elim (g2 b) (g4 b)⟩
        · cases h1
      · cases h1
    · cases hg

theorem exec_call {cl : Call} {f : FuncId} (hop : o.op = .call cl) (hf : cl.callee = .value (.func f)) (he : Enters P f) (w : World) : (execOp a.eval o).run P w = .ok (.enter f (cl.args.map a.eval)) w := by
  have h1 := he (cl.args.map a.eval ++ #[]) w
  simp only [execOp, hop, resolve, hf, Act.eval, Sem.run_bind]
  simp [Deferred.ofValue, invoke]
  simpa using h1

/-- Data become leaves of the frame. -/
theorem RelT_of_rep {t : T} {v : Value} {F : List Nat} {ok : Nat → Prop} (h : Rep w v t F) (hF : ∀ b ∈ F, ok b) : RelT c w ok v t := by
  cases h with
  | lit hp => exact ⟨rfl, hp⟩
  | nil hc => exact ⟨[], .nil hc, by simp⟩
  | cons hn h0 hk0 hk hc hm hx hcell hr => exact ⟨_, .cons hn h0 hk0 hk hc hm hx hcell hr, hF⟩
theorem RelV_of_rep {x : AV} {v : Value} {F : List Nat} {ok : Nat → Prop} (h : RepV w v x F) (hF : ∀ b ∈ F, ok b) : RelV c w ok v x := by
  cases x with
  | one t => exact RelT_of_rep h hF
  | agg ts => obtain ⟨vs, rfl, hr⟩ := h; exact ⟨vs, rfl, hr.all2 hF⟩
theorem RelVs_of_rep {xs : List AV} {vs : List Value} {F : List Nat} {ok : Nat → Prop} (h : RepVs w vs xs F) (hF : ∀ b ∈ F, ok b) : All2 (RelV c w ok) vs xs := by
  induction h with
  | nil => exact .nil
  | cons h hs ih => exact .cons (RelV_of_rep h fun b hb => hF b (List.mem_append_left _ hb)) (ih fun b hb => hF b (List.mem_append_right _ hb))
theorem RelS_of_all {xs : List AV} {us : List Value} {v : Value} {ok : Nat → Prop} (hv : ResIs v us) (h : All2 (RelV c w ok) us xs) : RelS c w ok v (resSlot xs) := by
  cases h with
  | nil => exact ⟨[], hv, .nil⟩
  | cons h1 h2 =>
    cases h2 with
    | nil => have : v = _ := hv; subst this; exact h1
    | cons h2 h3 => exact ⟨_, hv, .cons h1 (.cons h2 h3)⟩

/-- Data without slices take no blocks. -/
theorem Rep.noSl {t : T} {v : Value} {F : List Nat} (h : Rep w v t F) (ht : t.isSl = false) : F = [] := by
  cases h with
  | lit hp => rfl
  | nil hc => cases ht
  | cons hn h0 hk0 hk hc hm hx hcell hr => cases ht
theorem RepL.noSl {ts : List T} {vs : List Value} {F : List Nat} (h : RepL w vs ts F) (ht : ts.any T.isSl = false) : F = [] := by
  induction vs generalizing ts F with
  | nil => cases h; rfl
  | cons v vs ih =>
    cases h with
    | cons h hs =>
      simp only [List.any_cons, Bool.or_eq_false_iff] at ht
      rw [h.noSl ht.1, ih hs ht.2]
      rfl
theorem RepVs.noSl {xs : List AV} {vs : List Value} {F : List Nat} (h : RepVs w vs xs F) (ht : xs.any AV.hasSl = false) : F = [] := by
  induction h with
  | nil => rfl
  | @cons v x F vs xs G h hs ih =>
    simp only [List.any_cons, Bool.or_eq_false_iff] at ht
    rw [ih ht.2, List.append_nil]
    cases x with
    | one t => exact Rep.noSl h ht.1
    | agg ts => obtain ⟨us, _, hr⟩ := h; exact hr.noSl ht.1

/-- A call whose results are plain data (or lie in still arguments' memory). -/
def callData (st : St) (f : FuncId) (cl : Call) (args outs : List AV) (P : Program) : Option (Slot × List Prop) :=
  match getVs st cl.args.toList with
  | some (ys, os) => if outs.any AV.hasSl && !(cl.args.toList.all (argStill st)) then none else some (resSlot outs, (ys = args) :: MeetsAt P f args outs none :: os)
  | none => none

theorem callData_sound (h : SimC B src c ow st a w) (hsrc : ∀ b, B ≤ b → src b) {cl : Call} {f : FuncId} {args outs : List AV} {s : Slot} {obs : List Prop} (hop : o.op = .call cl) (hf : cl.callee = .value (.func f)) (hv : callData st f cl args outs P = some (s, obs)) (ho : Ob obs)
    {K : Act → World → Prop} {Q : Exit → Act → World → Prop} (hK : ∀ v w', Below w.heap.size w w' → SimC B src c ow st a w' → RelS c w' (okB src c st.ob) v s → K (a.put o.dst v) w') : o.wp P a w K Q := by
  unfold callData at hv
  split at hv
  · rename_i ys os hg
    split at hv
    · cases hv
    · rename_i hcond
      injection hv with hv
      injection hv with e1 e2
      subst e1 e2
      obtain ⟨p1, ⟨p2, p3⟩, p4⟩ := ho
      subst p1
      have key : ∃ F, RepVs w (cl.args.toList.map a.eval) ys F ∧ (outs.any AV.hasSl = true → ∀ b ∈ F, okB src c st.ob b) := by
        cases hs : outs.any AV.hasSl with
        | false => obtain ⟨F, g1, _⟩ := getVs_sound h hg p4; exact ⟨F, g1, fun h => by cases h⟩
        | true =>
          rw [hs] at hcond
          obtain ⟨F, g1, g2⟩ := getVs_still h hg (by simpa using hcond) p4
          exact ⟨F, g1, fun _ => g2⟩
      obtain ⟨F, g1, g2⟩ := key
      have hc := p3 w _ F g1
      unfold Oper.wp
      rw [exec_call hop hf p2 w]
      simp only [Oper.upon]
      have hargs : cl.args.map a.eval = (cl.args.toList.map a.eval).toArray := by rw [← Array.toList_map, Array.toArray_toList]
      rw [hargs]
      refine hc.mono fun e w' he => ?_
      obtain ⟨v, us, G, rfl, hres, hb, hrep, hG⟩ := he
      have hsim := h.below hb
      refine hK v w' hb hsim (RelS_of_all hres (RelVs_of_rep hrep fun b hbG => ?_))
      cases hs : outs.any AV.hasSl with
      | false => rw [hrep.noSl hs] at hbG; cases hbG
      | true =>
        rcases hG b hbG with hbF | hbn
        · exact g2 hs b hbF
        · refine ⟨hsrc b (Nat.le_trans h.base hbn), fun ⟨o', x, hx, hxb⟩ => ?_⟩
          have := ((h.ob o' x hx).blk (LO.blk_of_main hxb)).1
          omega
  · cases hv
end
end Go.Ab
