/-
  Operations that leave a value and nothing else: what they give on abstract data, and that the model gives it. Over any program. Conditions: the obligations that the abstract operation lists.
-/
import Derived.Test.YtdmiboplfgmgiaaAb3
namespace Go.Ab
open Go.RowKit

def Ob : List Prop → Prop
  | [] => True
  | p :: ps => p ∧ Ob ps
theorem Ob_append {ps qs : List Prop} (h : Ob (ps ++ qs)) : Ob ps ∧ Ob qs := by
  induction ps with
  | nil => exact ⟨trivial, h⟩
  | cons p ps ih => exact ⟨⟨h.1, (ih h.2).1⟩, (ih h.2).2⟩

def St.look (st : St) (s : Nat) : Option (Option Bool × Slot) := (st.fr.find? fun e => e.1 == s).map (·.2)
def constSlot : Value → Option Slot
  | .int k n => if plain (.int k n) then some (.val (.one (.lit (.int k n)))) else none
  | .bool b => some (.val (.one (.lit (.bool b))))
  | .string s => if plain (.string s) then some (.val (.one (.lit (.string s)))) else none
  | .slice none 0 0 => some (.val (.one .nil))
  | _ => none
def St.get (st : St) : Operand → Option (Option Bool × Slot)
  | .tmp t => st.look t
  | .const v => (constSlot v).map fun x => (none, x)
  | _ => none
def flagOb : Option Bool → List Prop
  | none => []
  | some b => [b = true]
theorem flagOb_on {g : Option Bool} (h : Ob (flagOb g)) : on g = true := by
  cases g with
  | none => rfl
  | some b => exact h.1

/-- An operand as one cell, flags as obligations. -/
def St.getT (st : St) (x : Operand) : Option (T × List Prop) :=
  match st.get x with
  | some (g, .val (.one t)) => some (t, flagOb g)
  | _ => none

section
variable {B : Nat} {src : Nat → Prop} {c : Cx} {ow : Nat → Option Nat} {st : St} {a : Act} {w : World}

theorem RelS_const {ok : Nat → Prop} {v : Value} {x : Slot} (h : constSlot v = some x) : RelS c w ok v x := by
  unfold constSlot at h
  split at h
  · split at h
    · injection h with h; subst h; exact ⟨rfl, ‹_›⟩
    · cases h
  · injection h with h; subst h; exact ⟨rfl, rfl⟩
  · split at h
    · injection h with h; subst h; exact ⟨rfl, ‹_›⟩
    · cases h
  · injection h with h; subst h; rfl
  · cases h

theorem look_mem {s : Nat} {g : Option Bool} {x : Slot} (h : st.look s = some (g, x)) : (s, g, x) ∈ st.fr := by
  unfold St.look at h
  obtain ⟨⟨s', e⟩, he, rfl⟩ := Option.map_eq_some_iff.1 h
  have h1 := List.mem_of_find?_eq_some he
  have h2 := List.find?_some he
  simp at h2
  subst h2
  exact h1

theorem SimC.get (h : SimC B src c ow st a w) {x : Operand} {g : Option Bool} {s : Slot} (hg : st.get x = some (g, s)) : (on g = true → RelS c w (okB src c st.ob) (a.eval x) s) ∧ (on g = false → a.eval x = undef) := by
  cases x with
  | tmp t =>
    obtain ⟨v, hv, h1, h2⟩ := h.fr t g s (look_mem hg)
    have he : a.eval (.tmp t) = v := by simp [Act.eval, Array.getD_eq_getD_getElem?, hv]
    rw [he]
    exact ⟨h1, h2⟩
  | const v =>
    simp only [St.get, Option.map_eq_some_iff] at hg
    obtain ⟨x, hx, he⟩ := hg
    injection he with e1 e2
    subst e1 e2
    exact ⟨fun _ => RelS_const hx, fun h => by cases h⟩
  | global g => cases hg
  | func f => cases hg
theorem SimC.getOn (h : SimC B src c ow st a w) {x : Operand} {g : Option Bool} {s : Slot} (hg : st.get x = some (g, s)) (ho : Ob (flagOb g)) : RelS c w (okB src c st.ob) (a.eval x) s := (h.get hg).1 (flagOb_on ho)
theorem SimC.getT (h : SimC B src c ow st a w) {x : Operand} {t : T} {os : List Prop} (hg : st.getT x = some (t, os)) (ho : Ob os) : RelT c w (okB src c st.ob) (a.eval x) t := by
  unfold St.getT at hg
  split at hg
  · rename_i g t' hg'
    injection hg with hg
    injection hg with e1 e2
    subst e1 e2
    exact h.getOn hg' ho
  · cases hg

/-- What a value operation gives: the value v, in every world in which what was there is there. -/
def Gives (P : Program) (a : Act) (w : World) (o : Oper) (v : Value) : Prop := ∀ w' : World, (∀ b, b < w.heap.size → w'.heap[b]? = w.heap[b]?) → (execOp a.eval o).run P w' = .ok (.value v) w'

/-! ### cells read -/
def rdCells (P : Program) (t : TypeId) (off : Nat) (cs : List T) : Option AV :=
  match P.info? t, P.underlying t with
  | some i, some (.struct _) => if off + i.size ≤ cs.length then some (.agg ((cs.drop off).take i.size)) else none
  | some i, some (.array _ _) => if off + i.size ≤ cs.length then some (.agg ((cs.drop off).take i.size)) else none
  | some _, some _ => cs[off]?.map .one
  | _, _ => none

theorem add_eq (b o n : Nat) : (⟨b, o, none⟩ : Addr).add n = ⟨b, o + n, none⟩ := by unfold Addr.add; split <;> simp_all

theorem run_isAgg_struct {P : Program} {t : TypeId} {fs : Array Field} (h : P.underlying t = some (.struct fs)) (w : World) : (isAgg t).run P w = .ok true w := by simp [isAgg, run_underlying h]
theorem run_isAgg_array {P : Program} {t : TypeId} {n : Nat} {e : TypeId} (h : P.underlying t = some (.array n e)) (w : World) : (isAgg t).run P w = .ok true w := by simp [isAgg, run_underlying h]
theorem run_isAgg_other {P : Program} {t : TypeId} {d : TypeDesc} (h : P.underlying t = some d) (h1 : ∀ fs, d ≠ .struct fs) (h2 : ∀ n e, d ≠ .array n e) (w : World) : (isAgg t).run P w = .ok false w := by
  simp only [isAgg, Sem.run_bind, run_underlying h, Result.andThen_ok]
  cases d with
  | struct fs => exact absurd rfl (h1 fs)
  | array n e => exact absurd rfl (h2 n e)
  | _ => rfl
theorem run_sizeOf {P : Program} {t : TypeId} {i : TypeInfo} (h : P.info? t = some i) (w : World) : (sizeOf t).run P w = .ok i.size w := by simp [sizeOf, typeInfo, h]

theorem run_loadVar_agg {P : Program} {t : TypeId} {i : TypeInfo} {w : World} {ad : Addr} {us : List Value} (ha : (isAgg t).run P w = .ok true w) (hi : P.info? t = some i) (hl : us.length = i.size)
    (hc : ∀ j v, us[j]? = some v → w.cell? (ad.add j) = some v) : (loadVar t ad).run P w = .ok (.agg us.toArray) w := by
  have h1 := run_loadCells_list (P := P) w ad us hc
  rw [hl] at h1
  simp only [loadVar, Sem.run_bind, ha, Result.andThen_ok, if_true, run_sizeOf hi, h1]
  rfl
theorem run_loadVar_one {P : Program} {t : TypeId} {w : World} {ad : Addr} {u : Value} (ha : (isAgg t).run P w = .ok false w) (hc : w.cell? ad = some u) : (loadVar t ad).run P w = .ok u w := by
  simp only [loadVar, Sem.run_bind, ha, Result.andThen_ok, Bool.false_eq_true, if_false]
  simp [load, Sem.run, hc]

theorem rdCells_sound {P : Program} {t : TypeId} {off : Nat} {cs : List T} {x : AV} {ok : Nat → Prop} {xs : List Value} (h : rdCells P t off cs = some x) (ha : All2 (RelT c w ok) xs cs) :
    ∃ v, RelV c w ok v x ∧ ∀ (w' : World) (b base : Nat), (∀ j u, xs[j]? = some u → w'.cell? ⟨b, base + j, none⟩ = some u) → (loadVar t ⟨b, base + off, none⟩).run P w' = .ok v w' := by
  have agg : ∀ (i : TypeInfo), P.info? t = some i → (∀ w', (isAgg t).run P w' = .ok true w') → off + i.size ≤ cs.length → x = .agg ((cs.drop off).take i.size) →
      ∃ v, RelV c w ok v x ∧ ∀ (w' : World) (b base : Nat), (∀ j u, xs[j]? = some u → w'.cell? ⟨b, base + j, none⟩ = some u) → (loadVar t ⟨b, base + off, none⟩).run P w' = .ok v w' := by
    intro i hi hag hle hx
    subst hx
    refine ⟨.agg ((xs.drop off).take i.size).toArray, ⟨_, rfl, (ha.drop off).take i.size⟩, fun w' b base hc => ?_⟩
    refine run_loadVar_agg (hag w') hi ?_ ?_
    · rw [List.length_take, List.length_drop, ha.length]; omega
    · intro j u hu
      rw [add_eq]
      have hj : xs[off + j]? = some u := by
        rw [List.getElem?_take] at hu
        split at hu
        · rw [List.getElem?_drop] at hu; exact hu
        · cases hu
      have := hc (off + j) u hj
      rw [Nat.add_assoc]
      exact this
  unfold rdCells at h
  split at h
  · rename_i i fs hi hu
    split at h
    · rename_i hle
      injection h with h
      exact agg i hi (run_isAgg_struct hu) hle h.symm
    · cases h
  · rename_i i n e hi hu
    split at h
    · rename_i hle
      injection h with h
      exact agg i hi (run_isAgg_array hu) hle h.symm
    · cases h
  · rename_i i d hns hna hi hu
    obtain ⟨t', ht', rfl⟩ := Option.map_eq_some_iff.1 h
    obtain ⟨u, hu', hr⟩ := ha.get ht'
    exact ⟨u, hr, fun w' b base hc => run_loadVar_one (run_isAgg_other hu (fun fs e => hns fs e) (fun n e' h => hna n e' h) w') (hc off u hu')⟩
  · cases h
end
end Go.Ab
