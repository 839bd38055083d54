/-
  Loops over a list, with or without an end ahead of time. Conditions: none.
-/
import Derived.Test.YtdmiboplfgmgiaaPl
set_option linter.unusedVariables false
namespace Go.V
open Go.Ab Go.RowKit

section
variable {α R ρ : Type}
/-- The first result. -/
def scanI (g : Nat → α → Option R) : Nat → List α → Option R
  | _, [] => none
  | k, x :: xs => match g k x with
    | some r => some r
    | none => scanI g (k + 1) xs
theorem loop_scan {l : List α} (g : Nat → α → Option R) {step : Int → Option (Int ⊕ (Unit ⊕ R))} (hl : l.length ≤ 4611686018427387904)
    (h : ∀ (k : Nat) (x : α), idx l (k : Int) = some x → decide ((k : Int) < (l.length : Int)) = true → IntKind.i64.wrap ((k : Int) + 1) = ((k + 1 : Nat) : Int) → x ∈ l → k < l.length → step (k : Int) = some (match g k x with
      | some r => .inr (.inr r)
      | none => .inl ((k + 1 : Nat) : Int)))
    (he : step (l.length : Int) = some (.inr (.inl ()))) : loopM step (0 : Int) = some (match scanI g 0 l with
      | some r => .inr r
      | none => .inl ()) := by
  have key : ∀ (rest pre : List α), pre ++ rest = l → loopM step (pre.length : Int) = some (match scanI g pre.length rest with
      | some r => .inr r
      | none => .inl ()) := by
    intro rest
    induction rest with
    | nil => intro pre hp; rw [List.append_nil] at hp; subst hp; exact loopM_done he
    | cons x rest ih =>
      intro pre hp
      have hlt : pre.length < l.length := by rw [← hp]; simp
      have hx : l[pre.length]? = some x := by rw [← hp]; simp
      have hs := h pre.length x (by rw [idx_nat]; exact hx) (by simpa using hlt) (by rw [wrap_in (by omega) (by omega)]; omega) (List.mem_of_getElem? hx) hlt
      simp only [scanI]
      cases hg : g pre.length x with
      | some r => rw [hg] at hs; exact loopM_done hs
      | none =>
        rw [hg] at hs
        rw [loopM_next hs]
        have := ih (pre ++ [x]) (by simpa using hp)
        simpa using this
  exact key l [] rfl
theorem loop_fold {l : List α} (f : ρ → α → ρ) (I : Nat → ρ → Prop) {out : ρ → R} {a0 : ρ} {step : Int × ρ → Option ((Int × ρ) ⊕ R)} (hl : l.length ≤ 4611686018427387904) (h0 : I 0 a0)
    (h : ∀ (k : Nat) (x : α) (a : ρ), idx l (k : Int) = some x → decide ((k : Int) < (l.length : Int)) = true → IntKind.i64.wrap ((k : Int) + 1) = ((k + 1 : Nat) : Int) → x ∈ l → k < l.length → I k a → step ((k : Int), a) = some (.inl (((k + 1 : Nat) : Int), f a x)) ∧ I (k + 1) (f a x))
    (he : ∀ a, step ((l.length : Int), a) = some (.inr (out a))) : loopM step ((0 : Int), a0) = some (out (l.foldl f a0)) ∧ I l.length (l.foldl f a0) := by
  have key : ∀ (rest pre : List α) (a : ρ), pre ++ rest = l → I pre.length a → loopM step ((pre.length : Int), a) = some (out (rest.foldl f a)) ∧ I l.length (rest.foldl f a) := by
    intro rest
    induction rest with
    | nil => intro pre a hp hI; rw [List.append_nil] at hp; subst hp; exact ⟨loopM_done (he a), hI⟩
    | cons x rest ih =>
      intro pre a hp hI
      have hlt : pre.length < l.length := by rw [← hp]; simp
      have hx : l[pre.length]? = some x := by rw [← hp]; simp
      obtain ⟨hs, hI'⟩ := h pre.length x a (by rw [idx_nat]; exact hx) (by simpa using hlt) (by rw [wrap_in (by omega) (by omega)]; omega) (List.mem_of_getElem? hx) hlt hI
      rw [loopM_next hs]
      have := ih (pre ++ [x]) (f a x) (by simpa using hp) (by simpa using hI')
      simpa using this
  exact key l [] a0 rfl h0
theorem loop_fold' {l : List α} (f : ρ → α → ρ) (I : Nat → ρ → Prop) {out : ρ → R} {a0 : ρ} {step : ρ × Int → Option ((ρ × Int) ⊕ R)} (hl : l.length ≤ 4611686018427387904) (h0 : I 0 a0)
    (h : ∀ (k : Nat) (x : α) (a : ρ), idx l (k : Int) = some x → decide ((k : Int) < (l.length : Int)) = true → IntKind.i64.wrap ((k : Int) + 1) = ((k + 1 : Nat) : Int) → x ∈ l → k < l.length → I k a → step (a, (k : Int)) = some (.inl (f a x, ((k + 1 : Nat) : Int))) ∧ I (k + 1) (f a x))
    (he : ∀ a, step (a, (l.length : Int)) = some (.inr (out a))) : loopM step (a0, (0 : Int)) = some (out (l.foldl f a0)) ∧ I l.length (l.foldl f a0) := by
  have key : ∀ (rest pre : List α) (a : ρ), pre ++ rest = l → I pre.length a → loopM step (a, (pre.length : Int)) = some (out (rest.foldl f a)) ∧ I l.length (rest.foldl f a) := by
    intro rest
    induction rest with
    | nil => intro pre a hp hI; rw [List.append_nil] at hp; subst hp; exact ⟨loopM_done (he a), hI⟩
    | cons x rest ih =>
      intro pre a hp hI
      have hlt : pre.length < l.length := by rw [← hp]; simp
      have hx : l[pre.length]? = some x := by rw [← hp]; simp
      obtain ⟨hs, hI'⟩ := h pre.length x a (by rw [idx_nat]; exact hx) (by simpa using hlt) (by rw [wrap_in (by omega) (by omega)]; omega) (List.mem_of_getElem? hx) hlt hI
      rw [loopM_next hs]
      have := ih (pre ++ [x]) (f a x) (by simpa using hp) (by simpa using hI')
      simpa using this
  exact key l [] a0 rfl h0
theorem scanI_congr {g g' : Nat → α → Option R} : ∀ {l : List α} {k : Nat}, (∀ j x, l[j]? = some x → g (k + j) x = g' (k + j) x) → scanI g k l = scanI g' k l
  | [], _, _ => rfl
  | x :: xs, k, h => by
    have h0 := h 0 x rfl
    simp only [Nat.add_zero] at h0
    have ih := scanI_congr (g := g) (g' := g') (l := xs) (k := k + 1) fun j y hy => by
      have h1 := h (j + 1) y (by simpa using hy)
      have h2 : k + 1 + j = k + (j + 1) := by omega
      rw [h2]
      exact h1
    simp only [scanI, h0, ih]
theorem scanI_at {p : α → Bool} : ∀ {l : List α} {k : Nat} {i : Int}, scanI (fun k x => if p x then some (k : Int) else none) k l = some i → ∃ j x, l[j]? = some x ∧ i = ((k + j : Nat) : Int) ∧ p x = true
  | [], _, _, h => by cases h
  | x :: xs, k, i, h => by
    simp only [scanI] at h
    cases hp : p x with
    | true => rw [hp] at h; simp at h; exact ⟨0, x, rfl, by omega, hp⟩
    | false =>
      rw [hp] at h
      simp at h
      obtain ⟨j, y, h1, h2, h3⟩ := scanI_at h
      exact ⟨j + 1, y, by simpa using h1, by omega, h3⟩
theorem cut_take {l : List α} {k : Nat} : cut l (0 : Int) (k : Int) = l.take k := by simp [cut]
theorem foldl_filter (p : α → Bool) : ∀ (l : List α) (a : List α), l.foldl (fun a x => if p x then a ++ [x] else a) a = a ++ l.filter p
  | [], a => by simp
  | x :: xs, a => by
    simp only [List.foldl_cons, List.filter_cons]
    rw [foldl_filter p xs]
    split <;> simp
end
end Go.V
