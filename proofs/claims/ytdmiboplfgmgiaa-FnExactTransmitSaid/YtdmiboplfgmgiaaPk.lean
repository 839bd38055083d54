/-
  Loops as they are computed: how to run one. Conditions: none.
-/
import Derived.Test.YtdmiboplfgmgiaaWN
set_option linter.unusedVariables false
namespace Go.V
open Go.Ab Go.RowKit

section
variable {σ R : Type} {step : σ → Option (σ ⊕ R)}
theorem iterM_succ {n : Nat} {s : σ} {r : R} (h : iterM step n s = some r) : iterM step (n + 1) s = some r := by
  induction n generalizing s with
  | zero => cases h
  | succ n ih =>
    have h : Option.bind (step s) (Sum.elim (iterM step n) some) = some r := h
    show Option.bind (step s) (Sum.elim (iterM step (n + 1)) some) = some r
    cases hs : step s with
    | none => rw [hs] at h; cases h
    | some y =>
      rw [hs] at h
      cases y with
      | inl s' => exact ih h
      | inr r' => exact h
theorem iterM_le {n m : Nat} (hm : n ≤ m) {s : σ} {r : R} (h : iterM step n s = some r) : iterM step m s = some r := by
  induction hm with
  | refl => exact h
  | step _ ih => exact iterM_succ ih
theorem loopM_of {n : Nat} {s : σ} {r : R} (h : iterM step n s = some r) : loopM step s = some r := by
  have hex : ∃ n, (iterM step n s).isSome = true := ⟨n, by rw [h]; rfl⟩
  unfold loopM
  rw [dif_pos hex]
  obtain ⟨r', hr'⟩ := Option.isSome_iff_exists.1 hex.choose_spec
  rcases Nat.le_total n hex.choose with hle | hle
  · exact iterM_le hle h
  · rw [iterM_le hle hr'] at h
    rw [hr']
    exact h
theorem loopM_iff {s : σ} {r : R} : loopM step s = some r ↔ ∃ n, iterM step n s = some r := by
  constructor
  · intro h
    unfold loopM at h
    split at h
    · exact ⟨_, h⟩
    · cases h
  · rintro ⟨n, h⟩; exact loopM_of h
theorem loopM_done {s : σ} {r : R} (h : step s = some (.inr r)) : loopM step s = some r :=
  loopM_of (n := 1) (by show Option.bind (step s) _ = _; rw [h]; rfl)
theorem loopM_next {s s' : σ} (h : step s = some (.inl s')) : loopM step s = loopM step s' := by
  have key : ∀ r, loopM step s = some r ↔ loopM step s' = some r := by
    intro r
    rw [loopM_iff, loopM_iff]
    constructor
    · rintro ⟨n, hn⟩
      cases n with
      | zero => cases hn
      | succ n =>
        refine ⟨n, ?_⟩
        have hn : Option.bind (step s) (Sum.elim (iterM step n) some) = some r := hn
        rw [h] at hn
        exact hn
    · rintro ⟨n, hn⟩
      refine ⟨n + 1, ?_⟩
      show Option.bind (step s) (Sum.elim (iterM step n) some) = some r
      rw [h]
      exact hn
  cases h1 : loopM step s with
  | none =>
    cases h2 : loopM step s' with
    | none => rfl
    | some r => rw [(key r).2 h2] at h1; cases h1
  | some r => exact ((key r).1 h1).symm
theorem loopM_fail {s : σ} (h : step s = none) : loopM step s = none := by
  cases h1 : loopM step s with
  | none => rfl
  | some r =>
    obtain ⟨n, hn⟩ := loopM_iff.1 h1
    cases n with
    | zero => cases hn
    | succ n =>
      have hn : Option.bind (step s) (Sum.elim (iterM step n) some) = some r := hn
      rw [h] at hn
      cases hn
/-- A loop that goes through known states. -/
theorem loopM_run (st : Nat → σ) (m : Nat) (h : ∀ k, k < m → step (st k) = some (.inl (st (k + 1)))) : loopM step (st 0) = loopM step (st m) := by
  induction m with
  | zero => rfl
  | succ m ih => rw [ih fun k hk => h k (by omega)]; exact loopM_next (h m (by omega))
theorem loopM_to {st : Nat → σ} {m : Nat} {r : R} (h : ∀ k, k < m → step (st k) = some (.inl (st (k + 1)))) (he : step (st m) = some (.inr r)) : loopM step (st 0) = some r := by
  rw [loopM_run st m h]; exact loopM_done he
end

theorem wrap_in {n : Int} (h0 : -9223372036854775808 ≤ n) (h1 : n ≤ 9223372036854775807) : IntKind.i64.wrap n = n := by
  have : plain (.int .i64 n) = true := by simp [plain, IntKind.min, IntKind.max, IntKind.signed, IntKind.bits]; omega
  simp only [IntKind.wrap, IntKind.signed, IntKind.bits]
  simp
  omega
theorem idx_nat {α : Type} {l : List α} {k : Nat} : idx l (k : Int) = l[k]? := by simp [idx]
@[simp] theorem obind_some {α β : Type} (x : α) (f : α → Option β) : Option.bind (some x) f = f x := rfl
@[simp] theorem obind_none {α β : Type} (f : α → Option β) : Option.bind none f = none := rfl
end Go.V
