/-
  Reservations and usages: what program and reference compute, in plain words. Conditions: lists of at most 2^20 elements.
-/
import Derived.Test.YtdmiboplfgmgiaaGd
import Derived.Test.YtdmiboplfgmgiaaPm
set_option linter.unusedVariables false
set_option linter.unusedSimpArgs false
namespace Go.Proofs.Ytdmiboplfgmgiaa
open Go.Ab Go.V

theorem apOk_le {b n m : Nat} (hb : b ≤ 1000) (h : n + m ≤ 100000000) : apOk b n m = true := by
  simp only [apOk, decide_eq_true_eq]
  calc (n + m) * (b + 1) ≤ 100000000 * 1001 := Nat.mul_le_mul h (by omega)
    _ ≤ 140737488355328 := by decide

abbrev active (l : List (den tReservation)) (now : Int) : List (den tReservation) := l.filter fun x => decide (now ≤ x.2.2.2.2)
theorem i_active {l : List (den tReservation)} {now : Int} (h : l.length ≤ 1048576) : i_ActiveReservations l now = some (active l now) := by
  unfold i_ActiveReservations
  rw [(loop_fold (l := l) (out := fun a => a) (fun (a : List (den tReservation)) x => if decide (now ≤ x.2.2.2.2) then a ++ [x] else a) (fun k a => a.length ≤ k) (by omega) (by simp) (fun k x a hi hd hw hx hk hI => by
    simp only [hd, hi, hw, cond_true, obind_some]
    by_cases hp : now ≤ x.2.2.2.2
    · simp [hp, apOk_le (b := 40) (n := a.length) (m := 1) (by decide) (by omega)]; omega
    · simp [hp]; omega) (fun a => by simp)).1]
  simp only [foldl_filter, List.nil_append, obind_some]
theorem s_active {l : List (den tReservation)} {now : Int} (h : l.length ≤ 1048576) : s_ActiveReservations l now = some (active l now) := by
  unfold s_ActiveReservations
  rw [(loop_fold (l := l) (out := fun a => a) (fun (a : List (den tReservation)) x => if decide (now ≤ x.2.2.2.2) then a ++ [x] else a) (fun k a => a.length ≤ k) (by omega) (by simp) (fun k x a hi hd hw hx hk hI => by
    simp only [hd, hi, hw, cond_true, obind_some]
    by_cases hp : now ≤ x.2.2.2.2
    · simp [hp, apOk_le (b := 40) (n := a.length) (m := 1) (by decide) (by omega)]; omega
    · simp [hp]; omega) (fun a => by simp)).1]
  simp only [foldl_filter, List.nil_append, obind_some]
end Go.Proofs.Ytdmiboplfgmgiaa
