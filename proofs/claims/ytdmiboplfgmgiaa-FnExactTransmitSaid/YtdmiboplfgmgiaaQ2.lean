/-
  Transmit: what program and reference compute, in plain words. Conditions: lists of at most 2^20 elements.
-/
import Derived.Test.YtdmiboplfgmgiaaQ1
set_option linter.unusedVariables false
set_option linter.unusedSimpArgs false
namespace Go.Proofs.Ytdmiboplfgmgiaa
open Go.Ab Go.V

theorem i_copyR {l : List (den tReservation)} (h : l.length ≤ 1048576) : i_copyReservations l = some l := by
  unfold i_copyReservations
  rw [apOk_le (by decide) (by simp; omega)]
  simp
theorem i_copyS {g : den tScheduler} (h1 : g.2.1.length ≤ 1048576) (h2 : g.2.2.length ≤ 1048576) : i_copyScheduler g = some g := by
  unfold i_copyScheduler
  rw [i_copyR h1, obind_some, apOk_le (by decide) (by simp; omega)]
  simp
theorem s_copyS {g : den tScheduler} (h1 : g.2.1.length ≤ 1048576) (h2 : g.2.2.length ≤ 1048576) : s_l34Copy g = some g := by
  unfold s_l34Copy
  rw [apOk_le (b := 40) (by decide) (by simp; omega), apOk_le (b := 32) (by decide) (by simp; omega)]
  simp [both_self]
def usedU (l : List (den tUsage)) (id s d : Int) : Int := if place l id s d < 0 then 0 else ((l[(place l id s d).toNat]?).map (·.2.2.2)).getD 0
theorem i_used {g : den tScheduler} {id s d : Int} (h : g.2.2.length ≤ 1048576) : i_UsedCount g id s d = some (usedU g.2.2 id s d) := by
  unfold i_UsedCount usedU
  rw [show ((g.1, g.2.1, g.2.2) : den tScheduler) = g from rfl, i_place h, obind_some]
  rcases place_at g.2.2 id s d with hp | ⟨j, x, hp, hx, hj⟩
  · rw [hp]; rfl
  · rw [hp, decide_eq_true (by omega), cond_true, idx_nat, hx, if_neg (by omega)]; simp [hx]
theorem s_used {g : den tScheduler} {id s d : Int} (h : g.2.2.length ≤ 1048576) : s_UsedCount g id s d = some (usedU g.2.2 id s d) := by
  unfold s_UsedCount usedU
  rw [s_place h, obind_some]
  rcases place_at g.2.2 id s d with hp | ⟨j, x, hp, hx, hj⟩
  · rw [hp]; rfl
  · rw [hp, decide_eq_false (by omega), cond_false, idx_nat, hx, if_neg (by omega)]; simp [hx]
def moreU (l : List (den tUsage)) (id s d : Int) : List (den tUsage) :=
  if place l id s d < 0 then l ++ [(id, s, d, 1)] else match l[(place l id s d).toNat]? with
    | some x => l.set (place l id s d).toNat (x.1, x.2.1, x.2.2.1, wr (x.2.2.2 + 1))
    | none => l
theorem moreU_len (l : List (den tUsage)) (id s d : Int) : (moreU l id s d).length ≤ l.length + 1 := by
  unfold moreU
  split
  · simp
  · split <;> simp
theorem s_more {g : den tScheduler} {id s d : Int} (h1 : g.2.1.length ≤ 1048576) (h2 : g.2.2.length ≤ 1048576) : s_l34More g id s d = some (g.1, g.2.1, moreU g.2.2 id s d) := by
  unfold s_l34More moreU
  rw [show ((g.1, g.2.1, g.2.2) : den tScheduler) = g from rfl, s_copyS h1 h2, obind_some, s_place h2, obind_some]
  rcases place_at g.2.2 id s d with hp | ⟨j, x, hp, hx, hj⟩
  · rw [hp, apOk_le (b := 32) (by decide) (by omega)]; rfl
  · have hd : decide ((j : Int) < (g.2.2.length : Int)) = true := by simpa using hj
    have hd2 : decide (j < g.2.2.length) = true := by simpa using hj
    have hd0 : decide ((0 : Int) ≤ (j : Int)) = true := by simp
    rw [hp, decide_eq_false (show ¬ (j : Int) < 0 by omega), cond_false, if_neg (by omega)]
    simp only [hd, hd0, hd2, cond_true, Int.toNat_natCast, hx, obind_some]
def transU (g : den tScheduler) (id s d now : Int) : Int × Bool × List (den tReservation) × List (den tUsage) :=
  if usedU g.2.2 id s d < rateU g id s d now then (g.1, true, g.2.1, moreU g.2.2 id s d)
  else if usedU g.2.2 0 s d < rateU g 0 s d now then (g.1, true, g.2.1, moreU g.2.2 0 s d)
  else (g.1, false, g.2.1, g.2.2)
theorem i_trans {g : den tScheduler} {id s d now : Int} (h1 : g.2.1.length ≤ 1048576) (h2 : g.2.2.length ≤ 1048576) : i_Transmit g id s d now = some (transU g id s d now) := by
  unfold i_Transmit
  rw [show ((g.1, g.2.1, g.2.2) : den tScheduler) = g from rfl, i_copyS h1 h2, obind_some]
  rw [loop_scan (l := [id, 0]) (fun _ n => if usedU g.2.2 n s d < rateU g n s d now then some (g.1, true, g.2.1, moreU g.2.2 n s d) else none) (by simp) (fun k n hi hd hw hx hk => by
    rw [idx_nat] at hi
    have hd0 : decide ((0 : Int) ≤ (k : Int)) = true := by simp
    simp only [hd, hd0, hi, hw, cond_true, obind_some, Int.toNat_natCast, i_used h2, i_rateU h1, i_place h2]
    by_cases hu : usedU g.2.2 n s d < rateU g n s d now
    · rw [decide_eq_false (by omega), cond_false, if_pos hu]
      unfold moreU
      rcases place_at g.2.2 n s d with hp | ⟨j, x, hp, hx, hj⟩
      · rw [hp, apOk_le (b := 32) (by decide) (by omega)]; rfl
      · have hd1 : decide ((j : Int) < (g.2.2.length : Int)) = true := by simpa using hj
        have hd2 : decide ((j : Int) ≥ 0) = true := by simp
        have hd3 : decide ((0 : Int) ≤ (j : Int)) = true := by simp
        rw [hp, if_neg (by omega)]
        simp only [hd1, hd2, hd3, cond_true, Int.toNat_natCast, hx, obind_some]
    · rw [decide_eq_true (by omega), cond_true, if_neg hu]) (by simp)]
  unfold transU
  simp only [scanI]
  by_cases hu : usedU g.2.2 id s d < rateU g id s d now
  · simp [hu]
  · by_cases hv : usedU g.2.2 0 s d < rateU g 0 s d now <;> simp [hu, hv]
theorem s_trans {g : den tScheduler} {id s d now : Int} (h1 : g.2.1.length ≤ 1048576) (h2 : g.2.2.length ≤ 1048576) : s_Transmit g id s d now = some (transU g id s d now) := by
  unfold s_Transmit transU
  rw [show ((g.1, g.2.1, g.2.2) : den tScheduler) = g from rfl]
  simp only [s_used h2, s_resRate h1, s_free h1, s_more h1 h2, s_copyS h1 h2, obind_some]
  have h0 : rateU g 0 s d now = free g.2.1 g.1 s d now := rfl
  rw [h0]
  by_cases hid : id = 0
  · subst hid
    rw [h0]
    by_cases hv : usedU g.2.2 0 s d < free g.2.1 g.1 s d now <;> simp [hv]
  · have hr : rateU g id s d now = resRate g.2.1 id s d now := by unfold rateU; simp [hid]
    have hne : (id != 0) = true := by simpa using hid
    rw [hr, hne, cond_true, obind_some]
    by_cases hu : usedU g.2.2 id s d < resRate g.2.1 id s d now
    · simp [hu]
    · by_cases hv : usedU g.2.2 0 s d < free g.2.1 g.1 s d now <;> simp [hu, hv]
theorem trans_tot {g : den tScheduler} {id s d now : Int} (h1 : g.2.1.length ≤ 1048576) (h2 : g.2.2.length ≤ 1048576) : tot (.sl tReservation) (transU g id s d now).2.2.1 ≤ 68719476736 ∧ tot (.sl tUsage) (transU g id s d now).2.2.2 ≤ 68719476736 := by
  have m1 := moreU_len g.2.2 id s d
  have m2 := moreU_len g.2.2 0 s d
  rw [tot_flatL rfl, tot_flatL rfl]
  unfold transU
  split
  · exact ⟨by simp only; omega, by simp only; omega⟩
  · split
    · exact ⟨by simp only; omega, by simp only; omega⟩
    · exact ⟨by simp only; omega, by simp only; omega⟩
end Go.Proofs.Ytdmiboplfgmgiaa
