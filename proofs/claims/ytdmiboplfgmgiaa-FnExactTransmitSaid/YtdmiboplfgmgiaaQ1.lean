/-
  Reservations and usages: what program and reference compute, in plain words. Conditions: lists of at most 2^20 elements.
-/
import Derived.Test.YtdmiboplfgmgiaaGd
import Derived.Test.YtdmiboplfgmgiaaPm
set_option linter.unusedVariables false
set_option linter.unusedSimpArgs false
namespace Go.Proofs.Ytdmiboplfgmgiaa
open Go.Ab Go.V

theorem apOk_le {b n m : Nat} (hb : b ≤ 1000) (h : n + m ≤ 100000000) : apOk b n m = true := by
  simp only [apOk, decide_eq_true_eq]
  calc (n + m) * (b + 1) ≤ 100000000 * 1001 := Nat.mul_le_mul h (by omega)
    _ ≤ 140737488355328 := by decide

abbrev active (l : List (den tReservation)) (now : Int) : List (den tReservation) := l.filter fun x => decide (now ≤ x.2.2.2.2)
theorem i_active {l : List (den tReservation)} {now : Int} (h : l.length ≤ 1048576) : i_ActiveReservations l now = some (active l now) := by
  unfold i_ActiveReservations
  rw [(loop_fold (l := l) (out := fun a => a) (fun (a : List (den tReservation)) x => if decide (now ≤ x.2.2.2.2) then a ++ [x] else a) (fun k a => a.length ≤ k) (by omega) (by simp) (fun k x a hi hd hw hx hk hI => by
    simp only [hd, hi, hw, cond_true, obind_some]
    by_cases hp : now ≤ x.2.2.2.2
    · simp [hp, apOk_le (b := 40) (n := a.length) (m := 1) (by decide) (by omega)]; omega
    · simp [hp]; omega) (fun a => by simp)).1]
  simp only [foldl_filter, List.nil_append, obind_some]
theorem s_active {l : List (den tReservation)} {now : Int} (h : l.length ≤ 1048576) : s_ActiveReservations l now = some (active l now) := by
  unfold s_ActiveReservations
  rw [(loop_fold (l := l) (out := fun a => a) (fun (a : List (den tReservation)) x => if decide (now ≤ x.2.2.2.2) then a ++ [x] else a) (fun k a => a.length ≤ k) (by omega) (by simp) (fun k x a hi hd hw hx hk hI => by
    simp only [hd, hi, hw, cond_true, obind_some]
    by_cases hp : now ≤ x.2.2.2.2
    · simp [hp, apOk_le (b := 40) (n := a.length) (m := 1) (by decide) (by omega)]; omega
    · simp [hp]; omega) (fun a => by simp)).1]
  simp only [foldl_filter, List.nil_append, obind_some]

/-! ### ranges -/
def inR (n a b : Int) : Bool := decide (a ≤ n) && decide (n ≤ b)
theorem i_in (n a b : Int) : i_InRange n a b = some (inR n a b) := by
  unfold i_InRange inR
  by_cases h : a ≤ n <;> simp [h]
theorem s_in (n a b : Int) : s_l1In n a b = some (inR n a b) := by
  unfold s_l1In inR
  by_cases h : a ≤ n <;> simp [h]
theorem i_max (a b : Int) : i_Max a b = some (if b > a then b else a) := rfl
theorem s_max (a b : Int) : s_Max a b = some (if b > a then b else a) := by
  unfold s_Max
  by_cases h : b > a <;> simp [h]

/-! ### reservations -/
def atR (x : den tReservation) (s d : Int) : Bool := x.2.1 == s && x.2.2.1 == d
theorem i_at (x : den tReservation) (s d : Int) : i_Reservation_at x s d = some (atR x s d) := by
  unfold i_Reservation_at atR
  cases x.2.1 == s <;> simp
theorem s_at (x : den tReservation) (s d now : Int) : s_l32At x s d now = some (atR x s d && decide (now ≤ x.2.2.2.2)) := by
  unfold s_l32At atR
  cases x.2.1 == s <;> cases x.2.2.1 == d <;> simp
def rate (l : List (den tReservation)) (s d now : Int) : Int := l.foldl (fun a x => if atR x s d && decide (now ≤ x.2.2.2.2) then wr (a + x.2.2.2.1) else a) 0
theorem i_rate {l : List (den tReservation)} {s d now : Int} (h : l.length ≤ 1048576) : i_ReservedRate l s d now = some (rate l s d now) := by
  unfold i_ReservedRate
  rw [(loop_fold' (l := l) (out := fun a => a) (fun (a : Int) x => if atR x s d && decide (now ≤ x.2.2.2.2) then wr (a + x.2.2.2.1) else a) (fun _ _ => True) (by omega) trivial (fun k x a hi hd hw hx hk hI => by
    refine ⟨?_, trivial⟩
    simp only [hd, hi, hw, cond_true, obind_some]
    rw [show ((x.1, x.2.1, x.2.2.1, x.2.2.2.1, x.2.2.2.2) : den tReservation) = x from rfl, i_at]
    cases atR x s d <;> cases decide (now ≤ x.2.2.2.2) <;> rfl) (fun a => by simp)).1]
  rfl
theorem s_rate {l : List (den tReservation)} {s d now : Int} (h : l.length ≤ 1048576) : s_ReservedRate l s d now = some (rate l s d now) := by
  unfold s_ReservedRate
  rw [(loop_fold' (l := l) (out := fun a => a) (fun (a : Int) x => if atR x s d && decide (now ≤ x.2.2.2.2) then wr (a + x.2.2.2.1) else a) (fun _ _ => True) (by omega) trivial (fun k x a hi hd hw hx hk hI => by
    refine ⟨?_, trivial⟩
    simp only [hd, hi, hw, cond_true, obind_some]
    rw [show ((x.1, x.2.1, x.2.2.1, x.2.2.2.1, x.2.2.2.2) : den tReservation) = x from rfl, s_at]
    cases atR x s d <;> cases decide (now ≤ x.2.2.2.2) <;> rfl) (fun a => by simp)).1]
  rfl
def free (l : List (den tReservation)) (cap s d now : Int) : Int := if wr (cap - rate l s d now) > 0 then wr (cap - rate l s d now) else 0
theorem i_free {l : List (den tReservation)} {cap s d now : Int} (h : l.length ≤ 1048576) : i_FreeRate l cap s d now = some (free l cap s d now) := by
  unfold i_FreeRate
  simp only [i_rate h, obind_some, i_max]; rfl
theorem s_free {l : List (den tReservation)} {cap s d now : Int} (h : l.length ≤ 1048576) : s_FreeRate l cap s d now = some (free l cap s d now) := by
  unfold s_FreeRate
  simp only [s_rate h, obind_some, s_max]; rfl
def resRate (l : List (den tReservation)) (id s d now : Int) : Int :=
  match scanI (fun _ (x : den tReservation) => if x.1 == id && (atR x s d && decide (now ≤ x.2.2.2.2)) then some x.2.2.2.1 else none) 0 l with
  | some r => r
  | none => 0
theorem i_resRate {l : List (den tReservation)} {id s d now : Int} (h : l.length ≤ 1048576) : i_ReservationRate l id s d now = some (resRate l id s d now) := by
  unfold i_ReservationRate
  rw [loop_scan (l := l) (fun _ (x : den tReservation) => if x.1 == id && (atR x s d && decide (now ≤ x.2.2.2.2)) then some x.2.2.2.1 else none) (by omega) (fun k x hi hd hw hx hk => by
    simp only [hd, hi, hw, cond_true, obind_some]
    rw [show ((x.1, x.2.1, x.2.2.1, x.2.2.2.1, x.2.2.2.2) : den tReservation) = x from rfl, i_at]
    cases x.1 == id <;> cases atR x s d <;> cases decide (now ≤ x.2.2.2.2) <;> rfl) (by simp)]
  unfold resRate
  cases scanI (fun _ (x : den tReservation) => if x.1 == id && (atR x s d && decide (now ≤ x.2.2.2.2)) then some x.2.2.2.1 else none) 0 l <;> rfl
theorem s_resRate {l : List (den tReservation)} {id s d now : Int} (h : l.length ≤ 1048576) : s_ReservationRate l id s d now = some (resRate l id s d now) := by
  unfold s_ReservationRate
  rw [loop_scan (l := l) (fun _ (x : den tReservation) => if x.1 == id && (atR x s d && decide (now ≤ x.2.2.2.2)) then some x.2.2.2.1 else none) (by omega) (fun k x hi hd hw hx hk => by
    simp only [hd, hi, hw, cond_true, obind_some]
    rw [show ((x.1, x.2.1, x.2.2.1, x.2.2.2.1, x.2.2.2.2) : den tReservation) = x from rfl, s_at]
    cases x.1 == id <;> cases atR x s d <;> cases decide (now ≤ x.2.2.2.2) <;> rfl) (by simp)]
  unfold resRate
  cases scanI (fun _ (x : den tReservation) => if x.1 == id && (atR x s d && decide (now ≤ x.2.2.2.2)) then some x.2.2.2.1 else none) 0 l <;> rfl
def validV (x : den tRevocation) : Bool := inR x.1 0 7 && (inR x.2.1 1 6 && inR x.2.2 0 1000000)
theorem i_validV (x : den tRevocation) : i_ValidRevocation x = some (validV x) := by
  unfold i_ValidRevocation validV
  simp only [i_in, obind_some]
  cases inR x.1 0 7 <;> cases inR x.2.1 1 6 <;> cases inR x.2.2 0 1000000 <;> rfl
theorem s_validV (x : den tRevocation) : s_ValidRevocation x = some (validV x) := by
  unfold s_ValidRevocation validV
  simp only [s_in, obind_some]
  cases inR x.1 0 7 <;> cases inR x.2.1 1 6 <;> cases inR x.2.2 0 1000000 <;> rfl
def validR (x : den tReservation) : Bool := inR x.1 1 100000 && (inR x.2.2.2.1 1 20 && validV (x.2.1, x.2.2.1, x.2.2.2.2))
theorem i_validR (x : den tReservation) : i_ValidReservation x = some (validR x) := by
  unfold i_ValidReservation validR
  simp only [i_in, i_validV, obind_some]
  cases inR x.1 1 100000 <;> cases inR x.2.2.2.1 1 20 <;> cases validV (x.2.1, x.2.2.1, x.2.2.2.2) <;> rfl
theorem s_validR (x : den tReservation) : s_ValidReservation x = some (validR x) := by
  unfold s_ValidReservation validR
  simp only [s_in, s_validV, obind_some]
  cases inR x.1 1 100000 <;> cases inR x.2.2.2.1 1 20 <;> cases validV (x.2.1, x.2.2.1, x.2.2.2.2) <;> rfl
def sameR (x y : den tReservation) : Bool := y.1 == x.1 && atR y x.2.1 x.2.2.1
theorem s_without {l : List (den tReservation)} {x : den tReservation} (h : l.length ≤ 1048576) : s_l32Without l x = some (l.filter fun y => !sameR x y) := by
  unfold s_l32Without
  rw [(loop_fold (l := l) (out := fun a => a) (fun (a : List (den tReservation)) y => if !sameR x y then a ++ [y] else a) (fun k a => a.length ≤ k) (by omega) (by simp) (fun k y a hi hd hw hx hk hI => by
    simp only [hd, hi, hw, cond_true, obind_some]
    have hap := apOk_le (b := 40) (n := a.length) (m := 1) (by decide) (by omega)
    unfold sameR atR
    simp only [bne]
    cases h1 : y.1 == x.1 <;> cases h2 : y.2.1 == x.2.1 <;> cases h3 : y.2.2.1 == x.2.2.1 <;> simp [hap] <;> omega) (fun a => by simp)).1]
  simp only [foldl_filter, List.nil_append, obind_some]
/-- Are reservations valid together? -/
def okR (l : List (den tReservation)) (cap now : Int) (k : Nat) (x : den tReservation) : Bool := validR x && (!decide (rate l x.2.1 x.2.2.1 now > cap) && !(l.take k).any (sameR x))
def validRs (l : List (den tReservation)) (cap now : Int) : Bool :=
  decide (l.length ≤ 40) && (scanI (fun k x => if okR l cap now k x then none else some ()) 0 l).isNone
theorem scanI_none {α R S : Type} (p : Nat → α → Bool) (r : R) (s : S) : ∀ (l : List α) (k : Nat), (scanI (fun k x => if p k x then none else some r) k l).isNone = (scanI (fun k x => if p k x then none else some s) k l).isNone ∧ ∀ q, scanI (fun k x => if p k x then none else some r) k l = some q → q = r
  | [], _ => ⟨rfl, fun q h => by cases h⟩
  | x :: xs, k => by
    simp only [scanI]
    cases p k x with
    | true => simpa using scanI_none p r s xs (k + 1)
    | false => simp
theorem scan_false {α : Type} (p : Nat → α → Bool) (l : List α) : (match scanI (fun k x => if p k x then none else some false) 0 l with
    | some r => some r
    | none => some true) = some (scanI (fun k x => if p k x then none else some ()) 0 l).isNone := by
  obtain ⟨h1, h2⟩ := scanI_none p false () l 0
  rw [← h1]
  cases h : scanI (fun k x => if p k x then none else some false) 0 l with
  | none => rfl
  | some q => rw [h2 q h]; rfl
theorem i_validRs {l : List (den tReservation)} {cap now : Int} (h : l.length ≤ 1048576) : i_ValidReservations l cap now = some (validRs l cap now) := by
  unfold i_ValidReservations validRs
  by_cases hl : l.length ≤ 40
  · rw [decide_eq_false (by omega), cond_false, decide_eq_true hl, Bool.true_and]
    rw [loop_scan (l := l) (fun k x => if okR l cap now k x then none else some false) (by omega) (fun k x hi hd hw hx hk => by
      have hslo : slOk (0 : Int) (k : Int) (l.length : Int) = true := by simp [slOk]; omega
      have hlen : (l.take k).length ≤ 1048576 := by simp; omega
      simp only [hd, hi, hw, cond_true, obind_some, hslo, cut_take]
      rw [show ((x.1, x.2.1, x.2.2.1, x.2.2.2.1, x.2.2.2.2) : den tReservation) = x from rfl, i_validR, i_rate h]
      unfold okR
      cases hv : validR x with
      | false => rfl
      | true =>
        cases hr : decide (rate l x.2.1 x.2.2.1 now > cap) with
        | true => simp [hr]
        | false =>
          simp only [obind_some, Bool.not_true, cond_false, hr, Bool.not_false, Bool.true_and]
          rw [loop_scan (l := l.take k) (R := Int ⊕ (Unit ⊕ Bool)) (fun _ y => if sameR x y then some (Sum.inr (Sum.inr false)) else none) (by omega) (fun j y hi2 hd2 hw2 hx2 hk2 => by
            simp only [hd2, hi2, hw2, cond_true, obind_some]
            rw [show ((y.1, y.2.1, y.2.2.1, y.2.2.2.1, y.2.2.2.2) : den tReservation) = y from rfl, i_at]
            unfold sameR
            cases y.1 == x.1 <;> cases atR y x.2.1 x.2.2.1 <;> rfl) (by simp)]
          have key : ∀ (m : List (den tReservation)) (j : Nat), scanI (fun _ y => if sameR x y then some (Sum.inr (Sum.inr false) : Int ⊕ (Unit ⊕ Bool)) else none) j m = if m.any (sameR x) then some (Sum.inr (Sum.inr false)) else none := by
            intro m
            induction m with
            | nil => intro j; rfl
            | cons y m ih =>
              intro j
              simp only [scanI, List.any_cons]
              rcases Bool.eq_false_or_eq_true (sameR x y) with hs | hs
              · simp [hs]
              · simp only [hs, ih, Bool.false_eq_true, if_false]
                rfl
          rw [key]
          cases (l.take k).any (sameR x) <;> simp) (by simp)]
    rw [← scan_false]
    cases scanI (fun k x => if okR l cap now k x then none else some false) 0 l <;> rfl
  · rw [decide_eq_true (by omega), cond_true, decide_eq_false hl]; rfl
theorem s_validRs {l : List (den tReservation)} {cap now : Int} (h : l.length ≤ 1048576) : s_ValidReservations l cap now = some (validRs l cap now) := by
  unfold s_ValidReservations validRs
  rw [loop_scan (l := l) (fun k x => if okR l cap now k x then none else some false) (by omega) (fun k x hi hd hw hx hk => by
    have hslo : slOk (0 : Int) (k : Int) (l.length : Int) = true := by simp [slOk]; omega
    have hlen : (l.take k).length ≤ 1048576 := by simp; omega
    simp only [hd, hi, hw, cond_true, obind_some, hslo, cut_take]
    rw [show ((x.1, x.2.1, x.2.2.1, x.2.2.2.1, x.2.2.2.2) : den tReservation) = x from rfl, s_validR, s_without hlen, s_rate h]
    unfold okR
    cases hv : validR x with
    | false => rfl
    | true =>
      simp only [obind_some, Bool.not_true, cond_false, Bool.true_and]
      have hany : ((((l.take k).filter fun y => !sameR x y).length : Int) != (k : Int)) = (l.take k).any (sameR x) := by
        have hk' : (l.take k).length = k := by simp; omega
        cases ha : (l.take k).any (sameR x) with
        | false =>
          have : (l.take k).filter (fun y => !sameR x y) = l.take k := by
            rw [List.filter_eq_self]
            intro y hy
            have := List.any_eq_false.1 ha y hy
            simpa using this
          rw [this, hk']; simp
        | true =>
          obtain ⟨y, hy, hs⟩ := List.any_eq_true.1 ha
          have hlt : ((l.take k).filter fun y => !sameR x y).length < (l.take k).length := by
            refine Nat.lt_of_le_of_ne (List.length_filter_le ..) fun he => ?_
            have := (List.length_filter_eq_length_iff.1 he) y hy
            rw [hs] at this
            cases this
          rw [bne_iff_ne]
          omega
      rw [hany]
      cases (l.take k).any (sameR x) <;> cases decide (rate l x.2.1 x.2.2.1 now > cap) <;> rfl) (by simp)]
  obtain ⟨h1, h2⟩ := scanI_none (okR l cap now) false () l 0
  rw [← h1]
  cases hsc : scanI (fun k x => if okR l cap now k x then none else some false) 0 l with
  | none => simp; omega
  | some q => rw [h2 q hsc]; simp

/-! ### usages -/
def sameU (id s d : Int) (x : den tUsage) : Bool := x.1 == id && (x.2.1 == s && x.2.2.1 == d)
def place (l : List (den tUsage)) (id s d : Int) : Int :=
  match scanI (fun k x => if sameU id s d x then some (k : Int) else none) 0 l with
  | some i => i
  | none => -1
theorem place_at (l : List (den tUsage)) (id s d : Int) : place l id s d = -1 ∨ ∃ (j : Nat) (x : den tUsage), place l id s d = (j : Int) ∧ l[j]? = some x ∧ j < l.length := by
  unfold place
  cases h : scanI (fun k x => if sameU id s d x then some (k : Int) else none) 0 l with
  | none => exact .inl rfl
  | some i =>
    obtain ⟨j, x, h1, h2, h3⟩ := scanI_at h
    exact .inr ⟨j, x, by simpa using h2, h1, (List.getElem?_eq_some_iff.1 h1).1⟩
theorem i_place {g : den tScheduler} {id s d : Int} (h : g.2.2.length ≤ 1048576) : i_usageAt g id s d = some (place g.2.2 id s d) := by
  unfold i_usageAt
  rw [loop_scan (l := g.2.2) (fun k x => if sameU id s d x then some (k : Int) else none) (by omega) (fun k x hi hd hw hx hk => by
    simp only [hd, hi, hw, cond_true, obind_some]
    unfold sameU
    cases x.1 == id <;> cases x.2.1 == s <;> cases x.2.2.1 == d <;> rfl) (by simp)]
  unfold place
  cases scanI (fun k x => if sameU id s d x then some (k : Int) else none) 0 g.2.2 <;> rfl
theorem s_place {l : List (den tUsage)} {id s d : Int} (h : l.length ≤ 1048576) : s_l34Place l id s d = some (place l id s d) := by
  unfold s_l34Place
  rw [loop_scan (l := l) (fun k x => if sameU id s d x then some (k : Int) else none) (by omega) (fun k x hi hd hw hx hk => by
    simp only [hd, hi, hw, cond_true, obind_some]
    unfold sameU
    cases x.1 == id <;> cases x.2.1 == s <;> cases x.2.2.1 == d <;> rfl) (by simp)]
  unfold place
  cases scanI (fun k x => if sameU id s d x then some (k : Int) else none) 0 l <;> rfl
def rateU (g : den tScheduler) (id s d now : Int) : Int := if id == 0 then free g.2.1 g.1 s d now else resRate g.2.1 id s d now
theorem i_rateU {g : den tScheduler} {id s d now : Int} (h : g.2.1.length ≤ 1048576) : i_rateOf g id s d now = some (rateU g id s d now) := by
  unfold i_rateOf rateU
  rw [i_free h, i_resRate h]
  cases id == 0 <;> rfl
def okU (g : den tScheduler) (now : Int) (k : Nat) (x : den tUsage) : Bool := place g.2.2 x.1 x.2.1 x.2.2.1 == (k : Int) && inR x.2.2.2 1 (rateU g x.1 x.2.1 x.2.2.1 now)
def validS (g : den tScheduler) (now : Int) : Bool := inR g.1 1 20 && (validRs g.2.1 g.1 now && (scanI (fun k x => if okU g now k x then none else some ()) 0 g.2.2).isNone)
theorem i_validS {g : den tScheduler} {now : Int} (h1 : g.2.1.length ≤ 1048576) (h2 : g.2.2.length ≤ 1048576) : i_ValidScheduler g now = some (validS g now) := by
  unfold i_ValidScheduler validS
  rw [loop_scan (l := g.2.2) (fun k x => if okU g now k x then none else some false) (by omega) (fun k x hi hd hw hx hk => by
    simp only [hd, hi, hw, cond_true, obind_some]
    rw [show ((g.1, g.2.1, g.2.2) : den tScheduler) = g from rfl, i_place h2, i_rateU h1]
    unfold okU
    simp only [obind_some, i_in, bne]
    cases place g.2.2 x.1 x.2.1 x.2.2.1 == (k : Int) <;> cases inR x.2.2.2 1 (rateU g x.1 x.2.1 x.2.2.1 now) <;> rfl) (by simp)]
  rw [← scanI_none (okU g now) false () g.2.2 0 |>.1]
  have h3 := (scanI_none (okU g now) false () g.2.2 0).2
  simp only [i_in, i_validRs h1, obind_some]
  cases inR g.1 1 20 <;> cases validRs g.2.1 g.1 now <;> (cases hsc : scanI (fun k x => if okU g now k x then none else some false) 0 g.2.2 with
    | none => rfl
    | some q => rw [h3 q hsc]; rfl)
theorem s_validS {g : den tScheduler} {now : Int} (h1 : g.2.1.length ≤ 1048576) (h2 : g.2.2.length ≤ 1048576) : s_ValidScheduler g now = some (validS g now) := by
  unfold s_ValidScheduler validS
  rw [loop_scan (l := g.2.2) (fun k x => if okU g now k x then none else some false) (by omega) (fun k x hi hd hw hx hk => by
    simp only [hd, hi, hw, cond_true, obind_some, s_place h2, s_free h1, s_resRate h1, s_in]
    unfold okU rateU
    simp only [bne]
    cases x.1 == 0 <;> simp only [cond_true, cond_false, obind_some, s_in, if_true, Bool.false_eq_true, if_false] <;> cases place g.2.2 x.1 x.2.1 x.2.2.1 == (k : Int) <;> simp only [Bool.not_true, Bool.not_false, cond_true, cond_false, obind_some, Bool.true_and, Bool.false_and] <;> (first | rfl | (split <;> simp_all))) (by simp)]
  rw [← scanI_none (okU g now) false () g.2.2 0 |>.1]
  have h3 := (scanI_none (okU g now) false () g.2.2 0).2
  simp only [s_in, s_validRs h1, obind_some]
  cases inR g.1 1 20 <;> cases validRs g.2.1 g.1 now <;> (cases hsc : scanI (fun k x => if okU g now k x then none else some false) 0 g.2.2 with
    | none => rfl
    | some q => rw [h3 q hsc]; rfl)
end Go.Proofs.Ytdmiboplfgmgiaa
