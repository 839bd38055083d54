/-
  Plain facts: the functions of the program compute what the functions of the reference compute. Conditions: those of each theorem.
-/
import Derived.Test.YtdmiboplfgmgiaaGl
set_option linter.unusedVariables false
namespace Go.Proofs.Ytdmiboplfgmgiaa
open Go.Ab
theorem eqS_refl {α : Type} {eq : α → α → Bool} {z : α} {L : List α → List α → Nat → Sum Bool Unit} (hn : ∀ b k, L b [] k = Sum.inr ()) (hc : ∀ b x l k, L b (x :: l) k = cond (!(eq x (b.getD k z))) (Sum.inl false) (L b l (k + 1))) (hr : ∀ x, eq x x = true) :
    ∀ (b l : List α) (k : Nat), l = b.drop k → L b l k = Sum.inr () := by
  intro b l
  induction l with
  | nil => intro k _; exact hn b k
  | cons x l ih =>
    intro k hk
    have h1 : b[k]? = some x := by
      have : (b.drop k)[0]? = some x := by rw [← hk]; rfl
      simpa using this
    have h2 : b.getD k z = x := by simp [List.getD, h1]
    have h3 : l = b.drop (k + 1) := by
      have : (b.drop k).drop 1 = l := by rw [← hk]; rfl
      rw [List.drop_drop] at this
      exact this.symm
    rw [hc, h2, hr x]
    exact ih (k + 1) h3

theorem l_eqByteS_refl (a : List Int) : l_eqByteS a a = true := by
  unfold l_eqByteS
  rw [eqS_refl (eq := fun x y => x == y) (z := 0) (L := l_eqByteS_l1) (fun _ _ => rfl) (fun b x l k => by rw [l_eqByteS_l1]; simp [bne]) (fun x => by simp) a a 0 rfl]
  simp
theorem l_eqMessage_refl (x : GMessage) : l_eqMessage x x = true := by simp [l_eqMessage, l_eqByteS_refl]
theorem l_eqMessageS_refl (a : List GMessage) : l_eqMessageS a a = true := by
  unfold l_eqMessageS
  rw [eqS_refl (L := l_eqMessageS_l1) (fun _ _ => rfl) (fun _ _ _ _ => rfl) l_eqMessage_refl a a 0 rfl]
  simp
theorem l_eqInbox_refl (x : GInbox) : l_eqInbox x x = true := by simp [l_eqInbox, l_eqMessageS_refl]
theorem l_eqInboxS_refl (a : List GInbox) : l_eqInboxS a a = true := by
  unfold l_eqInboxS
  rw [eqS_refl (L := l_eqInboxS_l1) (fun _ _ => rfl) (fun _ _ _ _ => rfl) l_eqInbox_refl a a 0 rfl]
  simp
theorem l_eqReservation_refl (x : GReservation) : l_eqReservation x x = true := by simp [l_eqReservation]
theorem l_eqReservationS_refl (a : List GReservation) : l_eqReservationS a a = true := by
  unfold l_eqReservationS
  rw [eqS_refl (L := l_eqReservationS_l1) (fun _ _ => rfl) (fun _ _ _ _ => rfl) l_eqReservation_refl a a 0 rfl]
  simp
theorem l_eqUsage_refl (x : GUsage) : l_eqUsage x x = true := by simp [l_eqUsage]
theorem l_eqUsageS_refl (a : List GUsage) : l_eqUsageS a a = true := by
  unfold l_eqUsageS
  rw [eqS_refl (L := l_eqUsageS_l1) (fun _ _ => rfl) (fun _ _ _ _ => rfl) l_eqUsage_refl a a 0 rfl]
  simp
theorem l_eqScheduler_refl (x : GScheduler) : l_eqScheduler x x = true := by simp [l_eqScheduler, l_eqReservationS_refl, l_eqUsageS_refl]

theorem gt_not (a b : Int) : decide (a > b) = !decide (a ≤ b) := by by_cases h : a ≤ b <;> simp [h] <;> omega
theorem inRange_eq : i_InRange = s_l1In := by funext a b c; rfl
theorem validInbox_l1 : ∀ (l : List GMessage) (k j : Nat), i_ValidInbox_l1 l k = s_ValidInbox_l1 l j
  | [], _, _ => rfl
  | x :: l, k, j => by rw [i_ValidInbox_l1, s_ValidInbox_l1, validInbox_l1 l (k + 1) (j + 1)]
theorem validInbox_l1_inl : ∀ (l : List GMessage) (k : Nat) (r : Bool), s_ValidInbox_l1 l k = Sum.inl r → r = false
  | [], _, r, h => by cases h
  | x :: l, k, r, h => by
    rw [s_ValidInbox_l1] at h
    cases hc : decide ((x.Data.length : Int) > 40) with
    | true => rw [hc, cond_true] at h; injection h with h; exact h.symm
    | false => rw [hc, cond_false] at h; exact validInbox_l1_inl l (k + 1) r h
theorem validInbox_eq (x : GInbox) : i_ValidInbox x = s_ValidInbox x := by
  unfold i_ValidInbox s_ValidInbox
  rw [validInbox_l1 x.Received 0 0, inRange_eq]
  cases h : s_ValidInbox_l1 x.Received 0 with
  | inl r =>
    have := validInbox_l1_inl _ _ _ h
    subst this
    simp
  | inr u =>
    simp only [Sum.elim_inr]
    rw [gt_not, bne, bne]
    cases s_l1In x.AS 0 7 <;> cases s_l1In x.Source 0 7 <;> cases x.AS == x.Source <;> cases x.Next == (x.Received.length : Int) <;> cases decide (x.Next ≤ 20) <;> rfl
theorem equalMessages_l1 (b : GInbox) : ∀ (l : List GMessage) (k : Nat), i_equalMessages_l1 b.Received l k = s_EqualInboxes_l1 b l k
  | [], _ => rfl
  | x :: l, k => by rw [i_equalMessages_l1, s_EqualInboxes_l1, equalMessages_l1 b l (k + 1)]; rfl
theorem equalInboxes_eq (a b : GInbox) : i_EqualInboxes a b = s_EqualInboxes a b := by
  unfold i_EqualInboxes s_EqualInboxes i_equalMessages
  rw [equalMessages_l1]
  simp only [bne]
  cases a.AS == b.AS <;> cases a.Source == b.Source <;> cases a.Next == b.Next <;> cases (a.Received.length : Int) == (b.Received.length : Int) <;> rfl
theorem findInbox_l1 (p q : Int) : ∀ (l : List GInbox) (k : Nat), i_FindInbox_l1 p q l k = s_FindInbox_l1 p q l k
  | [], _ => rfl
  | x :: l, k => by rw [i_FindInbox_l1, s_FindInbox_l1, findInbox_l1 p q l (k + 1)]
theorem findInbox_eq (l : List GInbox) (p q : Int) : i_FindInbox l p q = s_FindInbox l p q := by
  unfold i_FindInbox s_FindInbox; rw [findInbox_l1]
theorem equalReservations_l1 (b : List GReservation) : ∀ (l : List GReservation) (k : Nat), i_EqualReservations_l1 b l k = s_EqualReservations_l1 b l k
  | [], _ => rfl
  | x :: l, k => by rw [i_EqualReservations_l1, s_EqualReservations_l1, equalReservations_l1 b l (k + 1)]
theorem equalReservations_eq (a b : List GReservation) : i_EqualReservations a b = s_EqualReservations a b := by
  unfold i_EqualReservations s_EqualReservations; rw [equalReservations_l1]
theorem equalSchedulers_l1 (b : GScheduler) : ∀ (l : List GUsage) (k : Nat), i_EqualSchedulers_l1 b l k = s_EqualSchedulers_l1 b l k
  | [], _ => rfl
  | x :: l, k => by rw [i_EqualSchedulers_l1, s_EqualSchedulers_l1, equalSchedulers_l1 b l (k + 1)]
theorem equalSchedulers_eq (a b : GScheduler) : i_EqualSchedulers a b = s_EqualSchedulers a b := by
  unfold i_EqualSchedulers s_EqualSchedulers; rw [equalSchedulers_l1, equalReservations_eq]


end Go.Proofs.Ytdmiboplfgmgiaa
