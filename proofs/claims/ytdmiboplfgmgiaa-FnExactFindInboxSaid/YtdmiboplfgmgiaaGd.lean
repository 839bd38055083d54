/-
  What each function of the program computes. Printed by a program. Conditions: none.
-/
import Derived.Test.YtdmiboplfgmgiaaGt
set_option linter.unusedVariables false
namespace Go.Proofs.Ytdmiboplfgmgiaa
open Go.Ab
def s_FindInbox_l1 (a_at : Int) (a_from : Int) : List GInbox → Nat → Sum (Int) (Unit)
  | [], _ => Sum.inr ()
  | x3 :: l1, k2 => cond (cond ((x3.AS : Int) == a_at) ((x3.Source : Int) == a_from) false) (Sum.inl (k2 : Int)) (s_FindInbox_l1 a_at a_from l1 (k2 + 1))
def s_FindInbox (a_l : List GInbox) (a_at : Int) (a_from : Int) : Int := Sum.elim (fun r => r) (fun _ => -1) (s_FindInbox_l1 a_at a_from a_l 0)

def i_FindInbox_l1 (a_as : Int) (a_source : Int) : List GInbox → Nat → Sum (Int) (Unit)
  | [], _ => Sum.inr ()
  | x3 :: l1, k2 => cond (cond ((x3.AS : Int) == a_as) ((x3.Source : Int) == a_source) false) (Sum.inl (k2 : Int)) (i_FindInbox_l1 a_as a_source l1 (k2 + 1))
def i_FindInbox (a_l : List GInbox) (a_as : Int) (a_source : Int) : Int := Sum.elim (fun r => r) (fun _ => -1) (i_FindInbox_l1 a_as a_source a_l 0)

def s_l1In (a_x : Int) (a_least : Int) (a_most : Int) : Bool := cond (decide ((a_x : Int) ≥ a_least)) (decide ((a_x : Int) ≤ a_most)) false

def i_InRange (a_n : Int) (a_a : Int) (a_b : Int) : Bool := cond (decide ((a_n : Int) ≥ a_a)) (decide ((a_n : Int) ≤ a_b)) false

def s_EqualBytes (a_a : List Int) (a_b : List Int) : Bool := (strOf a_a).toList == (strOf a_b).toList

def l_szReservationS (a_a : List GReservation) (a_left : Int) : Int := cond (decide (((wr (a_left - (a_a.length : Int))) : Int) < 0)) (-1) (wr (a_left - (a_a.length : Int)))

def l_szUsageS (a_a : List GUsage) (a_left : Int) : Int := cond (decide (((wr (a_left - (a_a.length : Int))) : Int) < 0)) (-1) (wr (a_left - (a_a.length : Int)))

def s_EqualReservations_l1 (a_b : List GReservation) : List GReservation → Nat → Sum (Bool) (Unit)
  | [], _ => Sum.inr ()
  | x4 :: l1, k3 => cond (!(((x4.ID : Int) == ((a_b.getD k3 GReservation.zero).ID)) && (((x4.AS : Int) == ((a_b.getD k3 GReservation.zero).AS)) && (((x4.Interface : Int) == ((a_b.getD k3 GReservation.zero).Interface)) && (((x4.Rate : Int) == ((a_b.getD k3 GReservation.zero).Rate)) && (((x4.Until : Int) == ((a_b.getD k3 GReservation.zero).Until)) && true)))))) (Sum.inl false) (s_EqualReservations_l1 a_b l1 (k3 + 1))
def s_EqualReservations (a_a : List GReservation) (a_b : List GReservation) : Bool := cond (((a_a.length : Int) : Int) != (a_b.length : Int)) false (Sum.elim (fun r => r) (fun _ => true) (s_EqualReservations_l1 a_b a_a 0))

def i_EqualReservations_l1 (a_b : List GReservation) : List GReservation → Nat → Sum (Bool) (Unit)
  | [], _ => Sum.inr ()
  | x4 :: l1, k3 => cond (!(((x4.ID : Int) == ((a_b.getD k3 GReservation.zero).ID)) && (((x4.AS : Int) == ((a_b.getD k3 GReservation.zero).AS)) && (((x4.Interface : Int) == ((a_b.getD k3 GReservation.zero).Interface)) && (((x4.Rate : Int) == ((a_b.getD k3 GReservation.zero).Rate)) && (((x4.Until : Int) == ((a_b.getD k3 GReservation.zero).Until)) && true)))))) (Sum.inl false) (i_EqualReservations_l1 a_b l1 (k3 + 1))
def i_EqualReservations (a_a : List GReservation) (a_b : List GReservation) : Bool := cond (((a_a.length : Int) : Int) != (a_b.length : Int)) false (Sum.elim (fun r => r) (fun _ => true) (i_EqualReservations_l1 a_b a_a 0))

def i_EqualBytes (a_a : List Int) (a_b : List Int) : Bool := (strOf a_a).toList == (strOf a_b).toList

def l_eqReservation (a_a : GReservation) (a_b : GReservation) : Bool := cond ((a_a.ID : Int) != a_b.ID) false (cond ((a_a.AS : Int) != a_b.AS) false (cond ((a_a.Interface : Int) != a_b.Interface) false (cond ((a_a.Rate : Int) != a_b.Rate) false (cond ((a_a.Until : Int) != a_b.Until) false true))))

def l_eqUsage (a_a : GUsage) (a_b : GUsage) : Bool := cond ((a_a.ID : Int) != a_b.ID) false (cond ((a_a.AS : Int) != a_b.AS) false (cond ((a_a.Interface : Int) != a_b.Interface) false (cond ((a_a.Count : Int) != a_b.Count) false true)))

def l_toReservation (a_a : GReservation) : GReservation := a_a

def l_toUsage (a_a : GUsage) : GUsage := a_a

def l_eqByteS_l1 (a_b : List Int) : List Int → Nat → Sum (Bool) (Unit)
  | [], _ => Sum.inr ()
  | x4 :: l1, k3 => cond ((x4 : Int) != (a_b.getD k3 0)) (Sum.inl false) (l_eqByteS_l1 a_b l1 (k3 + 1))
def l_eqByteS (a_a : List Int) (a_b : List Int) : Bool := cond (((a_a.length : Int) : Int) != (a_b.length : Int)) false (Sum.elim (fun r => r) (fun _ => true) (l_eqByteS_l1 a_b a_a 0))

def l_szByteS (a_a : List Int) (a_left : Int) : Int := cond (decide (((wr (a_left - (a_a.length : Int))) : Int) < 0)) (-1) (wr (a_left - (a_a.length : Int)))

def l_toByteS_l1  : List Int → Nat → List Int → List Int
  | [], _, c2 => c2
  | x4 :: l1, k3, c2 => l_toByteS_l1  l1 (k3 + 1) (c2.set k3 x4)
def l_toByteS (a_a : List Int) : List Int := (fun c2 => c2) (l_toByteS_l1  a_a 0 (List.replicate a_a.length 0))

def i_usageAt_l1 (a_id : Int) (a_as : Int) (a_iface : Int) : List GUsage → Nat → Sum (Int) (Unit)
  | [], _ => Sum.inr ()
  | x3 :: l1, k2 => cond (cond (cond ((x3.ID : Int) == a_id) ((x3.AS : Int) == a_as) false) ((x3.Interface : Int) == a_iface) false) (Sum.inl (k2 : Int)) (i_usageAt_l1 a_id a_as a_iface l1 (k2 + 1))
def i_usageAt (a_g : GScheduler) (a_id : Int) (a_as : Int) (a_iface : Int) : Int := Sum.elim (fun r => r) (fun _ => -1) (i_usageAt_l1 a_id a_as a_iface a_g.Usages 0)

def s_l34Place_l1 (a_id : Int) (a_realm : Int) (a_door : Int) : List GUsage → Nat → Sum (Int) (Unit)
  | [], _ => Sum.inr ()
  | x3 :: l1, k2 => cond (cond (cond ((x3.ID : Int) == a_id) ((x3.AS : Int) == a_realm) false) ((x3.Interface : Int) == a_door) false) (Sum.inl (k2 : Int)) (s_l34Place_l1 a_id a_realm a_door l1 (k2 + 1))
def s_l34Place (a_l : List GUsage) (a_id : Int) (a_realm : Int) (a_door : Int) : Int := Sum.elim (fun r => r) (fun _ => -1) (s_l34Place_l1 a_id a_realm a_door a_l 0)

def s_UsedCount (a_g : GScheduler) (a_id : Int) (a_realm : Int) (a_door : Int) : Int := cond (decide (((s_l34Place a_g.Usages a_id a_realm a_door) : Int) < 0)) 0 ((a_g.Usages.getD ((s_l34Place a_g.Usages a_id a_realm a_door).toNat) GUsage.zero).Count)

def i_UsedCount (a_g : GScheduler) (a_id : Int) (a_as : Int) (a_iface : Int) : Int := cond (decide (((i_usageAt a_g a_id a_as a_iface) : Int) ≥ 0)) ((a_g.Usages.getD ((i_usageAt a_g a_id a_as a_iface).toNat) GUsage.zero).Count) 0

def s_EventName (a_kind : Int) : ByteArray := cond (!(s_l1In a_kind 0 (wr ((([bs #[], bs #[116, 105, 99, 107], bs #[100, 101, 108, 105, 118, 101, 114], bs #[100, 114, 111, 112], bs #[100, 117, 112, 108, 105, 99, 97, 116, 101], bs #[102, 97, 105, 108], bs #[114, 101, 112, 97, 105, 114], bs #[105, 110, 106, 101, 99, 116], bs #[115, 101, 110, 100], bs #[114, 101, 102, 114, 101, 115, 104]]).length : Int) - 1)))) (bs #[]) (([bs #[], bs #[116, 105, 99, 107], bs #[100, 101, 108, 105, 118, 101, 114], bs #[100, 114, 111, 112], bs #[100, 117, 112, 108, 105, 99, 97, 116, 101], bs #[102, 97, 105, 108], bs #[114, 101, 112, 97, 105, 114], bs #[105, 110, 106, 101, 99, 116], bs #[115, 101, 110, 100], bs #[114, 101, 102, 114, 101, 115, 104]]).getD a_kind.toNat (bs #[]))

def i_EventName (a_kind : Int) : ByteArray := cond (!(i_InRange a_kind 1 9)) (bs #[]) ([bs #[], bs #[116, 105, 99, 107], bs #[100, 101, 108, 105, 118, 101, 114], bs #[100, 114, 111, 112], bs #[100, 117, 112, 108, 105, 99, 97, 116, 101], bs #[102, 97, 105, 108], bs #[114, 101, 112, 97, 105, 114], bs #[105, 110, 106, 101, 99, 116], bs #[115, 101, 110, 100], bs #[114, 101, 102, 114, 101, 115, 104]].getD a_kind.toNat (bs #[]))

def s_ValidInbox_l1  : List GMessage → Nat → Sum (Bool) (Unit)
  | [], _ => Sum.inr ()
  | x3 :: l1, k2 => cond (decide (((x3.Data.length : Int) : Int) > 40)) (Sum.inl false) (s_ValidInbox_l1  l1 (k2 + 1))
def s_ValidInbox (a_x : GInbox) : Bool := Sum.elim (fun r => r) (fun _ => cond (cond (cond (cond (s_l1In a_x.AS 0 7) (s_l1In a_x.Source 0 7) false) ((a_x.AS : Int) != a_x.Source) false) ((a_x.Next : Int) == (a_x.Received.length : Int)) false) (decide ((a_x.Next : Int) ≤ 20)) false) (s_ValidInbox_l1  a_x.Received 0)

def i_ValidInbox_l1  : List GMessage → Nat → Sum (Bool) (Unit)
  | [], _ => Sum.inr ()
  | x4 :: l1, k3 => cond (decide (((x4.Data.length : Int) : Int) > 40)) (Sum.inl false) (i_ValidInbox_l1  l1 (k3 + 1))
def i_ValidInbox (a_x : GInbox) : Bool := cond (cond (cond (cond (cond (!(i_InRange a_x.AS 0 7)) true (!(i_InRange a_x.Source 0 7))) true ((a_x.AS : Int) == a_x.Source)) true ((a_x.Next : Int) != (a_x.Received.length : Int))) true (decide ((a_x.Next : Int) > 20))) false (Sum.elim (fun r => r) (fun _ => true) (i_ValidInbox_l1  a_x.Received 0))

def s_EqualInboxes_l1 (a_b : GInbox) : List GMessage → Nat → Sum (Bool) (Unit)
  | [], _ => Sum.inr ()
  | x4 :: l1, k3 => cond (!(s_EqualBytes x4.Data ((a_b.Received.getD k3 GMessage.zero).Data))) (Sum.inl false) (s_EqualInboxes_l1 a_b l1 (k3 + 1))
def s_EqualInboxes (a_a : GInbox) (a_b : GInbox) : Bool := cond (cond (cond (cond ((a_a.AS : Int) != a_b.AS) true ((a_a.Source : Int) != a_b.Source)) true ((a_a.Next : Int) != a_b.Next)) true (((a_a.Received.length : Int) : Int) != (a_b.Received.length : Int))) false (Sum.elim (fun r => r) (fun _ => true) (s_EqualInboxes_l1 a_b a_a.Received 0))

def l_szScheduler (a_a : GScheduler) (a_left : Int) : Int := cond (decide (((l_szReservationS a_a.Reservations a_left) : Int) < 0)) (-1) (cond (decide (((l_szUsageS a_a.Usages (l_szReservationS a_a.Reservations a_left)) : Int) < 0)) (-1) (l_szUsageS a_a.Usages (l_szReservationS a_a.Reservations a_left)))

def s_EqualSchedulers_l1 (a_b : GScheduler) : List GUsage → Nat → Sum (Bool) (Unit)
  | [], _ => Sum.inr ()
  | x4 :: l1, k3 => cond (!(((x4.ID : Int) == ((a_b.Usages.getD k3 GUsage.zero).ID)) && (((x4.AS : Int) == ((a_b.Usages.getD k3 GUsage.zero).AS)) && (((x4.Interface : Int) == ((a_b.Usages.getD k3 GUsage.zero).Interface)) && (((x4.Count : Int) == ((a_b.Usages.getD k3 GUsage.zero).Count)) && true))))) (Sum.inl false) (s_EqualSchedulers_l1 a_b l1 (k3 + 1))
def s_EqualSchedulers (a_a : GScheduler) (a_b : GScheduler) : Bool := cond (cond (cond ((a_a.Capacity : Int) != a_b.Capacity) true (!(s_EqualReservations a_a.Reservations a_b.Reservations))) true (((a_a.Usages.length : Int) : Int) != (a_b.Usages.length : Int))) false (Sum.elim (fun r => r) (fun _ => true) (s_EqualSchedulers_l1 a_b a_a.Usages 0))

def i_EqualSchedulers_l1 (a_b : GScheduler) : List GUsage → Nat → Sum (Bool) (Unit)
  | [], _ => Sum.inr ()
  | x4 :: l1, k3 => cond (!(((x4.ID : Int) == ((a_b.Usages.getD k3 GUsage.zero).ID)) && (((x4.AS : Int) == ((a_b.Usages.getD k3 GUsage.zero).AS)) && (((x4.Interface : Int) == ((a_b.Usages.getD k3 GUsage.zero).Interface)) && (((x4.Count : Int) == ((a_b.Usages.getD k3 GUsage.zero).Count)) && true))))) (Sum.inl false) (i_EqualSchedulers_l1 a_b l1 (k3 + 1))
def i_EqualSchedulers (a_a : GScheduler) (a_b : GScheduler) : Bool := cond (cond (cond ((a_a.Capacity : Int) != a_b.Capacity) true (!(i_EqualReservations a_a.Reservations a_b.Reservations))) true (((a_a.Usages.length : Int) : Int) != (a_b.Usages.length : Int))) false (Sum.elim (fun r => r) (fun _ => true) (i_EqualSchedulers_l1 a_b a_a.Usages 0))

def i_equalMessages_l1 (a_b : List GMessage) : List GMessage → Nat → Sum (Bool) (Unit)
  | [], _ => Sum.inr ()
  | x4 :: l1, k3 => cond (!(i_EqualBytes x4.Data ((a_b.getD k3 GMessage.zero).Data))) (Sum.inl false) (i_equalMessages_l1 a_b l1 (k3 + 1))
def i_equalMessages (a_a : List GMessage) (a_b : List GMessage) : Bool := cond (((a_a.length : Int) : Int) != (a_b.length : Int)) false (Sum.elim (fun r => r) (fun _ => true) (i_equalMessages_l1 a_b a_a 0))

def l_eqReservationS_l1 (a_b : List GReservation) : List GReservation → Nat → Sum (Bool) (Unit)
  | [], _ => Sum.inr ()
  | x4 :: l1, k3 => cond (!(l_eqReservation x4 (a_b.getD k3 GReservation.zero))) (Sum.inl false) (l_eqReservationS_l1 a_b l1 (k3 + 1))
def l_eqReservationS (a_a : List GReservation) (a_b : List GReservation) : Bool := cond (((a_a.length : Int) : Int) != (a_b.length : Int)) false (Sum.elim (fun r => r) (fun _ => true) (l_eqReservationS_l1 a_b a_a 0))

def l_eqUsageS_l1 (a_b : List GUsage) : List GUsage → Nat → Sum (Bool) (Unit)
  | [], _ => Sum.inr ()
  | x4 :: l1, k3 => cond (!(l_eqUsage x4 (a_b.getD k3 GUsage.zero))) (Sum.inl false) (l_eqUsageS_l1 a_b l1 (k3 + 1))
def l_eqUsageS (a_a : List GUsage) (a_b : List GUsage) : Bool := cond (((a_a.length : Int) : Int) != (a_b.length : Int)) false (Sum.elim (fun r => r) (fun _ => true) (l_eqUsageS_l1 a_b a_a 0))

def l_toReservationS_l1  : List GReservation → Nat → List GReservation → List GReservation
  | [], _, c2 => c2
  | x4 :: l1, k3, c2 => l_toReservationS_l1  l1 (k3 + 1) (c2.set k3 (l_toReservation x4))
def l_toReservationS (a_a : List GReservation) : List GReservation := (fun c2 => c2) (l_toReservationS_l1  a_a 0 (List.replicate a_a.length GReservation.zero))

def l_toUsageS_l1  : List GUsage → Nat → List GUsage → List GUsage
  | [], _, c2 => c2
  | x4 :: l1, k3, c2 => l_toUsageS_l1  l1 (k3 + 1) (c2.set k3 (l_toUsage x4))
def l_toUsageS (a_a : List GUsage) : List GUsage := (fun c2 => c2) (l_toUsageS_l1  a_a 0 (List.replicate a_a.length GUsage.zero))

def l_eqMessage (a_a : GMessage) (a_b : GMessage) : Bool := cond (!(l_eqByteS a_a.Data a_b.Data)) false true

def l_szMessage (a_a : GMessage) (a_left : Int) : Int := cond (decide (((l_szByteS a_a.Data a_left) : Int) < 0)) (-1) (l_szByteS a_a.Data a_left)

def l_toMessage (a_a : GMessage) : GMessage := (⟨(l_toByteS a_a.Data)⟩ : GMessage)

def l_FnExactEventName (a_aKind : Int) : Bool := cond (!((i_EventName a_aKind).toList == (s_EventName a_aKind).toList)) false true

def i_EqualInboxes (a_a : GInbox) (a_b : GInbox) : Bool := cond (cond (cond ((a_a.AS : Int) == a_b.AS) ((a_a.Source : Int) == a_b.Source) false) ((a_a.Next : Int) == a_b.Next) false) (i_equalMessages a_a.Received a_b.Received) false

def l_eqScheduler (a_a : GScheduler) (a_b : GScheduler) : Bool := cond ((a_a.Capacity : Int) != a_b.Capacity) false (cond (!(l_eqReservationS a_a.Reservations a_b.Reservations)) false (cond (!(l_eqUsageS a_a.Usages a_b.Usages)) false true))

def l_toScheduler (a_a : GScheduler) : GScheduler := (⟨a_a.Capacity, (l_toReservationS a_a.Reservations), (l_toUsageS a_a.Usages)⟩ : GScheduler)

def l_eqMessageS_l1 (a_b : List GMessage) : List GMessage → Nat → Sum (Bool) (Unit)
  | [], _ => Sum.inr ()
  | x4 :: l1, k3 => cond (!(l_eqMessage x4 (a_b.getD k3 GMessage.zero))) (Sum.inl false) (l_eqMessageS_l1 a_b l1 (k3 + 1))
def l_eqMessageS (a_a : List GMessage) (a_b : List GMessage) : Bool := cond (((a_a.length : Int) : Int) != (a_b.length : Int)) false (Sum.elim (fun r => r) (fun _ => true) (l_eqMessageS_l1 a_b a_a 0))

def l_szMessageS_l1  : List GMessage → Nat → Int → Sum (Int) (Int)
  | [], _, c2 => Sum.inr c2
  | x5 :: l1, k4, c2 => cond (decide (((l_szMessage x5 c2) : Int) < 0)) (Sum.inl (-1)) (l_szMessageS_l1  l1 (k4 + 1) (l_szMessage x5 c2))
def l_szMessageS (a_a : List GMessage) (a_left : Int) : Int := cond (decide (((wr (a_left - (a_a.length : Int))) : Int) < 0)) (-1) (Sum.elim (fun r => r) (fun c2 => c2) (l_szMessageS_l1  a_a 0 (wr (a_left - (a_a.length : Int)))))

def l_toMessageS_l1  : List GMessage → Nat → List GMessage → List GMessage
  | [], _, c2 => c2
  | x4 :: l1, k3, c2 => l_toMessageS_l1  l1 (k3 + 1) (c2.set k3 (l_toMessage x4))
def l_toMessageS (a_a : List GMessage) : List GMessage := (fun c2 => c2) (l_toMessageS_l1  a_a 0 (List.replicate a_a.length GMessage.zero))

def l_FnExactEqualSchedulers (a_aA : GScheduler) (a_aB : GScheduler) : Bool := cond (decide (((l_szScheduler a_aA 1048576) : Int) < 0)) true (cond (decide (((l_szScheduler a_aB (l_szScheduler a_aA 1048576)) : Int) < 0)) true (cond (!((i_EqualSchedulers (l_toScheduler a_aA) (l_toScheduler a_aB)) == (s_EqualSchedulers (l_toScheduler a_aA) (l_toScheduler a_aB)))) false (cond (!(l_eqScheduler (l_toScheduler a_aA) (l_toScheduler a_aA))) false (cond (!(l_eqScheduler (l_toScheduler a_aB) (l_toScheduler a_aB))) false true))))

def l_eqInbox (a_a : GInbox) (a_b : GInbox) : Bool := cond ((a_a.AS : Int) != a_b.AS) false (cond ((a_a.Source : Int) != a_b.Source) false (cond ((a_a.Next : Int) != a_b.Next) false (cond (!(l_eqMessageS a_a.Received a_b.Received)) false true)))

def l_szInbox (a_a : GInbox) (a_left : Int) : Int := cond (decide (((l_szMessageS a_a.Received a_left) : Int) < 0)) (-1) (l_szMessageS a_a.Received a_left)

def l_toInbox (a_a : GInbox) : GInbox := (⟨a_a.AS, a_a.Source, a_a.Next, (l_toMessageS a_a.Received)⟩ : GInbox)

def l_szInboxS_l1  : List GInbox → Nat → Int → Sum (Int) (Int)
  | [], _, c2 => Sum.inr c2
  | x5 :: l1, k4, c2 => cond (decide (((l_szInbox x5 c2) : Int) < 0)) (Sum.inl (-1)) (l_szInboxS_l1  l1 (k4 + 1) (l_szInbox x5 c2))
def l_szInboxS (a_a : List GInbox) (a_left : Int) : Int := cond (decide (((wr (a_left - (a_a.length : Int))) : Int) < 0)) (-1) (Sum.elim (fun r => r) (fun c2 => c2) (l_szInboxS_l1  a_a 0 (wr (a_left - (a_a.length : Int)))))

def l_toInboxS_l1  : List GInbox → Nat → List GInbox → List GInbox
  | [], _, c2 => c2
  | x4 :: l1, k3, c2 => l_toInboxS_l1  l1 (k3 + 1) (c2.set k3 (l_toInbox x4))
def l_toInboxS (a_a : List GInbox) : List GInbox := (fun c2 => c2) (l_toInboxS_l1  a_a 0 (List.replicate a_a.length GInbox.zero))

def l_eqInboxS_l1 (a_b : List GInbox) : List GInbox → Nat → Sum (Bool) (Unit)
  | [], _ => Sum.inr ()
  | x4 :: l1, k3 => cond (!(l_eqInbox x4 (a_b.getD k3 GInbox.zero))) (Sum.inl false) (l_eqInboxS_l1 a_b l1 (k3 + 1))
def l_eqInboxS (a_a : List GInbox) (a_b : List GInbox) : Bool := cond (((a_a.length : Int) : Int) != (a_b.length : Int)) false (Sum.elim (fun r => r) (fun _ => true) (l_eqInboxS_l1 a_b a_a 0))

def l_FnExactValidInbox (a_aX : GInbox) : Bool := cond (decide (((l_szInbox a_aX 1048576) : Int) < 0)) true (cond (!((i_ValidInbox (l_toInbox a_aX)) == (s_ValidInbox (l_toInbox a_aX)))) false (cond (!(l_eqInbox (l_toInbox a_aX) (l_toInbox a_aX))) false true))

def l_FnExactEqualInboxes (a_aA : GInbox) (a_aB : GInbox) : Bool := cond (decide (((l_szInbox a_aA 1048576) : Int) < 0)) true (cond (decide (((l_szInbox a_aB (l_szInbox a_aA 1048576)) : Int) < 0)) true (cond (!((i_EqualInboxes (l_toInbox a_aA) (l_toInbox a_aB)) == (s_EqualInboxes (l_toInbox a_aA) (l_toInbox a_aB)))) false (cond (!(l_eqInbox (l_toInbox a_aA) (l_toInbox a_aA))) false (cond (!(l_eqInbox (l_toInbox a_aB) (l_toInbox a_aB))) false true))))

def l_FnExactFindInbox (a_aL : List GInbox) (a_aAs : Int) (a_aSource : Int) : Bool := cond (decide (((l_szInboxS a_aL 1048576) : Int) < 0)) true (cond (((i_FindInbox (l_toInboxS a_aL) a_aAs a_aSource) : Int) != (s_FindInbox (l_toInboxS a_aL) a_aAs a_aSource)) false (cond (!(l_eqInboxS (l_toInboxS a_aL) (l_toInboxS a_aL))) false true))

end Go.Proofs.Ytdmiboplfgmgiaa
