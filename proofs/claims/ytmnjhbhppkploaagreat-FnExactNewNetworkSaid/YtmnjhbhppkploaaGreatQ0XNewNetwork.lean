/-
  Facts and plain laws: what the functions compute, in plain words. Conditions: as each says.
-/
import Derived.Test.YtmnjhbhppkploaaGreatT0XNewNetwork
set_option linter.unusedVariables false
set_option linter.unusedSimpArgs false
set_option maxRecDepth 100000
namespace Go.Proofs.YtmnjhbhppkploaaGreat
open Go.Ab Go.V
theorem sz_ASS {l : den (.sl tAS)} {left : Int} (w : Wf (.sl tAS) l) (h0 : 0 ≤ left) (h1 : left ≤ 1048576) : SzT (l_szASS l left) left (tot (.sl tAS) l) := szF_ok (t := tAS) rfl w.1 h0 h1

theorem sz_LinkS {l : den (.sl tLink)} {left : Int} (w : Wf (.sl tLink) l) (h0 : 0 ≤ left) (h1 : left ≤ 1048576) : SzT (l_szLinkS l left) left (tot (.sl tLink) l) := szF_ok (t := tLink) rfl w.1 h0 h1

theorem sz_Topology {x : den tTopology} {left : Int} (w : Wf tTopology x) (h0 : 0 ≤ left) (h1 : left ≤ 1048576) : SzT (l_szTopology x left) left (tot tTopology x) := SzT.eq (sz_field (sz_ASS w.1 h0 h1) h1 fun r0 a0 b0 => sz_field (sz_LinkS w.2 a0 b0) b0 fun r1 a1 b1 => sz_done a1) (by simp [tot, tot_flat] <;> omega)

theorem sz_HopS {l : den (.sl tHop)} {left : Int} (w : Wf (.sl tHop) l) (h0 : 0 ≤ left) (h1 : left ≤ 1048576) : SzT (l_szHopS l left) left (tot (.sl tHop) l) := szF_ok (t := tHop) rfl w.1 h0 h1

theorem sz_Segment {x : den tSegment} {left : Int} (w : Wf tSegment x) (h0 : 0 ≤ left) (h1 : left ≤ 1048576) : SzT (l_szSegment x left) left (tot tSegment x) := SzT.eq (sz_field (sz_HopS w.2.2 h0 h1) h1 fun r0 a0 b0 => sz_done a0) (by simp [tot, tot_flat])

theorem sz_SegmentS {l : den (.sl tSegment)} {left : Int} (w : Wf (.sl tSegment) l) (h0 : 0 ≤ left) (h1 : left ≤ 1048576) : SzT (l_szSegmentS l left) left (tot (.sl tSegment) l) := szL_ok (t := tSegment) (szE := l_szSegment) w.1 h0 h1 fun x hx k k0 k1 => sz_Segment (w.2 x hx) k0 k1

theorem sz_SegmentDatabase {x : den tSegmentDatabase} {left : Int} (w : Wf tSegmentDatabase x) (h0 : 0 ≤ left) (h1 : left ≤ 1048576) : SzT (l_szSegmentDatabase x left) left (tot tSegmentDatabase x) := SzT.eq (sz_field (sz_SegmentS w.1 h0 h1) h1 fun r0 a0 b0 => sz_field (sz_SegmentS w.2 a0 b0) b0 fun r1 a1 b1 => sz_done a1) (by simp [tot, tot_flat] <;> omega)

theorem to_AS {x : den tAS} (h : Sm tAS x) : l_toAS x = some x := by
  unfold l_toAS
  rfl

theorem to_ASS {l : den (.sl tAS)} (h : Sm (.sl tAS) l) : l_toASS l = some l := by
  have : l_toASS l = some (l.map id) := toL_eq (toE := l_toAS) (g := id) h.1 (by decide) fun x hx => to_AS (h.2 x hx)
  simpa using this

theorem to_Link {x : den tLink} (h : Sm tLink x) : l_toLink x = some x := by
  unfold l_toLink
  rfl

theorem to_LinkS {l : den (.sl tLink)} (h : Sm (.sl tLink) l) : l_toLinkS l = some l := by
  have : l_toLinkS l = some (l.map id) := toL_eq (toE := l_toLink) (g := id) h.1 (by decide) fun x hx => to_Link (h.2 x hx)
  simpa using this

theorem to_Topology {x : den tTopology} (h : Sm tTopology x) : l_toTopology x = some x := by
  unfold l_toTopology
  simp [to_ASS h.1, to_LinkS h.2]

theorem to_Hop {x : den tHop} (h : Sm tHop x) : l_toHop x = some x := by
  unfold l_toHop
  rfl

theorem to_HopS {l : den (.sl tHop)} (h : Sm (.sl tHop) l) : l_toHopS l = some l := by
  have : l_toHopS l = some (l.map id) := toL_eq (toE := l_toHop) (g := id) h.1 (by decide) fun x hx => to_Hop (h.2 x hx)
  simpa using this

theorem to_Segment {x : den tSegment} (h : Sm tSegment x) : l_toSegment x = some x := by
  unfold l_toSegment
  simp [to_HopS h.2.2]

theorem to_SegmentS {l : den (.sl tSegment)} (h : Sm (.sl tSegment) l) : l_toSegmentS l = some l := by
  have : l_toSegmentS l = some (l.map id) := toL_eq (toE := l_toSegment) (g := id) h.1 (by decide) fun x hx => to_Segment (h.2 x hx)
  simpa using this

theorem to_SegmentDatabase {x : den tSegmentDatabase} (h : Sm tSegmentDatabase x) : l_toSegmentDatabase x = some x := by
  unfold l_toSegmentDatabase
  simp [to_SegmentS h.1, to_SegmentS h.2]

theorem eq_AS {x : den tAS} (h : SmB 4611686018427387904 tAS x) : l_eqAS x x = some true := by
  unfold l_eqAS
  simp

theorem eq_ASS {l : den (.sl tAS)} (h : SmB 4611686018427387904 (.sl tAS) l) : l_eqASS l l = some true := eqL_refl (eqE := l_eqAS) h.1 fun x hx => eq_AS (h.2 x hx)

theorem eq_Link {x : den tLink} (h : SmB 4611686018427387904 tLink x) : l_eqLink x x = some true := by
  unfold l_eqLink
  simp

theorem eq_LinkS {l : den (.sl tLink)} (h : SmB 4611686018427387904 (.sl tLink) l) : l_eqLinkS l l = some true := eqL_refl (eqE := l_eqLink) h.1 fun x hx => eq_Link (h.2 x hx)

theorem eq_Topology {x : den tTopology} (h : SmB 4611686018427387904 tTopology x) : l_eqTopology x x = some true := by
  unfold l_eqTopology
  simp [eq_ASS h.1, eq_LinkS h.2]

theorem eq_Hop {x : den tHop} (h : SmB 4611686018427387904 tHop x) : l_eqHop x x = some true := by
  unfold l_eqHop
  simp

theorem eq_HopS {l : den (.sl tHop)} (h : SmB 4611686018427387904 (.sl tHop) l) : l_eqHopS l l = some true := eqL_refl (eqE := l_eqHop) h.1 fun x hx => eq_Hop (h.2 x hx)

theorem eq_Segment {x : den tSegment} (h : SmB 4611686018427387904 tSegment x) : l_eqSegment x x = some true := by
  unfold l_eqSegment
  simp [eq_HopS h.2.2]

theorem eq_SegmentS {l : den (.sl tSegment)} (h : SmB 4611686018427387904 (.sl tSegment) l) : l_eqSegmentS l l = some true := eqL_refl (eqE := l_eqSegment) h.1 fun x hx => eq_Segment (h.2 x hx)

theorem eq_SegmentDatabase {x : den tSegmentDatabase} (h : SmB 4611686018427387904 tSegmentDatabase x) : l_eqSegmentDatabase x x = some true := by
  unfold l_eqSegmentDatabase
  simp [eq_SegmentS h.1, eq_SegmentS h.2]

theorem eq_Reservation {x : den tReservation} (h : SmB 4611686018427387904 tReservation x) : l_eqReservation x x = some true := by
  unfold l_eqReservation
  simp

theorem eq_ReservationS {l : den (.sl tReservation)} (h : SmB 4611686018427387904 (.sl tReservation) l) : l_eqReservationS l l = some true := eqL_refl (eqE := l_eqReservation) h.1 fun x hx => eq_Reservation (h.2 x hx)

theorem eq_Usage {x : den tUsage} (h : SmB 4611686018427387904 tUsage x) : l_eqUsage x x = some true := by
  unfold l_eqUsage
  simp

theorem eq_UsageS {l : den (.sl tUsage)} (h : SmB 4611686018427387904 (.sl tUsage) l) : l_eqUsageS l l = some true := eqL_refl (eqE := l_eqUsage) h.1 fun x hx => eq_Usage (h.2 x hx)

theorem eq_Scheduler {x : den tScheduler} (h : SmB 4611686018427387904 tScheduler x) : l_eqScheduler x x = some true := by
  unfold l_eqScheduler
  simp [eq_ReservationS h.2.1, eq_UsageS h.2.2]

theorem eq_IntS {l : den (.sl ti)} (h : SmB 4611686018427387904 (.sl ti) l) : l_eqIntS l l = some true := eqL_refl (eqE := (fun x y => some (x == y))) h.1 fun x hx => by simp

theorem eq_PathPart {x : den tPathPart} (h : SmB 4611686018427387904 tPathPart x) : l_eqPathPart x x = some true := by
  unfold l_eqPathPart
  simp [eq_HopS h.2.2.2]

theorem eq_PathPartS {l : den (.sl tPathPart)} (h : SmB 4611686018427387904 (.sl tPathPart) l) : l_eqPathPartS l l = some true := eqL_refl (eqE := l_eqPathPart) h.1 fun x hx => eq_PathPart (h.2 x hx)

theorem eq_Path {x : den tPath} (h : SmB 4611686018427387904 tPath x) : l_eqPath x x = some true := by
  unfold l_eqPath
  simp [eq_PathPartS h]

theorem eq_ByteS {l : den (.sl tb)} (h : SmB 4611686018427387904 (.sl tb) l) : l_eqByteS l l = some true := eqL_refl (eqE := (fun x y => some (x == y))) h.1 fun x hx => by simp

theorem eq_Packet {x : den tPacket} (h : SmB 4611686018427387904 tPacket x) : l_eqPacket x x = some true := by
  unfold l_eqPacket
  simp [eq_Path h.2.2.2.1, eq_ByteS h.2.2.2.2.2.2.2.2.2]

theorem eq_PacketInFlight {x : den tPacketInFlight} (h : SmB 4611686018427387904 tPacketInFlight x) : l_eqPacketInFlight x x = some true := by
  unfold l_eqPacketInFlight
  simp [eq_Packet h.2.2]

theorem eq_PacketInFlightS {l : den (.sl tPacketInFlight)} (h : SmB 4611686018427387904 (.sl tPacketInFlight) l) : l_eqPacketInFlightS l l = some true := eqL_refl (eqE := l_eqPacketInFlight) h.1 fun x hx => eq_PacketInFlight (h.2 x hx)

theorem eq_Message {x : den tMessage} (h : SmB 4611686018427387904 tMessage x) : l_eqMessage x x = some true := by
  unfold l_eqMessage
  simp [eq_ByteS h]

theorem eq_MessageS {l : den (.sl tMessage)} (h : SmB 4611686018427387904 (.sl tMessage) l) : l_eqMessageS l l = some true := eqL_refl (eqE := l_eqMessage) h.1 fun x hx => eq_Message (h.2 x hx)

theorem eq_PathS {l : den (.sl tPath)} (h : SmB 4611686018427387904 (.sl tPath) l) : l_eqPathS l l = some true := eqL_refl (eqE := l_eqPath) h.1 fun x hx => eq_Path (h.2 x hx)

theorem eq_Revocation {x : den tRevocation} (h : SmB 4611686018427387904 tRevocation x) : l_eqRevocation x x = some true := by
  unfold l_eqRevocation
  simp

theorem eq_RevocationS {l : den (.sl tRevocation)} (h : SmB 4611686018427387904 (.sl tRevocation) l) : l_eqRevocationS l l = some true := eqL_refl (eqE := l_eqRevocation) h.1 fun x hx => eq_Revocation (h.2 x hx)

theorem eq_Flow {x : den tFlow} (h : SmB 4611686018427387904 tFlow x) : l_eqFlow x x = some true := by
  unfold l_eqFlow
  simp [eq_MessageS h.2.2.2.2.1, eq_PathS h.2.2.2.2.2.1, eq_RevocationS h.2.2.2.2.2.2.2.2]

theorem eq_FlowS {l : den (.sl tFlow)} (h : SmB 4611686018427387904 (.sl tFlow) l) : l_eqFlowS l l = some true := eqL_refl (eqE := l_eqFlow) h.1 fun x hx => eq_Flow (h.2 x hx)

theorem eq_Inbox {x : den tInbox} (h : SmB 4611686018427387904 tInbox x) : l_eqInbox x x = some true := by
  unfold l_eqInbox
  simp [eq_MessageS h.2.2.2]

theorem eq_InboxS {l : den (.sl tInbox)} (h : SmB 4611686018427387904 (.sl tInbox) l) : l_eqInboxS l l = some true := eqL_refl (eqE := l_eqInbox) h.1 fun x hx => eq_Inbox (h.2 x hx)

theorem eq_Network {x : den tNetwork} (h : SmB 4611686018427387904 tNetwork x) : l_eqNetwork x x = some true := by
  unfold l_eqNetwork
  simp [eq_Topology h.1, eq_SegmentDatabase h.2.1, eq_Scheduler h.2.2.1, eq_IntS h.2.2.2.2.1, eq_PacketInFlightS h.2.2.2.2.2.1, eq_FlowS h.2.2.2.2.2.2.1, eq_InboxS h.2.2.2.2.2.2.2.1]

theorem mark_ASS {l : den (.sl tAS)} {k : Int} (h : SmB 4611686018427387904 (.sl tAS) l) (hk : 0 ≤ k) (hb : k + ((lv (.sl tAS) l : Nat) : Int) ≤ 4611686018427387904) : l_markASS l k = some (k + ((lv (.sl tAS) l : Nat) : Int), mkT (.sl tAS) l k) := by
  have hc := cntAll_sum (lv tAS) l
  have hc : k + ((cntAll (lv tAS) l : Nat) : Int) = k + ((lv (.sl tAS) l : Nat) : Int) := by rw [hc]; rfl
  unfold l_markASS
  rw [mark0 (cE := lv tAS) (mE := mkT tAS) (SmB 4611686018427387904 tAS) (fun k i L x hx hi hN hk hb hp => by
      have hd : decide ((i : Int) < (L.length : Int)) = true := by simpa using hi
      have hd0 : decide ((0 : Int) ≤ (i : Int)) = true := by simp
      have hw : IntKind.i64.wrap ((i : Int) + 1) = ((i + 1 : Nat) : Int) := by rw [wrap_in (by omega) (by omega)]; omega
      have hl : k + ((lv tAS x : Nat) : Int) = k + 1 + 1 + 1 := by simp only [lv] <;> omega
      rw [hl] at hb
      rw [hl]
      have hE : mkT tAS x k = (k, Int.tmod (k + 1) 3 == 0, k + 1 + 1) := by first | rfl | (simp [mkT, lv]; try omega)
      have f0 : IntKind.i64.wrap (k + 1) = k + 1 := wrap_in (by omega) (by omega)
      have f1 : IntKind.i64.wrap (k + 1 + 1) = k + 1 + 1 := wrap_in (by omega) (by omega)
      have f2 : IntKind.i64.wrap (k + 1 + 1 + 1) = k + 1 + 1 + 1 := wrap_in (by omega) (by omega)
      rw [hE]
      simp only [hd, hd0, hw, cond_true, Int.toNat_natCast, hx, obind_some, List.length_set, List.getElem?_set_self hi, List.set_set, f0, f1, f2]) (fun k L => by simp) h.1 h.2 hk (by rw [hc]; exact hb), hc]
  rfl

theorem mark_LinkS {l : den (.sl tLink)} {k : Int} (h : SmB 4611686018427387904 (.sl tLink) l) (hk : 0 ≤ k) (hb : k + ((lv (.sl tLink) l : Nat) : Int) ≤ 4611686018427387904) : l_markLinkS l k = some (k + ((lv (.sl tLink) l : Nat) : Int), mkT (.sl tLink) l k) := by
  have hc := cntAll_sum (lv tLink) l
  have hc : k + ((cntAll (lv tLink) l : Nat) : Int) = k + ((lv (.sl tLink) l : Nat) : Int) := by rw [hc]; rfl
  unfold l_markLinkS
  rw [mark0 (cE := lv tLink) (mE := mkT tLink) (SmB 4611686018427387904 tLink) (fun k i L x hx hi hN hk hb hp => by
      have hd : decide ((i : Int) < (L.length : Int)) = true := by simpa using hi
      have hd0 : decide ((0 : Int) ≤ (i : Int)) = true := by simp
      have hw : IntKind.i64.wrap ((i : Int) + 1) = ((i + 1 : Nat) : Int) := by rw [wrap_in (by omega) (by omega)]; omega
      have hl : k + ((lv tLink x : Nat) : Int) = k + 1 + 1 + 1 + 1 + 1 := by simp only [lv] <;> omega
      rw [hl] at hb
      rw [hl]
      have hE : mkT tLink x k = (k, k + 1, k + 1 + 1, k + 1 + 1 + 1, k + 1 + 1 + 1 + 1) := by first | rfl | (simp [mkT, lv]; try omega)
      have f0 : IntKind.i64.wrap (k + 1) = k + 1 := wrap_in (by omega) (by omega)
      have f1 : IntKind.i64.wrap (k + 1 + 1) = k + 1 + 1 := wrap_in (by omega) (by omega)
      have f2 : IntKind.i64.wrap (k + 1 + 1 + 1) = k + 1 + 1 + 1 := wrap_in (by omega) (by omega)
      have f3 : IntKind.i64.wrap (k + 1 + 1 + 1 + 1) = k + 1 + 1 + 1 + 1 := wrap_in (by omega) (by omega)
      have f4 : IntKind.i64.wrap (k + 1 + 1 + 1 + 1 + 1) = k + 1 + 1 + 1 + 1 + 1 := wrap_in (by omega) (by omega)
      rw [hE]
      simp only [hd, hd0, hw, cond_true, Int.toNat_natCast, hx, obind_some, List.length_set, List.getElem?_set_self hi, List.set_set, f0, f1, f2, f3, f4]) (fun k L => by simp) h.1 h.2 hk (by rw [hc]; exact hb), hc]
  rfl

theorem mark_Topology {x : den tTopology} {k : Int} (h : SmB 4611686018427387904 tTopology x) (hk : 0 ≤ k) (hb : k + ((lv (.sl tAS) x.1 : Nat) : Int) + ((lv (.sl tLink) x.2 : Nat) : Int) ≤ 4611686018427387904) : l_markTopology x k = some (k + ((lv (.sl tAS) x.1 : Nat) : Int) + ((lv (.sl tLink) x.2 : Nat) : Int), mkT (.sl tAS) x.1 (k), mkT (.sl tLink) x.2 (k + ((lv (.sl tAS) x.1 : Nat) : Int))) := by
  have q0 := mark_ASS (l := x.1) (k := k) h.1 (by omega) (by omega)
  have q1 := mark_LinkS (l := x.2) (k := k + ((lv (.sl tAS) x.1 : Nat) : Int)) h.2 (by omega) (by omega)
  unfold l_markTopology
  simp only [q0, q1, obind_some, peta]

theorem mark_HopS {l : den (.sl tHop)} {k : Int} (h : SmB 4611686018427387904 (.sl tHop) l) (hk : 0 ≤ k) (hb : k + ((lv (.sl tHop) l : Nat) : Int) ≤ 4611686018427387904) : l_markHopS l k = some (k + ((lv (.sl tHop) l : Nat) : Int), mkT (.sl tHop) l k) := by
  have hc := cntAll_sum (lv tHop) l
  have hc : k + ((cntAll (lv tHop) l : Nat) : Int) = k + ((lv (.sl tHop) l : Nat) : Int) := by rw [hc]; rfl
  unfold l_markHopS
  rw [mark0 (cE := lv tHop) (mE := mkT tHop) (SmB 4611686018427387904 tHop) (fun k i L x hx hi hN hk hb hp => by
      have hd : decide ((i : Int) < (L.length : Int)) = true := by simpa using hi
      have hd0 : decide ((0 : Int) ≤ (i : Int)) = true := by simp
      have hw : IntKind.i64.wrap ((i : Int) + 1) = ((i + 1 : Nat) : Int) := by rw [wrap_in (by omega) (by omega)]; omega
      have hl : k + ((lv tHop x : Nat) : Int) = k + 1 + 1 + 1 + 1 + 1 := by simp only [lv] <;> omega
      rw [hl] at hb
      rw [hl]
      have hE : mkT tHop x k = (k, k + 1, k + 1 + 1, k + 1 + 1 + 1, k + 1 + 1 + 1 + 1) := by first | rfl | (simp [mkT, lv]; try omega)
      have f0 : IntKind.i64.wrap (k + 1) = k + 1 := wrap_in (by omega) (by omega)
      have f1 : IntKind.i64.wrap (k + 1 + 1) = k + 1 + 1 := wrap_in (by omega) (by omega)
      have f2 : IntKind.i64.wrap (k + 1 + 1 + 1) = k + 1 + 1 + 1 := wrap_in (by omega) (by omega)
      have f3 : IntKind.i64.wrap (k + 1 + 1 + 1 + 1) = k + 1 + 1 + 1 + 1 := wrap_in (by omega) (by omega)
      have f4 : IntKind.i64.wrap (k + 1 + 1 + 1 + 1 + 1) = k + 1 + 1 + 1 + 1 + 1 := wrap_in (by omega) (by omega)
      rw [hE]
      simp only [hd, hd0, hw, cond_true, Int.toNat_natCast, hx, obind_some, List.length_set, List.getElem?_set_self hi, List.set_set, f0, f1, f2, f3, f4]) (fun k L => by simp) h.1 h.2 hk (by rw [hc]; exact hb), hc]
  rfl

theorem mark_SegmentS {l : den (.sl tSegment)} {k : Int} (h : SmB 4611686018427387904 (.sl tSegment) l) (hk : 0 ≤ k) (hb : k + ((lv (.sl tSegment) l : Nat) : Int) ≤ 4611686018427387904) : l_markSegmentS l k = some (k + ((lv (.sl tSegment) l : Nat) : Int), mkT (.sl tSegment) l k) := by
  have hc := cntAll_sum (lv tSegment) l
  have hc : k + ((cntAll (lv tSegment) l : Nat) : Int) = k + ((lv (.sl tSegment) l : Nat) : Int) := by rw [hc]; rfl
  unfold l_markSegmentS
  rw [mark0 (cE := lv tSegment) (mE := mkT tSegment) (SmB 4611686018427387904 tSegment) (fun k i L x hx hi hN hk hb hp => by
      have hd : decide ((i : Int) < (L.length : Int)) = true := by simpa using hi
      have hd0 : decide ((0 : Int) ≤ (i : Int)) = true := by simp
      have hw : IntKind.i64.wrap ((i : Int) + 1) = ((i + 1 : Nat) : Int) := by rw [wrap_in (by omega) (by omega)]; omega
      have hl : k + ((lv tSegment x : Nat) : Int) = k + 1 + 1 + ((lv (.sl tHop) x.2.2 : Nat) : Int) := by simp only [lv] <;> omega
      rw [hl] at hb
      rw [hl]
      have hE : mkT tSegment x k = (k, k + 1, mkT (.sl tHop) x.2.2 (k + 1 + 1)) := by first | rfl | (simp [mkT, lv]; try omega)
      have f0 : IntKind.i64.wrap (k + 1) = k + 1 := wrap_in (by omega) (by omega)
      have f1 : IntKind.i64.wrap (k + 1 + 1) = k + 1 + 1 := wrap_in (by omega) (by omega)
      have f2 := mark_HopS (l := x.2.2) (k := k + 1 + 1) hp.2.2 (by omega) (by omega)
      rw [hE]
      simp only [hd, hd0, hw, cond_true, Int.toNat_natCast, hx, obind_some, List.length_set, List.getElem?_set_self hi, List.set_set, f0, f1, f2]) (fun k L => by simp) h.1 h.2 hk (by rw [hc]; exact hb), hc]
  rfl

theorem mark_SegmentDatabase {x : den tSegmentDatabase} {k : Int} (h : SmB 4611686018427387904 tSegmentDatabase x) (hk : 0 ≤ k) (hb : k + ((lv (.sl tSegment) x.1 : Nat) : Int) + ((lv (.sl tSegment) x.2 : Nat) : Int) ≤ 4611686018427387904) : l_markSegmentDatabase x k = some (k + ((lv (.sl tSegment) x.1 : Nat) : Int) + ((lv (.sl tSegment) x.2 : Nat) : Int), mkT (.sl tSegment) x.1 (k), mkT (.sl tSegment) x.2 (k + ((lv (.sl tSegment) x.1 : Nat) : Int))) := by
  have q0 := mark_SegmentS (l := x.1) (k := k) h.1 (by omega) (by omega)
  have q1 := mark_SegmentS (l := x.2) (k := k + ((lv (.sl tSegment) x.1 : Nat) : Int)) h.2 (by omega) (by omega)
  unfold l_markSegmentDatabase
  simp only [q0, q1, obind_some, peta]

theorem mark_ReservationS {l : den (.sl tReservation)} {k : Int} (h : SmB 4611686018427387904 (.sl tReservation) l) (hk : 0 ≤ k) (hb : k + ((lv (.sl tReservation) l : Nat) : Int) ≤ 4611686018427387904) : l_markReservationS l k = some (k + ((lv (.sl tReservation) l : Nat) : Int), mkT (.sl tReservation) l k) := by
  have hc := cntAll_sum (lv tReservation) l
  have hc : k + ((cntAll (lv tReservation) l : Nat) : Int) = k + ((lv (.sl tReservation) l : Nat) : Int) := by rw [hc]; rfl
  unfold l_markReservationS
  rw [mark0 (cE := lv tReservation) (mE := mkT tReservation) (SmB 4611686018427387904 tReservation) (fun k i L x hx hi hN hk hb hp => by
      have hd : decide ((i : Int) < (L.length : Int)) = true := by simpa using hi
      have hd0 : decide ((0 : Int) ≤ (i : Int)) = true := by simp
      have hw : IntKind.i64.wrap ((i : Int) + 1) = ((i + 1 : Nat) : Int) := by rw [wrap_in (by omega) (by omega)]; omega
      have hl : k + ((lv tReservation x : Nat) : Int) = k + 1 + 1 + 1 + 1 + 1 := by simp only [lv] <;> omega
      rw [hl] at hb
      rw [hl]
      have hE : mkT tReservation x k = (k, k + 1, k + 1 + 1, k + 1 + 1 + 1, k + 1 + 1 + 1 + 1) := by first | rfl | (simp [mkT, lv]; try omega)
      have f0 : IntKind.i64.wrap (k + 1) = k + 1 := wrap_in (by omega) (by omega)
      have f1 : IntKind.i64.wrap (k + 1 + 1) = k + 1 + 1 := wrap_in (by omega) (by omega)
      have f2 : IntKind.i64.wrap (k + 1 + 1 + 1) = k + 1 + 1 + 1 := wrap_in (by omega) (by omega)
      have f3 : IntKind.i64.wrap (k + 1 + 1 + 1 + 1) = k + 1 + 1 + 1 + 1 := wrap_in (by omega) (by omega)
      have f4 : IntKind.i64.wrap (k + 1 + 1 + 1 + 1 + 1) = k + 1 + 1 + 1 + 1 + 1 := wrap_in (by omega) (by omega)
      rw [hE]
      simp only [hd, hd0, hw, cond_true, Int.toNat_natCast, hx, obind_some, List.length_set, List.getElem?_set_self hi, List.set_set, f0, f1, f2, f3, f4]) (fun k L => by simp) h.1 h.2 hk (by rw [hc]; exact hb), hc]
  rfl

theorem mark_UsageS {l : den (.sl tUsage)} {k : Int} (h : SmB 4611686018427387904 (.sl tUsage) l) (hk : 0 ≤ k) (hb : k + ((lv (.sl tUsage) l : Nat) : Int) ≤ 4611686018427387904) : l_markUsageS l k = some (k + ((lv (.sl tUsage) l : Nat) : Int), mkT (.sl tUsage) l k) := by
  have hc := cntAll_sum (lv tUsage) l
  have hc : k + ((cntAll (lv tUsage) l : Nat) : Int) = k + ((lv (.sl tUsage) l : Nat) : Int) := by rw [hc]; rfl
  unfold l_markUsageS
  rw [mark0 (cE := lv tUsage) (mE := mkT tUsage) (SmB 4611686018427387904 tUsage) (fun k i L x hx hi hN hk hb hp => by
      have hd : decide ((i : Int) < (L.length : Int)) = true := by simpa using hi
      have hd0 : decide ((0 : Int) ≤ (i : Int)) = true := by simp
      have hw : IntKind.i64.wrap ((i : Int) + 1) = ((i + 1 : Nat) : Int) := by rw [wrap_in (by omega) (by omega)]; omega
      have hl : k + ((lv tUsage x : Nat) : Int) = k + 1 + 1 + 1 + 1 := by simp only [lv] <;> omega
      rw [hl] at hb
      rw [hl]
      have hE : mkT tUsage x k = (k, k + 1, k + 1 + 1, k + 1 + 1 + 1) := by first | rfl | (simp [mkT, lv]; try omega)
      have f0 : IntKind.i64.wrap (k + 1) = k + 1 := wrap_in (by omega) (by omega)
      have f1 : IntKind.i64.wrap (k + 1 + 1) = k + 1 + 1 := wrap_in (by omega) (by omega)
      have f2 : IntKind.i64.wrap (k + 1 + 1 + 1) = k + 1 + 1 + 1 := wrap_in (by omega) (by omega)
      have f3 : IntKind.i64.wrap (k + 1 + 1 + 1 + 1) = k + 1 + 1 + 1 + 1 := wrap_in (by omega) (by omega)
      rw [hE]
      simp only [hd, hd0, hw, cond_true, Int.toNat_natCast, hx, obind_some, List.length_set, List.getElem?_set_self hi, List.set_set, f0, f1, f2, f3]) (fun k L => by simp) h.1 h.2 hk (by rw [hc]; exact hb), hc]
  rfl

theorem mark_Scheduler {x : den tScheduler} {k : Int} (h : SmB 4611686018427387904 tScheduler x) (hk : 0 ≤ k) (hb : k + ((lv (.sl tReservation) x.2.1 : Nat) : Int) + ((lv (.sl tUsage) x.2.2 : Nat) : Int) ≤ 4611686018427387904) : l_markScheduler x k = some (k + ((lv (.sl tReservation) x.2.1 : Nat) : Int) + ((lv (.sl tUsage) x.2.2 : Nat) : Int), mkT (.sl tReservation) x.2.1 (k), mkT (.sl tUsage) x.2.2 (k + ((lv (.sl tReservation) x.2.1 : Nat) : Int))) := by
  have q0 := mark_ReservationS (l := x.2.1) (k := k) h.2.1 (by omega) (by omega)
  have q1 := mark_UsageS (l := x.2.2) (k := k + ((lv (.sl tReservation) x.2.1 : Nat) : Int)) h.2.2 (by omega) (by omega)
  unfold l_markScheduler
  simp only [q0, q1, obind_some, peta]

theorem mark_IntS {l : den (.sl ti)} {k : Int} (h : SmB 4611686018427387904 (.sl ti) l) (hk : 0 ≤ k) (hb : k + ((lv (.sl ti) l : Nat) : Int) ≤ 4611686018427387904) : l_markIntS l k = some (k + ((lv (.sl ti) l : Nat) : Int), mkT (.sl ti) l k) := by
  have hc := cntAll_sum (lv ti) l
  have hc : k + ((cntAll (lv ti) l : Nat) : Int) = k + ((lv (.sl ti) l : Nat) : Int) := by rw [hc]; rfl
  unfold l_markIntS
  rw [mark0 (cE := lv ti) (mE := mkT ti) (SmB 4611686018427387904 ti) (fun k i L x hx hi hN hk hb hp => by
      have hd : decide ((i : Int) < (L.length : Int)) = true := by simpa using hi
      have hd0 : decide ((0 : Int) ≤ (i : Int)) = true := by simp
      have hw : IntKind.i64.wrap ((i : Int) + 1) = ((i + 1 : Nat) : Int) := by rw [wrap_in (by omega) (by omega)]; omega
      have hl : k + ((lv ti x : Nat) : Int) = k + 1 := by simp only [lv] <;> omega
      rw [hl] at hb
      rw [hl]
      have hE : mkT ti x k = k := by first | rfl | (simp [mkT, lv]; try omega)
      have f0 : IntKind.i64.wrap (k + 1) = k + 1 := wrap_in (by omega) (by omega)
      rw [hE]
      simp only [hd, hd0, hw, cond_true, Int.toNat_natCast, hx, obind_some, List.length_set, List.getElem?_set_self hi, List.set_set, f0]) (fun k L => by simp) h.1 h.2 hk (by rw [hc]; exact hb), hc]
  rfl

theorem mark_PathPartS {l : den (.sl tPathPart)} {k : Int} (h : SmB 4611686018427387904 (.sl tPathPart) l) (hk : 0 ≤ k) (hb : k + ((lv (.sl tPathPart) l : Nat) : Int) ≤ 4611686018427387904) : l_markPathPartS l k = some (k + ((lv (.sl tPathPart) l : Nat) : Int), mkT (.sl tPathPart) l k) := by
  have hc := cntAll_sum (lv tPathPart) l
  have hc : k + ((cntAll (lv tPathPart) l : Nat) : Int) = k + ((lv (.sl tPathPart) l : Nat) : Int) := by rw [hc]; rfl
  unfold l_markPathPartS
  rw [mark0 (cE := lv tPathPart) (mE := mkT tPathPart) (SmB 4611686018427387904 tPathPart) (fun k i L x hx hi hN hk hb hp => by
      have hd : decide ((i : Int) < (L.length : Int)) = true := by simpa using hi
      have hd0 : decide ((0 : Int) ≤ (i : Int)) = true := by simp
      have hw : IntKind.i64.wrap ((i : Int) + 1) = ((i + 1 : Nat) : Int) := by rw [wrap_in (by omega) (by omega)]; omega
      have hl : k + ((lv tPathPart x : Nat) : Int) = k + 1 + 1 + 1 + ((lv (.sl tHop) x.2.2.2 : Nat) : Int) := by simp only [lv] <;> omega
      rw [hl] at hb
      rw [hl]
      have hE : mkT tPathPart x k = (k, k + 1, k + 1 + 1, mkT (.sl tHop) x.2.2.2 (k + 1 + 1 + 1)) := by first | rfl | (simp [mkT, lv]; try omega)
      have f0 : IntKind.i64.wrap (k + 1) = k + 1 := wrap_in (by omega) (by omega)
      have f1 : IntKind.i64.wrap (k + 1 + 1) = k + 1 + 1 := wrap_in (by omega) (by omega)
      have f2 : IntKind.i64.wrap (k + 1 + 1 + 1) = k + 1 + 1 + 1 := wrap_in (by omega) (by omega)
      have f3 := mark_HopS (l := x.2.2.2) (k := k + 1 + 1 + 1) hp.2.2.2 (by omega) (by omega)
      rw [hE]
      simp only [hd, hd0, hw, cond_true, Int.toNat_natCast, hx, obind_some, List.length_set, List.getElem?_set_self hi, List.set_set, f0, f1, f2, f3]) (fun k L => by simp) h.1 h.2 hk (by rw [hc]; exact hb), hc]
  rfl

theorem mark_ByteS {l : den (.sl tb)} {k : Int} (h : SmB 4611686018427387904 (.sl tb) l) (hk : 0 ≤ k) (hb : k + ((lv (.sl tb) l : Nat) : Int) ≤ 4611686018427387904) : l_markByteS l k = some (k + ((lv (.sl tb) l : Nat) : Int), mkT (.sl tb) l k) := by
  have hc := cntAll_sum (lv tb) l
  have hc : k + ((cntAll (lv tb) l : Nat) : Int) = k + ((lv (.sl tb) l : Nat) : Int) := by rw [hc]; rfl
  unfold l_markByteS
  rw [mark0 (cE := lv tb) (mE := mkT tb) (SmB 4611686018427387904 tb) (fun k i L x hx hi hN hk hb hp => by
      have hd : decide ((i : Int) < (L.length : Int)) = true := by simpa using hi
      have hd0 : decide ((0 : Int) ≤ (i : Int)) = true := by simp
      have hw : IntKind.i64.wrap ((i : Int) + 1) = ((i + 1 : Nat) : Int) := by rw [wrap_in (by omega) (by omega)]; omega
      have hl : k + ((lv tb x : Nat) : Int) = k + 1 := by simp only [lv] <;> omega
      rw [hl] at hb
      rw [hl]
      have hE : mkT tb x k = IntKind.u8.wrap (k) := by first | rfl | (simp [mkT, lv]; try omega)
      have f0 : IntKind.i64.wrap (k + 1) = k + 1 := wrap_in (by omega) (by omega)
      rw [hE]
      simp only [hd, hd0, hw, cond_true, Int.toNat_natCast, hx, obind_some, List.length_set, List.getElem?_set_self hi, List.set_set, f0]) (fun k L => by simp) h.1 h.2 hk (by rw [hc]; exact hb), hc]
  rfl

theorem mark_PacketInFlightS {l : den (.sl tPacketInFlight)} {k : Int} (h : SmB 4611686018427387904 (.sl tPacketInFlight) l) (hk : 0 ≤ k) (hb : k + ((lv (.sl tPacketInFlight) l : Nat) : Int) ≤ 4611686018427387904) : l_markPacketInFlightS l k = some (k + ((lv (.sl tPacketInFlight) l : Nat) : Int), mkT (.sl tPacketInFlight) l k) := by
  have hc := cntAll_sum (lv tPacketInFlight) l
  have hc : k + ((cntAll (lv tPacketInFlight) l : Nat) : Int) = k + ((lv (.sl tPacketInFlight) l : Nat) : Int) := by rw [hc]; rfl
  unfold l_markPacketInFlightS
  rw [mark0 (cE := lv tPacketInFlight) (mE := mkT tPacketInFlight) (SmB 4611686018427387904 tPacketInFlight) (fun k i L x hx hi hN hk hb hp => by
      have hd : decide ((i : Int) < (L.length : Int)) = true := by simpa using hi
      have hd0 : decide ((0 : Int) ≤ (i : Int)) = true := by simp
      have hw : IntKind.i64.wrap ((i : Int) + 1) = ((i + 1 : Nat) : Int) := by rw [wrap_in (by omega) (by omega)]; omega
      have hl : k + ((lv tPacketInFlight x : Nat) : Int) = k + 1 + 1 + 1 + 1 + 1 + ((lv (.sl tPathPart) x.2.2.2.2.2.1 : Nat) : Int) + 1 + 1 + 1 + 1 + 1 + ((lv (.sl tb) x.2.2.2.2.2.2.2.2.2.2.2 : Nat) : Int) := by simp only [lv] <;> omega
      rw [hl] at hb
      rw [hl]
      have hE : mkT tPacketInFlight x k = (k, k + 1, (k + 1 + 1, k + 1 + 1 + 1, k + 1 + 1 + 1 + 1, mkT (.sl tPathPart) x.2.2.2.2.2.1 (k + 1 + 1 + 1 + 1 + 1), k + 1 + 1 + 1 + 1 + 1 + ((lv (.sl tPathPart) x.2.2.2.2.2.1 : Nat) : Int), k + 1 + 1 + 1 + 1 + 1 + ((lv (.sl tPathPart) x.2.2.2.2.2.1 : Nat) : Int) + 1, k + 1 + 1 + 1 + 1 + 1 + ((lv (.sl tPathPart) x.2.2.2.2.2.1 : Nat) : Int) + 1 + 1, k + 1 + 1 + 1 + 1 + 1 + ((lv (.sl tPathPart) x.2.2.2.2.2.1 : Nat) : Int) + 1 + 1 + 1, k + 1 + 1 + 1 + 1 + 1 + ((lv (.sl tPathPart) x.2.2.2.2.2.1 : Nat) : Int) + 1 + 1 + 1 + 1, mkT (.sl tb) x.2.2.2.2.2.2.2.2.2.2.2 (k + 1 + 1 + 1 + 1 + 1 + ((lv (.sl tPathPart) x.2.2.2.2.2.1 : Nat) : Int) + 1 + 1 + 1 + 1 + 1))) := by first | rfl | (simp [mkT, lv]; try omega)
      have f0 : IntKind.i64.wrap (k + 1) = k + 1 := wrap_in (by omega) (by omega)
      have f1 : IntKind.i64.wrap (k + 1 + 1) = k + 1 + 1 := wrap_in (by omega) (by omega)
      have f2 : IntKind.i64.wrap (k + 1 + 1 + 1) = k + 1 + 1 + 1 := wrap_in (by omega) (by omega)
      have f3 : IntKind.i64.wrap (k + 1 + 1 + 1 + 1) = k + 1 + 1 + 1 + 1 := wrap_in (by omega) (by omega)
      have f4 : IntKind.i64.wrap (k + 1 + 1 + 1 + 1 + 1) = k + 1 + 1 + 1 + 1 + 1 := wrap_in (by omega) (by omega)
      have f5 := mark_PathPartS (l := x.2.2.2.2.2.1) (k := k + 1 + 1 + 1 + 1 + 1) hp.2.2.2.2.2.1 (by omega) (by omega)
      have f6 : IntKind.i64.wrap (k + 1 + 1 + 1 + 1 + 1 + ((lv (.sl tPathPart) x.2.2.2.2.2.1 : Nat) : Int) + 1) = k + 1 + 1 + 1 + 1 + 1 + ((lv (.sl tPathPart) x.2.2.2.2.2.1 : Nat) : Int) + 1 := wrap_in (by omega) (by omega)
      have f7 : IntKind.i64.wrap (k + 1 + 1 + 1 + 1 + 1 + ((lv (.sl tPathPart) x.2.2.2.2.2.1 : Nat) : Int) + 1 + 1) = k + 1 + 1 + 1 + 1 + 1 + ((lv (.sl tPathPart) x.2.2.2.2.2.1 : Nat) : Int) + 1 + 1 := wrap_in (by omega) (by omega)
      have f8 : IntKind.i64.wrap (k + 1 + 1 + 1 + 1 + 1 + ((lv (.sl tPathPart) x.2.2.2.2.2.1 : Nat) : Int) + 1 + 1 + 1) = k + 1 + 1 + 1 + 1 + 1 + ((lv (.sl tPathPart) x.2.2.2.2.2.1 : Nat) : Int) + 1 + 1 + 1 := wrap_in (by omega) (by omega)
      have f9 : IntKind.i64.wrap (k + 1 + 1 + 1 + 1 + 1 + ((lv (.sl tPathPart) x.2.2.2.2.2.1 : Nat) : Int) + 1 + 1 + 1 + 1) = k + 1 + 1 + 1 + 1 + 1 + ((lv (.sl tPathPart) x.2.2.2.2.2.1 : Nat) : Int) + 1 + 1 + 1 + 1 := wrap_in (by omega) (by omega)
      have f10 : IntKind.i64.wrap (k + 1 + 1 + 1 + 1 + 1 + ((lv (.sl tPathPart) x.2.2.2.2.2.1 : Nat) : Int) + 1 + 1 + 1 + 1 + 1) = k + 1 + 1 + 1 + 1 + 1 + ((lv (.sl tPathPart) x.2.2.2.2.2.1 : Nat) : Int) + 1 + 1 + 1 + 1 + 1 := wrap_in (by omega) (by omega)
      have f11 := mark_ByteS (l := x.2.2.2.2.2.2.2.2.2.2.2) (k := k + 1 + 1 + 1 + 1 + 1 + ((lv (.sl tPathPart) x.2.2.2.2.2.1 : Nat) : Int) + 1 + 1 + 1 + 1 + 1) hp.2.2.2.2.2.2.2.2.2.2.2 (by omega) (by omega)
      rw [hE]
      simp only [hd, hd0, hw, cond_true, Int.toNat_natCast, hx, obind_some, List.length_set, List.getElem?_set_self hi, List.set_set, f0, f1, f2, f3, f4, f5, f6, f7, f8, f9, f10, f11]) (fun k L => by simp) h.1 h.2 hk (by rw [hc]; exact hb), hc]
  rfl

theorem mark_MessageS {l : den (.sl tMessage)} {k : Int} (h : SmB 4611686018427387904 (.sl tMessage) l) (hk : 0 ≤ k) (hb : k + ((lv (.sl tMessage) l : Nat) : Int) ≤ 4611686018427387904) : l_markMessageS l k = some (k + ((lv (.sl tMessage) l : Nat) : Int), mkT (.sl tMessage) l k) := by
  have hc := cntAll_sum (lv tMessage) l
  have hc : k + ((cntAll (lv tMessage) l : Nat) : Int) = k + ((lv (.sl tMessage) l : Nat) : Int) := by rw [hc]; rfl
  unfold l_markMessageS
  rw [mark0 (cE := lv tMessage) (mE := mkT tMessage) (SmB 4611686018427387904 tMessage) (fun k i L x hx hi hN hk hb hp => by
      have hd : decide ((i : Int) < (L.length : Int)) = true := by simpa using hi
      have hd0 : decide ((0 : Int) ≤ (i : Int)) = true := by simp
      have hw : IntKind.i64.wrap ((i : Int) + 1) = ((i + 1 : Nat) : Int) := by rw [wrap_in (by omega) (by omega)]; omega
      have hl : k + ((lv tMessage x : Nat) : Int) = k + ((lv (.sl tb) x : Nat) : Int) := by simp only [lv] <;> omega
      rw [hl] at hb
      rw [hl]
      have hE : mkT tMessage x k = mkT (.sl tb) x (k) := by first | rfl | (simp [mkT, lv]; try omega)
      have f0 := mark_ByteS (l := x) (k := k) hp (by omega) (by omega)
      rw [hE]
      simp only [hd, hd0, hw, cond_true, Int.toNat_natCast, hx, obind_some, List.length_set, List.getElem?_set_self hi, List.set_set, f0]) (fun k L => by simp) h.1 h.2 hk (by rw [hc]; exact hb), hc]
  rfl

theorem mark_PathS {l : den (.sl tPath)} {k : Int} (h : SmB 4611686018427387904 (.sl tPath) l) (hk : 0 ≤ k) (hb : k + ((lv (.sl tPath) l : Nat) : Int) ≤ 4611686018427387904) : l_markPathS l k = some (k + ((lv (.sl tPath) l : Nat) : Int), mkT (.sl tPath) l k) := by
  have hc := cntAll_sum (lv tPath) l
  have hc : k + ((cntAll (lv tPath) l : Nat) : Int) = k + ((lv (.sl tPath) l : Nat) : Int) := by rw [hc]; rfl
  unfold l_markPathS
  rw [mark0 (cE := lv tPath) (mE := mkT tPath) (SmB 4611686018427387904 tPath) (fun k i L x hx hi hN hk hb hp => by
      have hd : decide ((i : Int) < (L.length : Int)) = true := by simpa using hi
      have hd0 : decide ((0 : Int) ≤ (i : Int)) = true := by simp
      have hw : IntKind.i64.wrap ((i : Int) + 1) = ((i + 1 : Nat) : Int) := by rw [wrap_in (by omega) (by omega)]; omega
      have hl : k + ((lv tPath x : Nat) : Int) = k + ((lv (.sl tPathPart) x : Nat) : Int) := by simp only [lv] <;> omega
      rw [hl] at hb
      rw [hl]
      have hE : mkT tPath x k = mkT (.sl tPathPart) x (k) := by first | rfl | (simp [mkT, lv]; try omega)
      have f0 := mark_PathPartS (l := x) (k := k) hp (by omega) (by omega)
      rw [hE]
      simp only [hd, hd0, hw, cond_true, Int.toNat_natCast, hx, obind_some, List.length_set, List.getElem?_set_self hi, List.set_set, f0]) (fun k L => by simp) h.1 h.2 hk (by rw [hc]; exact hb), hc]
  rfl

theorem mark_RevocationS {l : den (.sl tRevocation)} {k : Int} (h : SmB 4611686018427387904 (.sl tRevocation) l) (hk : 0 ≤ k) (hb : k + ((lv (.sl tRevocation) l : Nat) : Int) ≤ 4611686018427387904) : l_markRevocationS l k = some (k + ((lv (.sl tRevocation) l : Nat) : Int), mkT (.sl tRevocation) l k) := by
  have hc := cntAll_sum (lv tRevocation) l
  have hc : k + ((cntAll (lv tRevocation) l : Nat) : Int) = k + ((lv (.sl tRevocation) l : Nat) : Int) := by rw [hc]; rfl
  unfold l_markRevocationS
  rw [mark0 (cE := lv tRevocation) (mE := mkT tRevocation) (SmB 4611686018427387904 tRevocation) (fun k i L x hx hi hN hk hb hp => by
      have hd : decide ((i : Int) < (L.length : Int)) = true := by simpa using hi
      have hd0 : decide ((0 : Int) ≤ (i : Int)) = true := by simp
      have hw : IntKind.i64.wrap ((i : Int) + 1) = ((i + 1 : Nat) : Int) := by rw [wrap_in (by omega) (by omega)]; omega
      have hl : k + ((lv tRevocation x : Nat) : Int) = k + 1 + 1 + 1 := by simp only [lv] <;> omega
      rw [hl] at hb
      rw [hl]
      have hE : mkT tRevocation x k = (k, k + 1, k + 1 + 1) := by first | rfl | (simp [mkT, lv]; try omega)
      have f0 : IntKind.i64.wrap (k + 1) = k + 1 := wrap_in (by omega) (by omega)
      have f1 : IntKind.i64.wrap (k + 1 + 1) = k + 1 + 1 := wrap_in (by omega) (by omega)
      have f2 : IntKind.i64.wrap (k + 1 + 1 + 1) = k + 1 + 1 + 1 := wrap_in (by omega) (by omega)
      rw [hE]
      simp only [hd, hd0, hw, cond_true, Int.toNat_natCast, hx, obind_some, List.length_set, List.getElem?_set_self hi, List.set_set, f0, f1, f2]) (fun k L => by simp) h.1 h.2 hk (by rw [hc]; exact hb), hc]
  rfl

theorem mark_FlowS {l : den (.sl tFlow)} {k : Int} (h : SmB 4611686018427387904 (.sl tFlow) l) (hk : 0 ≤ k) (hb : k + ((lv (.sl tFlow) l : Nat) : Int) ≤ 4611686018427387904) : l_markFlowS l k = some (k + ((lv (.sl tFlow) l : Nat) : Int), mkT (.sl tFlow) l k) := by
  have hc := cntAll_sum (lv tFlow) l
  have hc : k + ((cntAll (lv tFlow) l : Nat) : Int) = k + ((lv (.sl tFlow) l : Nat) : Int) := by rw [hc]; rfl
  unfold l_markFlowS
  rw [mark0 (cE := lv tFlow) (mE := mkT tFlow) (SmB 4611686018427387904 tFlow) (fun k i L x hx hi hN hk hb hp => by
      have hd : decide ((i : Int) < (L.length : Int)) = true := by simpa using hi
      have hd0 : decide ((0 : Int) ≤ (i : Int)) = true := by simp
      have hw : IntKind.i64.wrap ((i : Int) + 1) = ((i + 1 : Nat) : Int) := by rw [wrap_in (by omega) (by omega)]; omega
      have hl : k + ((lv tFlow x : Nat) : Int) = k + 1 + 1 + 1 + 1 + ((lv (.sl tMessage) x.2.2.2.2.1 : Nat) : Int) + ((lv (.sl tPath) x.2.2.2.2.2.1 : Nat) : Int) + 1 + 1 + ((lv (.sl tRevocation) x.2.2.2.2.2.2.2.2 : Nat) : Int) := by simp only [lv] <;> omega
      rw [hl] at hb
      rw [hl]
      have hE : mkT tFlow x k = (k, k + 1, k + 1 + 1, k + 1 + 1 + 1, mkT (.sl tMessage) x.2.2.2.2.1 (k + 1 + 1 + 1 + 1), mkT (.sl tPath) x.2.2.2.2.2.1 (k + 1 + 1 + 1 + 1 + ((lv (.sl tMessage) x.2.2.2.2.1 : Nat) : Int)), k + 1 + 1 + 1 + 1 + ((lv (.sl tMessage) x.2.2.2.2.1 : Nat) : Int) + ((lv (.sl tPath) x.2.2.2.2.2.1 : Nat) : Int), k + 1 + 1 + 1 + 1 + ((lv (.sl tMessage) x.2.2.2.2.1 : Nat) : Int) + ((lv (.sl tPath) x.2.2.2.2.2.1 : Nat) : Int) + 1, mkT (.sl tRevocation) x.2.2.2.2.2.2.2.2 (k + 1 + 1 + 1 + 1 + ((lv (.sl tMessage) x.2.2.2.2.1 : Nat) : Int) + ((lv (.sl tPath) x.2.2.2.2.2.1 : Nat) : Int) + 1 + 1)) := by first | rfl | (simp [mkT, lv]; try omega)
      have f0 : IntKind.i64.wrap (k + 1) = k + 1 := wrap_in (by omega) (by omega)
      have f1 : IntKind.i64.wrap (k + 1 + 1) = k + 1 + 1 := wrap_in (by omega) (by omega)
      have f2 : IntKind.i64.wrap (k + 1 + 1 + 1) = k + 1 + 1 + 1 := wrap_in (by omega) (by omega)
      have f3 : IntKind.i64.wrap (k + 1 + 1 + 1 + 1) = k + 1 + 1 + 1 + 1 := wrap_in (by omega) (by omega)
      have f4 := mark_MessageS (l := x.2.2.2.2.1) (k := k + 1 + 1 + 1 + 1) hp.2.2.2.2.1 (by omega) (by omega)
      have f5 := mark_PathS (l := x.2.2.2.2.2.1) (k := k + 1 + 1 + 1 + 1 + ((lv (.sl tMessage) x.2.2.2.2.1 : Nat) : Int)) hp.2.2.2.2.2.1 (by omega) (by omega)
      have f6 : IntKind.i64.wrap (k + 1 + 1 + 1 + 1 + ((lv (.sl tMessage) x.2.2.2.2.1 : Nat) : Int) + ((lv (.sl tPath) x.2.2.2.2.2.1 : Nat) : Int) + 1) = k + 1 + 1 + 1 + 1 + ((lv (.sl tMessage) x.2.2.2.2.1 : Nat) : Int) + ((lv (.sl tPath) x.2.2.2.2.2.1 : Nat) : Int) + 1 := wrap_in (by omega) (by omega)
      have f7 : IntKind.i64.wrap (k + 1 + 1 + 1 + 1 + ((lv (.sl tMessage) x.2.2.2.2.1 : Nat) : Int) + ((lv (.sl tPath) x.2.2.2.2.2.1 : Nat) : Int) + 1 + 1) = k + 1 + 1 + 1 + 1 + ((lv (.sl tMessage) x.2.2.2.2.1 : Nat) : Int) + ((lv (.sl tPath) x.2.2.2.2.2.1 : Nat) : Int) + 1 + 1 := wrap_in (by omega) (by omega)
      have f8 := mark_RevocationS (l := x.2.2.2.2.2.2.2.2) (k := k + 1 + 1 + 1 + 1 + ((lv (.sl tMessage) x.2.2.2.2.1 : Nat) : Int) + ((lv (.sl tPath) x.2.2.2.2.2.1 : Nat) : Int) + 1 + 1) hp.2.2.2.2.2.2.2.2 (by omega) (by omega)
      rw [hE]
      simp only [hd, hd0, hw, cond_true, Int.toNat_natCast, hx, obind_some, List.length_set, List.getElem?_set_self hi, List.set_set, f0, f1, f2, f3, f4, f5, f6, f7, f8]) (fun k L => by simp) h.1 h.2 hk (by rw [hc]; exact hb), hc]
  rfl

theorem mark_InboxS {l : den (.sl tInbox)} {k : Int} (h : SmB 4611686018427387904 (.sl tInbox) l) (hk : 0 ≤ k) (hb : k + ((lv (.sl tInbox) l : Nat) : Int) ≤ 4611686018427387904) : l_markInboxS l k = some (k + ((lv (.sl tInbox) l : Nat) : Int), mkT (.sl tInbox) l k) := by
  have hc := cntAll_sum (lv tInbox) l
  have hc : k + ((cntAll (lv tInbox) l : Nat) : Int) = k + ((lv (.sl tInbox) l : Nat) : Int) := by rw [hc]; rfl
  unfold l_markInboxS
  rw [mark0 (cE := lv tInbox) (mE := mkT tInbox) (SmB 4611686018427387904 tInbox) (fun k i L x hx hi hN hk hb hp => by
      have hd : decide ((i : Int) < (L.length : Int)) = true := by simpa using hi
      have hd0 : decide ((0 : Int) ≤ (i : Int)) = true := by simp
      have hw : IntKind.i64.wrap ((i : Int) + 1) = ((i + 1 : Nat) : Int) := by rw [wrap_in (by omega) (by omega)]; omega
      have hl : k + ((lv tInbox x : Nat) : Int) = k + 1 + 1 + 1 + ((lv (.sl tMessage) x.2.2.2 : Nat) : Int) := by simp only [lv] <;> omega
      rw [hl] at hb
      rw [hl]
      have hE : mkT tInbox x k = (k, k + 1, k + 1 + 1, mkT (.sl tMessage) x.2.2.2 (k + 1 + 1 + 1)) := by first | rfl | (simp [mkT, lv]; try omega)
      have f0 : IntKind.i64.wrap (k + 1) = k + 1 := wrap_in (by omega) (by omega)
      have f1 : IntKind.i64.wrap (k + 1 + 1) = k + 1 + 1 := wrap_in (by omega) (by omega)
      have f2 : IntKind.i64.wrap (k + 1 + 1 + 1) = k + 1 + 1 + 1 := wrap_in (by omega) (by omega)
      have f3 := mark_MessageS (l := x.2.2.2) (k := k + 1 + 1 + 1) hp.2.2.2 (by omega) (by omega)
      rw [hE]
      simp only [hd, hd0, hw, cond_true, Int.toNat_natCast, hx, obind_some, List.length_set, List.getElem?_set_self hi, List.set_set, f0, f1, f2, f3]) (fun k L => by simp) h.1 h.2 hk (by rw [hc]; exact hb), hc]
  rfl

theorem mark_Network {x : den tNetwork} {k : Int} (h : SmB 4611686018427387904 tNetwork x) (hk : 0 ≤ k) (hb : k + ((lv (.sl tAS) x.1.1 : Nat) : Int) + ((lv (.sl tLink) x.1.2 : Nat) : Int) + ((lv (.sl tSegment) x.2.1.1 : Nat) : Int) + ((lv (.sl tSegment) x.2.1.2 : Nat) : Int) + ((lv (.sl tReservation) x.2.2.1.2.1 : Nat) : Int) + ((lv (.sl tUsage) x.2.2.1.2.2 : Nat) : Int) + ((lv (.sl ti) x.2.2.2.2.1 : Nat) : Int) + ((lv (.sl tPacketInFlight) x.2.2.2.2.2.1 : Nat) : Int) + ((lv (.sl tFlow) x.2.2.2.2.2.2.1 : Nat) : Int) + ((lv (.sl tInbox) x.2.2.2.2.2.2.2.1 : Nat) : Int) ≤ 4611686018427387904) : l_markNetwork x k = some (k + ((lv (.sl tAS) x.1.1 : Nat) : Int) + ((lv (.sl tLink) x.1.2 : Nat) : Int) + ((lv (.sl tSegment) x.2.1.1 : Nat) : Int) + ((lv (.sl tSegment) x.2.1.2 : Nat) : Int) + ((lv (.sl tReservation) x.2.2.1.2.1 : Nat) : Int) + ((lv (.sl tUsage) x.2.2.1.2.2 : Nat) : Int) + ((lv (.sl ti) x.2.2.2.2.1 : Nat) : Int) + ((lv (.sl tPacketInFlight) x.2.2.2.2.2.1 : Nat) : Int) + ((lv (.sl tFlow) x.2.2.2.2.2.2.1 : Nat) : Int) + ((lv (.sl tInbox) x.2.2.2.2.2.2.2.1 : Nat) : Int), mkT (.sl tAS) x.1.1 (k), mkT (.sl tLink) x.1.2 (k + ((lv (.sl tAS) x.1.1 : Nat) : Int)), mkT (.sl tSegment) x.2.1.1 (k + ((lv (.sl tAS) x.1.1 : Nat) : Int) + ((lv (.sl tLink) x.1.2 : Nat) : Int)), mkT (.sl tSegment) x.2.1.2 (k + ((lv (.sl tAS) x.1.1 : Nat) : Int) + ((lv (.sl tLink) x.1.2 : Nat) : Int) + ((lv (.sl tSegment) x.2.1.1 : Nat) : Int)), mkT (.sl tReservation) x.2.2.1.2.1 (k + ((lv (.sl tAS) x.1.1 : Nat) : Int) + ((lv (.sl tLink) x.1.2 : Nat) : Int) + ((lv (.sl tSegment) x.2.1.1 : Nat) : Int) + ((lv (.sl tSegment) x.2.1.2 : Nat) : Int)), mkT (.sl tUsage) x.2.2.1.2.2 (k + ((lv (.sl tAS) x.1.1 : Nat) : Int) + ((lv (.sl tLink) x.1.2 : Nat) : Int) + ((lv (.sl tSegment) x.2.1.1 : Nat) : Int) + ((lv (.sl tSegment) x.2.1.2 : Nat) : Int) + ((lv (.sl tReservation) x.2.2.1.2.1 : Nat) : Int)), mkT (.sl ti) x.2.2.2.2.1 (k + ((lv (.sl tAS) x.1.1 : Nat) : Int) + ((lv (.sl tLink) x.1.2 : Nat) : Int) + ((lv (.sl tSegment) x.2.1.1 : Nat) : Int) + ((lv (.sl tSegment) x.2.1.2 : Nat) : Int) + ((lv (.sl tReservation) x.2.2.1.2.1 : Nat) : Int) + ((lv (.sl tUsage) x.2.2.1.2.2 : Nat) : Int)), mkT (.sl tPacketInFlight) x.2.2.2.2.2.1 (k + ((lv (.sl tAS) x.1.1 : Nat) : Int) + ((lv (.sl tLink) x.1.2 : Nat) : Int) + ((lv (.sl tSegment) x.2.1.1 : Nat) : Int) + ((lv (.sl tSegment) x.2.1.2 : Nat) : Int) + ((lv (.sl tReservation) x.2.2.1.2.1 : Nat) : Int) + ((lv (.sl tUsage) x.2.2.1.2.2 : Nat) : Int) + ((lv (.sl ti) x.2.2.2.2.1 : Nat) : Int)), mkT (.sl tFlow) x.2.2.2.2.2.2.1 (k + ((lv (.sl tAS) x.1.1 : Nat) : Int) + ((lv (.sl tLink) x.1.2 : Nat) : Int) + ((lv (.sl tSegment) x.2.1.1 : Nat) : Int) + ((lv (.sl tSegment) x.2.1.2 : Nat) : Int) + ((lv (.sl tReservation) x.2.2.1.2.1 : Nat) : Int) + ((lv (.sl tUsage) x.2.2.1.2.2 : Nat) : Int) + ((lv (.sl ti) x.2.2.2.2.1 : Nat) : Int) + ((lv (.sl tPacketInFlight) x.2.2.2.2.2.1 : Nat) : Int)), mkT (.sl tInbox) x.2.2.2.2.2.2.2.1 (k + ((lv (.sl tAS) x.1.1 : Nat) : Int) + ((lv (.sl tLink) x.1.2 : Nat) : Int) + ((lv (.sl tSegment) x.2.1.1 : Nat) : Int) + ((lv (.sl tSegment) x.2.1.2 : Nat) : Int) + ((lv (.sl tReservation) x.2.2.1.2.1 : Nat) : Int) + ((lv (.sl tUsage) x.2.2.1.2.2 : Nat) : Int) + ((lv (.sl ti) x.2.2.2.2.1 : Nat) : Int) + ((lv (.sl tPacketInFlight) x.2.2.2.2.2.1 : Nat) : Int) + ((lv (.sl tFlow) x.2.2.2.2.2.2.1 : Nat) : Int))) := by
  have q0 := mark_Topology (x := x.1) (k := k) h.1 (by omega) (by omega)
  have q1 := mark_SegmentDatabase (x := x.2.1) (k := k + ((lv (.sl tAS) x.1.1 : Nat) : Int) + ((lv (.sl tLink) x.1.2 : Nat) : Int)) h.2.1 (by omega) (by omega)
  have q2 := mark_Scheduler (x := x.2.2.1) (k := k + ((lv (.sl tAS) x.1.1 : Nat) : Int) + ((lv (.sl tLink) x.1.2 : Nat) : Int) + ((lv (.sl tSegment) x.2.1.1 : Nat) : Int) + ((lv (.sl tSegment) x.2.1.2 : Nat) : Int)) h.2.2.1 (by omega) (by omega)
  have q3 := mark_IntS (l := x.2.2.2.2.1) (k := k + ((lv (.sl tAS) x.1.1 : Nat) : Int) + ((lv (.sl tLink) x.1.2 : Nat) : Int) + ((lv (.sl tSegment) x.2.1.1 : Nat) : Int) + ((lv (.sl tSegment) x.2.1.2 : Nat) : Int) + ((lv (.sl tReservation) x.2.2.1.2.1 : Nat) : Int) + ((lv (.sl tUsage) x.2.2.1.2.2 : Nat) : Int)) h.2.2.2.2.1 (by omega) (by omega)
  have q4 := mark_PacketInFlightS (l := x.2.2.2.2.2.1) (k := k + ((lv (.sl tAS) x.1.1 : Nat) : Int) + ((lv (.sl tLink) x.1.2 : Nat) : Int) + ((lv (.sl tSegment) x.2.1.1 : Nat) : Int) + ((lv (.sl tSegment) x.2.1.2 : Nat) : Int) + ((lv (.sl tReservation) x.2.2.1.2.1 : Nat) : Int) + ((lv (.sl tUsage) x.2.2.1.2.2 : Nat) : Int) + ((lv (.sl ti) x.2.2.2.2.1 : Nat) : Int)) h.2.2.2.2.2.1 (by omega) (by omega)
  have q5 := mark_FlowS (l := x.2.2.2.2.2.2.1) (k := k + ((lv (.sl tAS) x.1.1 : Nat) : Int) + ((lv (.sl tLink) x.1.2 : Nat) : Int) + ((lv (.sl tSegment) x.2.1.1 : Nat) : Int) + ((lv (.sl tSegment) x.2.1.2 : Nat) : Int) + ((lv (.sl tReservation) x.2.2.1.2.1 : Nat) : Int) + ((lv (.sl tUsage) x.2.2.1.2.2 : Nat) : Int) + ((lv (.sl ti) x.2.2.2.2.1 : Nat) : Int) + ((lv (.sl tPacketInFlight) x.2.2.2.2.2.1 : Nat) : Int)) h.2.2.2.2.2.2.1 (by omega) (by omega)
  have q6 := mark_InboxS (l := x.2.2.2.2.2.2.2.1) (k := k + ((lv (.sl tAS) x.1.1 : Nat) : Int) + ((lv (.sl tLink) x.1.2 : Nat) : Int) + ((lv (.sl tSegment) x.2.1.1 : Nat) : Int) + ((lv (.sl tSegment) x.2.1.2 : Nat) : Int) + ((lv (.sl tReservation) x.2.2.1.2.1 : Nat) : Int) + ((lv (.sl tUsage) x.2.2.1.2.2 : Nat) : Int) + ((lv (.sl ti) x.2.2.2.2.1 : Nat) : Int) + ((lv (.sl tPacketInFlight) x.2.2.2.2.2.1 : Nat) : Int) + ((lv (.sl tFlow) x.2.2.2.2.2.2.1 : Nat) : Int)) h.2.2.2.2.2.2.2.1 (by omega) (by omega)
  unfold l_markNetwork
  simp only [q0, q1, q2, q3, q4, q5, q6, obind_some, peta]

theorem held_ASS {l : den (.sl tAS)} {k : Int} (h : SmB 4611686018427387904 (.sl tAS) l) (hk : 0 ≤ k) (hb : k + ((lv (.sl tAS) l : Nat) : Int) ≤ 4611686018427387904) : l_heldASS (mkT (.sl tAS) l k) k = some (k + ((lv (.sl tAS) l : Nat) : Int)) := by
  have hc := cntAll_sum (lv tAS) l
  have hc : k + ((cntAll (lv tAS) l : Nat) : Int) = k + ((lv (.sl tAS) l : Nat) : Int) := by rw [hc]; rfl
  unfold l_heldASS
  have := held0 (cE := lv tAS) (mE := mkT tAS) (SmB 4611686018427387904 tAS) (fun (a_a : List (den tAS)) => fun (s5 : Int × Int) => cond (decide (s5.2 < (a_a.length : Int))) (Option.bind (idx a_a s5.2) fun x6 => cond (x6.1 != s5.1) (some (Sum.inr (Sum.inr (-1 : Int)))) (Option.bind (idx a_a s5.2) fun x7 => cond (!(x7.2.1 == ((Int.tmod (wr (s5.1 + (1 : Int))) (3 : Int)) == (0 : Int)))) (some (Sum.inr (Sum.inr (-1 : Int)))) (Option.bind (idx a_a s5.2) fun x8 => cond (x8.2.2 != (wr ((wr (s5.1 + (1 : Int))) + (1 : Int)))) (some (Sum.inr (Sum.inr (-1 : Int)))) (some (Sum.inl (wr ((wr ((wr (s5.1 + (1 : Int))) + (1 : Int))) + (1 : Int)), wr (s5.2 + (1 : Int)))))))) (some (Sum.inr (Sum.inl s5.1)))) (l := l) (k := k) (fun k i L x hx hi hN hk hb hp => by
      have hd : decide ((i : Int) < (L.length : Int)) = true := by simpa using hi
      have hd0 : decide ((0 : Int) ≤ (i : Int)) = true := by simp
      have hw : IntKind.i64.wrap ((i : Int) + 1) = ((i + 1 : Nat) : Int) := by rw [wrap_in (by omega) (by omega)]; omega
      have hl : k + ((lv tAS x : Nat) : Int) = k + 1 + 1 + 1 := by simp only [lv] <;> omega
      rw [hl] at hb
      rw [hl]
      have hE : mkT tAS x k = (k, Int.tmod (k + 1) 3 == 0, k + 1 + 1) := by first | rfl | (simp [mkT, lv]; try omega)
      have f0 : IntKind.i64.wrap (k + 1) = k + 1 := wrap_in (by omega) (by omega)
      have f1 : IntKind.i64.wrap (k + 1 + 1) = k + 1 + 1 := wrap_in (by omega) (by omega)
      have f2 : IntKind.i64.wrap (k + 1 + 1 + 1) = k + 1 + 1 + 1 := wrap_in (by omega) (by omega)
      rw [hE] at hx
      have hi2 : idx L (i : Int) = some (k, Int.tmod (k + 1) 3 == 0, k + 1 + 1) := by rw [idx_nat]; exact hx
      simp only [hd, hw, hi2, cond_true, obind_some, bne_self_eq_false, beq_self_eq_true, Bool.not_true, cond_false, f0, f1, f2]) (fun k L => by simp) h.1 h.2 hk (by rw [hc]; exact hb)
  rw [hc] at this
  show Option.bind (loopM _ (k, (0 : Int))) _ = _
  rw [show (mkT (.sl tAS) l k) = markAll (lv tAS) (mkT tAS) l k from rfl, this]
  rfl

theorem held_LinkS {l : den (.sl tLink)} {k : Int} (h : SmB 4611686018427387904 (.sl tLink) l) (hk : 0 ≤ k) (hb : k + ((lv (.sl tLink) l : Nat) : Int) ≤ 4611686018427387904) : l_heldLinkS (mkT (.sl tLink) l k) k = some (k + ((lv (.sl tLink) l : Nat) : Int)) := by
  have hc := cntAll_sum (lv tLink) l
  have hc : k + ((cntAll (lv tLink) l : Nat) : Int) = k + ((lv (.sl tLink) l : Nat) : Int) := by rw [hc]; rfl
  unfold l_heldLinkS
  have := held0 (cE := lv tLink) (mE := mkT tLink) (SmB 4611686018427387904 tLink) (fun (a_a : List (den tLink)) => fun (s7 : Int × Int) => cond (decide (s7.2 < (a_a.length : Int))) (Option.bind (idx a_a s7.2) fun x8 => cond (x8.1 != s7.1) (some (Sum.inr (Sum.inr (-1 : Int)))) (Option.bind (idx a_a s7.2) fun x9 => cond (x9.2.1 != (wr (s7.1 + (1 : Int)))) (some (Sum.inr (Sum.inr (-1 : Int)))) (Option.bind (idx a_a s7.2) fun x10 => cond (x10.2.2.1 != (wr ((wr (s7.1 + (1 : Int))) + (1 : Int)))) (some (Sum.inr (Sum.inr (-1 : Int)))) (Option.bind (idx a_a s7.2) fun x11 => cond (x11.2.2.2.1 != (wr ((wr ((wr (s7.1 + (1 : Int))) + (1 : Int))) + (1 : Int)))) (some (Sum.inr (Sum.inr (-1 : Int)))) (Option.bind (idx a_a s7.2) fun x12 => cond (x12.2.2.2.2 != (wr ((wr ((wr ((wr (s7.1 + (1 : Int))) + (1 : Int))) + (1 : Int))) + (1 : Int)))) (some (Sum.inr (Sum.inr (-1 : Int)))) (some (Sum.inl (wr ((wr ((wr ((wr ((wr (s7.1 + (1 : Int))) + (1 : Int))) + (1 : Int))) + (1 : Int))) + (1 : Int)), wr (s7.2 + (1 : Int)))))))))) (some (Sum.inr (Sum.inl s7.1)))) (l := l) (k := k) (fun k i L x hx hi hN hk hb hp => by
      have hd : decide ((i : Int) < (L.length : Int)) = true := by simpa using hi
      have hd0 : decide ((0 : Int) ≤ (i : Int)) = true := by simp
      have hw : IntKind.i64.wrap ((i : Int) + 1) = ((i + 1 : Nat) : Int) := by rw [wrap_in (by omega) (by omega)]; omega
      have hl : k + ((lv tLink x : Nat) : Int) = k + 1 + 1 + 1 + 1 + 1 := by simp only [lv] <;> omega
      rw [hl] at hb
      rw [hl]
      have hE : mkT tLink x k = (k, k + 1, k + 1 + 1, k + 1 + 1 + 1, k + 1 + 1 + 1 + 1) := by first | rfl | (simp [mkT, lv]; try omega)
      have f0 : IntKind.i64.wrap (k + 1) = k + 1 := wrap_in (by omega) (by omega)
      have f1 : IntKind.i64.wrap (k + 1 + 1) = k + 1 + 1 := wrap_in (by omega) (by omega)
      have f2 : IntKind.i64.wrap (k + 1 + 1 + 1) = k + 1 + 1 + 1 := wrap_in (by omega) (by omega)
      have f3 : IntKind.i64.wrap (k + 1 + 1 + 1 + 1) = k + 1 + 1 + 1 + 1 := wrap_in (by omega) (by omega)
      have f4 : IntKind.i64.wrap (k + 1 + 1 + 1 + 1 + 1) = k + 1 + 1 + 1 + 1 + 1 := wrap_in (by omega) (by omega)
      rw [hE] at hx
      have hi2 : idx L (i : Int) = some (k, k + 1, k + 1 + 1, k + 1 + 1 + 1, k + 1 + 1 + 1 + 1) := by rw [idx_nat]; exact hx
      simp only [hd, hw, hi2, cond_true, obind_some, bne_self_eq_false, beq_self_eq_true, Bool.not_true, cond_false, f0, f1, f2, f3, f4]) (fun k L => by simp) h.1 h.2 hk (by rw [hc]; exact hb)
  rw [hc] at this
  show Option.bind (loopM _ (k, (0 : Int))) _ = _
  rw [show (mkT (.sl tLink) l k) = markAll (lv tLink) (mkT tLink) l k from rfl, this]
  rfl

theorem held_Topology {x : den tTopology} {k : Int} (h : SmB 4611686018427387904 tTopology x) (hk : 0 ≤ k) (hb : k + ((lv (.sl tAS) x.1 : Nat) : Int) + ((lv (.sl tLink) x.2 : Nat) : Int) ≤ 4611686018427387904) : l_heldTopology (mkT (.sl tAS) x.1 (k), mkT (.sl tLink) x.2 (k + ((lv (.sl tAS) x.1 : Nat) : Int))) k = some (k + ((lv (.sl tAS) x.1 : Nat) : Int) + ((lv (.sl tLink) x.2 : Nat) : Int)) := by
  have q0 := held_ASS (l := x.1) (k := k) h.1 (by omega) (by omega)
  have q1 := held_LinkS (l := x.2) (k := k + ((lv (.sl tAS) x.1 : Nat) : Int)) h.2 (by omega) (by omega)
  have d0 : decide (k + ((lv (.sl tAS) x.1 : Nat) : Int) < 0) = false := by simp <;> omega
  have d1 : decide (k + ((lv (.sl tAS) x.1 : Nat) : Int) + ((lv (.sl tLink) x.2 : Nat) : Int) < 0) = false := by simp <;> omega
  unfold l_heldTopology
  simp only [q0, q1, d0, d1, obind_some, peta, cond_false]

theorem held_HopS {l : den (.sl tHop)} {k : Int} (h : SmB 4611686018427387904 (.sl tHop) l) (hk : 0 ≤ k) (hb : k + ((lv (.sl tHop) l : Nat) : Int) ≤ 4611686018427387904) : l_heldHopS (mkT (.sl tHop) l k) k = some (k + ((lv (.sl tHop) l : Nat) : Int)) := by
  have hc := cntAll_sum (lv tHop) l
  have hc : k + ((cntAll (lv tHop) l : Nat) : Int) = k + ((lv (.sl tHop) l : Nat) : Int) := by rw [hc]; rfl
  unfold l_heldHopS
  have := held0 (cE := lv tHop) (mE := mkT tHop) (SmB 4611686018427387904 tHop) (fun (a_a : List (den tHop)) => fun (s7 : Int × Int) => cond (decide (s7.2 < (a_a.length : Int))) (Option.bind (idx a_a s7.2) fun x8 => cond (x8.1 != s7.1) (some (Sum.inr (Sum.inr (-1 : Int)))) (Option.bind (idx a_a s7.2) fun x9 => cond (x9.2.1 != (wr (s7.1 + (1 : Int)))) (some (Sum.inr (Sum.inr (-1 : Int)))) (Option.bind (idx a_a s7.2) fun x10 => cond (x10.2.2.1 != (wr ((wr (s7.1 + (1 : Int))) + (1 : Int)))) (some (Sum.inr (Sum.inr (-1 : Int)))) (Option.bind (idx a_a s7.2) fun x11 => cond (x11.2.2.2.1 != (wr ((wr ((wr (s7.1 + (1 : Int))) + (1 : Int))) + (1 : Int)))) (some (Sum.inr (Sum.inr (-1 : Int)))) (Option.bind (idx a_a s7.2) fun x12 => cond (x12.2.2.2.2 != (wr ((wr ((wr ((wr (s7.1 + (1 : Int))) + (1 : Int))) + (1 : Int))) + (1 : Int)))) (some (Sum.inr (Sum.inr (-1 : Int)))) (some (Sum.inl (wr ((wr ((wr ((wr ((wr (s7.1 + (1 : Int))) + (1 : Int))) + (1 : Int))) + (1 : Int))) + (1 : Int)), wr (s7.2 + (1 : Int)))))))))) (some (Sum.inr (Sum.inl s7.1)))) (l := l) (k := k) (fun k i L x hx hi hN hk hb hp => by
      have hd : decide ((i : Int) < (L.length : Int)) = true := by simpa using hi
      have hd0 : decide ((0 : Int) ≤ (i : Int)) = true := by simp
      have hw : IntKind.i64.wrap ((i : Int) + 1) = ((i + 1 : Nat) : Int) := by rw [wrap_in (by omega) (by omega)]; omega
      have hl : k + ((lv tHop x : Nat) : Int) = k + 1 + 1 + 1 + 1 + 1 := by simp only [lv] <;> omega
      rw [hl] at hb
      rw [hl]
      have hE : mkT tHop x k = (k, k + 1, k + 1 + 1, k + 1 + 1 + 1, k + 1 + 1 + 1 + 1) := by first | rfl | (simp [mkT, lv]; try omega)
      have f0 : IntKind.i64.wrap (k + 1) = k + 1 := wrap_in (by omega) (by omega)
      have f1 : IntKind.i64.wrap (k + 1 + 1) = k + 1 + 1 := wrap_in (by omega) (by omega)
      have f2 : IntKind.i64.wrap (k + 1 + 1 + 1) = k + 1 + 1 + 1 := wrap_in (by omega) (by omega)
      have f3 : IntKind.i64.wrap (k + 1 + 1 + 1 + 1) = k + 1 + 1 + 1 + 1 := wrap_in (by omega) (by omega)
      have f4 : IntKind.i64.wrap (k + 1 + 1 + 1 + 1 + 1) = k + 1 + 1 + 1 + 1 + 1 := wrap_in (by omega) (by omega)
      rw [hE] at hx
      have hi2 : idx L (i : Int) = some (k, k + 1, k + 1 + 1, k + 1 + 1 + 1, k + 1 + 1 + 1 + 1) := by rw [idx_nat]; exact hx
      simp only [hd, hw, hi2, cond_true, obind_some, bne_self_eq_false, beq_self_eq_true, Bool.not_true, cond_false, f0, f1, f2, f3, f4]) (fun k L => by simp) h.1 h.2 hk (by rw [hc]; exact hb)
  rw [hc] at this
  show Option.bind (loopM _ (k, (0 : Int))) _ = _
  rw [show (mkT (.sl tHop) l k) = markAll (lv tHop) (mkT tHop) l k from rfl, this]
  rfl

theorem held_SegmentS {l : den (.sl tSegment)} {k : Int} (h : SmB 4611686018427387904 (.sl tSegment) l) (hk : 0 ≤ k) (hb : k + ((lv (.sl tSegment) l : Nat) : Int) ≤ 4611686018427387904) : l_heldSegmentS (mkT (.sl tSegment) l k) k = some (k + ((lv (.sl tSegment) l : Nat) : Int)) := by
  have hc := cntAll_sum (lv tSegment) l
  have hc : k + ((cntAll (lv tSegment) l : Nat) : Int) = k + ((lv (.sl tSegment) l : Nat) : Int) := by rw [hc]; rfl
  unfold l_heldSegmentS
  have := held0 (cE := lv tSegment) (mE := mkT tSegment) (SmB 4611686018427387904 tSegment) (fun (a_a : List (den tSegment)) => fun (s6 : Int × Int) => cond (decide (s6.2 < (a_a.length : Int))) (Option.bind (idx a_a s6.2) fun x7 => cond (x7.1 != s6.1) (some (Sum.inr (Sum.inr (-1 : Int)))) (Option.bind (idx a_a s6.2) fun x8 => cond (x8.2.1 != (wr (s6.1 + (1 : Int)))) (some (Sum.inr (Sum.inr (-1 : Int)))) (Option.bind (idx a_a s6.2) fun x9 => Option.bind (l_heldHopS x9.2.2 (wr ((wr (s6.1 + (1 : Int))) + (1 : Int)))) fun y10 => cond (decide (y10 < (0 : Int))) (some (Sum.inr (Sum.inr (-1 : Int)))) (some (Sum.inl (y10, wr (s6.2 + (1 : Int)))))))) (some (Sum.inr (Sum.inl s6.1)))) (l := l) (k := k) (fun k i L x hx hi hN hk hb hp => by
      have hd : decide ((i : Int) < (L.length : Int)) = true := by simpa using hi
      have hd0 : decide ((0 : Int) ≤ (i : Int)) = true := by simp
      have hw : IntKind.i64.wrap ((i : Int) + 1) = ((i + 1 : Nat) : Int) := by rw [wrap_in (by omega) (by omega)]; omega
      have hl : k + ((lv tSegment x : Nat) : Int) = k + 1 + 1 + ((lv (.sl tHop) x.2.2 : Nat) : Int) := by simp only [lv] <;> omega
      rw [hl] at hb
      rw [hl]
      have hE : mkT tSegment x k = (k, k + 1, mkT (.sl tHop) x.2.2 (k + 1 + 1)) := by first | rfl | (simp [mkT, lv]; try omega)
      have f0 : IntKind.i64.wrap (k + 1) = k + 1 := wrap_in (by omega) (by omega)
      have f1 : IntKind.i64.wrap (k + 1 + 1) = k + 1 + 1 := wrap_in (by omega) (by omega)
      have f2 := held_HopS (l := x.2.2) (k := k + 1 + 1) hp.2.2 (by omega) (by omega)
      have g2 : decide (k + 1 + 1 + ((lv (.sl tHop) x.2.2 : Nat) : Int) < 0) = false := by simp <;> omega
      rw [hE] at hx
      have hi2 : idx L (i : Int) = some (k, k + 1, mkT (.sl tHop) x.2.2 (k + 1 + 1)) := by rw [idx_nat]; exact hx
      simp only [hd, hw, hi2, cond_true, obind_some, bne_self_eq_false, beq_self_eq_true, Bool.not_true, cond_false, f0, f1, f2, g2]) (fun k L => by simp) h.1 h.2 hk (by rw [hc]; exact hb)
  rw [hc] at this
  show Option.bind (loopM _ (k, (0 : Int))) _ = _
  rw [show (mkT (.sl tSegment) l k) = markAll (lv tSegment) (mkT tSegment) l k from rfl, this]
  rfl

theorem held_SegmentDatabase {x : den tSegmentDatabase} {k : Int} (h : SmB 4611686018427387904 tSegmentDatabase x) (hk : 0 ≤ k) (hb : k + ((lv (.sl tSegment) x.1 : Nat) : Int) + ((lv (.sl tSegment) x.2 : Nat) : Int) ≤ 4611686018427387904) : l_heldSegmentDatabase (mkT (.sl tSegment) x.1 (k), mkT (.sl tSegment) x.2 (k + ((lv (.sl tSegment) x.1 : Nat) : Int))) k = some (k + ((lv (.sl tSegment) x.1 : Nat) : Int) + ((lv (.sl tSegment) x.2 : Nat) : Int)) := by
  have q0 := held_SegmentS (l := x.1) (k := k) h.1 (by omega) (by omega)
  have q1 := held_SegmentS (l := x.2) (k := k + ((lv (.sl tSegment) x.1 : Nat) : Int)) h.2 (by omega) (by omega)
  have d0 : decide (k + ((lv (.sl tSegment) x.1 : Nat) : Int) < 0) = false := by simp <;> omega
  have d1 : decide (k + ((lv (.sl tSegment) x.1 : Nat) : Int) + ((lv (.sl tSegment) x.2 : Nat) : Int) < 0) = false := by simp <;> omega
  unfold l_heldSegmentDatabase
  simp only [q0, q1, d0, d1, obind_some, peta, cond_false]

theorem held_ReservationS {l : den (.sl tReservation)} {k : Int} (h : SmB 4611686018427387904 (.sl tReservation) l) (hk : 0 ≤ k) (hb : k + ((lv (.sl tReservation) l : Nat) : Int) ≤ 4611686018427387904) : l_heldReservationS (mkT (.sl tReservation) l k) k = some (k + ((lv (.sl tReservation) l : Nat) : Int)) := by
  have hc := cntAll_sum (lv tReservation) l
  have hc : k + ((cntAll (lv tReservation) l : Nat) : Int) = k + ((lv (.sl tReservation) l : Nat) : Int) := by rw [hc]; rfl
  unfold l_heldReservationS
  have := held0 (cE := lv tReservation) (mE := mkT tReservation) (SmB 4611686018427387904 tReservation) (fun (a_a : List (den tReservation)) => fun (s7 : Int × Int) => cond (decide (s7.2 < (a_a.length : Int))) (Option.bind (idx a_a s7.2) fun x8 => cond (x8.1 != s7.1) (some (Sum.inr (Sum.inr (-1 : Int)))) (Option.bind (idx a_a s7.2) fun x9 => cond (x9.2.1 != (wr (s7.1 + (1 : Int)))) (some (Sum.inr (Sum.inr (-1 : Int)))) (Option.bind (idx a_a s7.2) fun x10 => cond (x10.2.2.1 != (wr ((wr (s7.1 + (1 : Int))) + (1 : Int)))) (some (Sum.inr (Sum.inr (-1 : Int)))) (Option.bind (idx a_a s7.2) fun x11 => cond (x11.2.2.2.1 != (wr ((wr ((wr (s7.1 + (1 : Int))) + (1 : Int))) + (1 : Int)))) (some (Sum.inr (Sum.inr (-1 : Int)))) (Option.bind (idx a_a s7.2) fun x12 => cond (x12.2.2.2.2 != (wr ((wr ((wr ((wr (s7.1 + (1 : Int))) + (1 : Int))) + (1 : Int))) + (1 : Int)))) (some (Sum.inr (Sum.inr (-1 : Int)))) (some (Sum.inl (wr ((wr ((wr ((wr ((wr (s7.1 + (1 : Int))) + (1 : Int))) + (1 : Int))) + (1 : Int))) + (1 : Int)), wr (s7.2 + (1 : Int)))))))))) (some (Sum.inr (Sum.inl s7.1)))) (l := l) (k := k) (fun k i L x hx hi hN hk hb hp => by
      have hd : decide ((i : Int) < (L.length : Int)) = true := by simpa using hi
      have hd0 : decide ((0 : Int) ≤ (i : Int)) = true := by simp
      have hw : IntKind.i64.wrap ((i : Int) + 1) = ((i + 1 : Nat) : Int) := by rw [wrap_in (by omega) (by omega)]; omega
      have hl : k + ((lv tReservation x : Nat) : Int) = k + 1 + 1 + 1 + 1 + 1 := by simp only [lv] <;> omega
      rw [hl] at hb
      rw [hl]
      have hE : mkT tReservation x k = (k, k + 1, k + 1 + 1, k + 1 + 1 + 1, k + 1 + 1 + 1 + 1) := by first | rfl | (simp [mkT, lv]; try omega)
      have f0 : IntKind.i64.wrap (k + 1) = k + 1 := wrap_in (by omega) (by omega)
      have f1 : IntKind.i64.wrap (k + 1 + 1) = k + 1 + 1 := wrap_in (by omega) (by omega)
      have f2 : IntKind.i64.wrap (k + 1 + 1 + 1) = k + 1 + 1 + 1 := wrap_in (by omega) (by omega)
      have f3 : IntKind.i64.wrap (k + 1 + 1 + 1 + 1) = k + 1 + 1 + 1 + 1 := wrap_in (by omega) (by omega)
      have f4 : IntKind.i64.wrap (k + 1 + 1 + 1 + 1 + 1) = k + 1 + 1 + 1 + 1 + 1 := wrap_in (by omega) (by omega)
      rw [hE] at hx
      have hi2 : idx L (i : Int) = some (k, k + 1, k + 1 + 1, k + 1 + 1 + 1, k + 1 + 1 + 1 + 1) := by rw [idx_nat]; exact hx
      simp only [hd, hw, hi2, cond_true, obind_some, bne_self_eq_false, beq_self_eq_true, Bool.not_true, cond_false, f0, f1, f2, f3, f4]) (fun k L => by simp) h.1 h.2 hk (by rw [hc]; exact hb)
  rw [hc] at this
  show Option.bind (loopM _ (k, (0 : Int))) _ = _
  rw [show (mkT (.sl tReservation) l k) = markAll (lv tReservation) (mkT tReservation) l k from rfl, this]
  rfl

theorem held_UsageS {l : den (.sl tUsage)} {k : Int} (h : SmB 4611686018427387904 (.sl tUsage) l) (hk : 0 ≤ k) (hb : k + ((lv (.sl tUsage) l : Nat) : Int) ≤ 4611686018427387904) : l_heldUsageS (mkT (.sl tUsage) l k) k = some (k + ((lv (.sl tUsage) l : Nat) : Int)) := by
  have hc := cntAll_sum (lv tUsage) l
  have hc : k + ((cntAll (lv tUsage) l : Nat) : Int) = k + ((lv (.sl tUsage) l : Nat) : Int) := by rw [hc]; rfl
  unfold l_heldUsageS
  have := held0 (cE := lv tUsage) (mE := mkT tUsage) (SmB 4611686018427387904 tUsage) (fun (a_a : List (den tUsage)) => fun (s6 : Int × Int) => cond (decide (s6.2 < (a_a.length : Int))) (Option.bind (idx a_a s6.2) fun x7 => cond (x7.1 != s6.1) (some (Sum.inr (Sum.inr (-1 : Int)))) (Option.bind (idx a_a s6.2) fun x8 => cond (x8.2.1 != (wr (s6.1 + (1 : Int)))) (some (Sum.inr (Sum.inr (-1 : Int)))) (Option.bind (idx a_a s6.2) fun x9 => cond (x9.2.2.1 != (wr ((wr (s6.1 + (1 : Int))) + (1 : Int)))) (some (Sum.inr (Sum.inr (-1 : Int)))) (Option.bind (idx a_a s6.2) fun x10 => cond (x10.2.2.2 != (wr ((wr ((wr (s6.1 + (1 : Int))) + (1 : Int))) + (1 : Int)))) (some (Sum.inr (Sum.inr (-1 : Int)))) (some (Sum.inl (wr ((wr ((wr ((wr (s6.1 + (1 : Int))) + (1 : Int))) + (1 : Int))) + (1 : Int)), wr (s6.2 + (1 : Int))))))))) (some (Sum.inr (Sum.inl s6.1)))) (l := l) (k := k) (fun k i L x hx hi hN hk hb hp => by
      have hd : decide ((i : Int) < (L.length : Int)) = true := by simpa using hi
      have hd0 : decide ((0 : Int) ≤ (i : Int)) = true := by simp
      have hw : IntKind.i64.wrap ((i : Int) + 1) = ((i + 1 : Nat) : Int) := by rw [wrap_in (by omega) (by omega)]; omega
      have hl : k + ((lv tUsage x : Nat) : Int) = k + 1 + 1 + 1 + 1 := by simp only [lv] <;> omega
      rw [hl] at hb
      rw [hl]
      have hE : mkT tUsage x k = (k, k + 1, k + 1 + 1, k + 1 + 1 + 1) := by first | rfl | (simp [mkT, lv]; try omega)
      have f0 : IntKind.i64.wrap (k + 1) = k + 1 := wrap_in (by omega) (by omega)
      have f1 : IntKind.i64.wrap (k + 1 + 1) = k + 1 + 1 := wrap_in (by omega) (by omega)
      have f2 : IntKind.i64.wrap (k + 1 + 1 + 1) = k + 1 + 1 + 1 := wrap_in (by omega) (by omega)
      have f3 : IntKind.i64.wrap (k + 1 + 1 + 1 + 1) = k + 1 + 1 + 1 + 1 := wrap_in (by omega) (by omega)
      rw [hE] at hx
      have hi2 : idx L (i : Int) = some (k, k + 1, k + 1 + 1, k + 1 + 1 + 1) := by rw [idx_nat]; exact hx
      simp only [hd, hw, hi2, cond_true, obind_some, bne_self_eq_false, beq_self_eq_true, Bool.not_true, cond_false, f0, f1, f2, f3]) (fun k L => by simp) h.1 h.2 hk (by rw [hc]; exact hb)
  rw [hc] at this
  show Option.bind (loopM _ (k, (0 : Int))) _ = _
  rw [show (mkT (.sl tUsage) l k) = markAll (lv tUsage) (mkT tUsage) l k from rfl, this]
  rfl

theorem held_Scheduler {x : den tScheduler} {k : Int} (h : SmB 4611686018427387904 tScheduler x) (hk : 0 ≤ k) (hb : k + ((lv (.sl tReservation) x.2.1 : Nat) : Int) + ((lv (.sl tUsage) x.2.2 : Nat) : Int) ≤ 4611686018427387904) : l_heldScheduler (x.1, mkT (.sl tReservation) x.2.1 (k), mkT (.sl tUsage) x.2.2 (k + ((lv (.sl tReservation) x.2.1 : Nat) : Int))) k = some (k + ((lv (.sl tReservation) x.2.1 : Nat) : Int) + ((lv (.sl tUsage) x.2.2 : Nat) : Int)) := by
  have q0 := held_ReservationS (l := x.2.1) (k := k) h.2.1 (by omega) (by omega)
  have q1 := held_UsageS (l := x.2.2) (k := k + ((lv (.sl tReservation) x.2.1 : Nat) : Int)) h.2.2 (by omega) (by omega)
  have d0 : decide (k + ((lv (.sl tReservation) x.2.1 : Nat) : Int) < 0) = false := by simp <;> omega
  have d1 : decide (k + ((lv (.sl tReservation) x.2.1 : Nat) : Int) + ((lv (.sl tUsage) x.2.2 : Nat) : Int) < 0) = false := by simp <;> omega
  unfold l_heldScheduler
  simp only [q0, q1, d0, d1, obind_some, peta, cond_false]

theorem held_IntS {l : den (.sl ti)} {k : Int} (h : SmB 4611686018427387904 (.sl ti) l) (hk : 0 ≤ k) (hb : k + ((lv (.sl ti) l : Nat) : Int) ≤ 4611686018427387904) : l_heldIntS (mkT (.sl ti) l k) k = some (k + ((lv (.sl ti) l : Nat) : Int)) := by
  have hc := cntAll_sum (lv ti) l
  have hc : k + ((cntAll (lv ti) l : Nat) : Int) = k + ((lv (.sl ti) l : Nat) : Int) := by rw [hc]; rfl
  unfold l_heldIntS
  have := held0 (cE := lv ti) (mE := mkT ti) (SmB 4611686018427387904 ti) (fun (a_a : List Int) => fun (s3 : Int × Int) => cond (decide (s3.2 < (a_a.length : Int))) (Option.bind (idx a_a s3.2) fun x4 => cond (x4 != s3.1) (some (Sum.inr (Sum.inr (-1 : Int)))) (some (Sum.inl (wr (s3.1 + (1 : Int)), wr (s3.2 + (1 : Int)))))) (some (Sum.inr (Sum.inl s3.1)))) (l := l) (k := k) (fun k i L x hx hi hN hk hb hp => by
      have hd : decide ((i : Int) < (L.length : Int)) = true := by simpa using hi
      have hd0 : decide ((0 : Int) ≤ (i : Int)) = true := by simp
      have hw : IntKind.i64.wrap ((i : Int) + 1) = ((i + 1 : Nat) : Int) := by rw [wrap_in (by omega) (by omega)]; omega
      have hl : k + ((lv ti x : Nat) : Int) = k + 1 := by simp only [lv] <;> omega
      rw [hl] at hb
      rw [hl]
      have hE : mkT ti x k = k := by first | rfl | (simp [mkT, lv]; try omega)
      have f0 : IntKind.i64.wrap (k + 1) = k + 1 := wrap_in (by omega) (by omega)
      rw [hE] at hx
      have hi2 : idx L (i : Int) = some k := by rw [idx_nat]; exact hx
      simp only [hd, hw, hi2, cond_true, obind_some, bne_self_eq_false, beq_self_eq_true, Bool.not_true, cond_false, f0]) (fun k L => by simp) h.1 h.2 hk (by rw [hc]; exact hb)
  rw [hc] at this
  show Option.bind (loopM _ (k, (0 : Int))) _ = _
  rw [show (mkT (.sl ti) l k) = markAll (lv ti) (mkT ti) l k from rfl, this]
  rfl

theorem held_PathPartS {l : den (.sl tPathPart)} {k : Int} (h : SmB 4611686018427387904 (.sl tPathPart) l) (hk : 0 ≤ k) (hb : k + ((lv (.sl tPathPart) l : Nat) : Int) ≤ 4611686018427387904) : l_heldPathPartS (mkT (.sl tPathPart) l k) k = some (k + ((lv (.sl tPathPart) l : Nat) : Int)) := by
  have hc := cntAll_sum (lv tPathPart) l
  have hc : k + ((cntAll (lv tPathPart) l : Nat) : Int) = k + ((lv (.sl tPathPart) l : Nat) : Int) := by rw [hc]; rfl
  unfold l_heldPathPartS
  have := held0 (cE := lv tPathPart) (mE := mkT tPathPart) (SmB 4611686018427387904 tPathPart) (fun (a_a : List (den tPathPart)) => fun (s7 : Int × Int) => cond (decide (s7.2 < (a_a.length : Int))) (Option.bind (idx a_a s7.2) fun x8 => cond (x8.1 != s7.1) (some (Sum.inr (Sum.inr (-1 : Int)))) (Option.bind (idx a_a s7.2) fun x9 => cond (x9.2.1 != (wr (s7.1 + (1 : Int)))) (some (Sum.inr (Sum.inr (-1 : Int)))) (Option.bind (idx a_a s7.2) fun x10 => cond (x10.2.2.1 != (wr ((wr (s7.1 + (1 : Int))) + (1 : Int)))) (some (Sum.inr (Sum.inr (-1 : Int)))) (Option.bind (idx a_a s7.2) fun x11 => Option.bind (l_heldHopS x11.2.2.2 (wr ((wr ((wr (s7.1 + (1 : Int))) + (1 : Int))) + (1 : Int)))) fun y12 => cond (decide (y12 < (0 : Int))) (some (Sum.inr (Sum.inr (-1 : Int)))) (some (Sum.inl (y12, wr (s7.2 + (1 : Int))))))))) (some (Sum.inr (Sum.inl s7.1)))) (l := l) (k := k) (fun k i L x hx hi hN hk hb hp => by
      have hd : decide ((i : Int) < (L.length : Int)) = true := by simpa using hi
      have hd0 : decide ((0 : Int) ≤ (i : Int)) = true := by simp
      have hw : IntKind.i64.wrap ((i : Int) + 1) = ((i + 1 : Nat) : Int) := by rw [wrap_in (by omega) (by omega)]; omega
      have hl : k + ((lv tPathPart x : Nat) : Int) = k + 1 + 1 + 1 + ((lv (.sl tHop) x.2.2.2 : Nat) : Int) := by simp only [lv] <;> omega
      rw [hl] at hb
      rw [hl]
      have hE : mkT tPathPart x k = (k, k + 1, k + 1 + 1, mkT (.sl tHop) x.2.2.2 (k + 1 + 1 + 1)) := by first | rfl | (simp [mkT, lv]; try omega)
      have f0 : IntKind.i64.wrap (k + 1) = k + 1 := wrap_in (by omega) (by omega)
      have f1 : IntKind.i64.wrap (k + 1 + 1) = k + 1 + 1 := wrap_in (by omega) (by omega)
      have f2 : IntKind.i64.wrap (k + 1 + 1 + 1) = k + 1 + 1 + 1 := wrap_in (by omega) (by omega)
      have f3 := held_HopS (l := x.2.2.2) (k := k + 1 + 1 + 1) hp.2.2.2 (by omega) (by omega)
      have g3 : decide (k + 1 + 1 + 1 + ((lv (.sl tHop) x.2.2.2 : Nat) : Int) < 0) = false := by simp <;> omega
      rw [hE] at hx
      have hi2 : idx L (i : Int) = some (k, k + 1, k + 1 + 1, mkT (.sl tHop) x.2.2.2 (k + 1 + 1 + 1)) := by rw [idx_nat]; exact hx
      simp only [hd, hw, hi2, cond_true, obind_some, bne_self_eq_false, beq_self_eq_true, Bool.not_true, cond_false, f0, f1, f2, f3, g3]) (fun k L => by simp) h.1 h.2 hk (by rw [hc]; exact hb)
  rw [hc] at this
  show Option.bind (loopM _ (k, (0 : Int))) _ = _
  rw [show (mkT (.sl tPathPart) l k) = markAll (lv tPathPart) (mkT tPathPart) l k from rfl, this]
  rfl

theorem held_ByteS {l : den (.sl tb)} {k : Int} (h : SmB 4611686018427387904 (.sl tb) l) (hk : 0 ≤ k) (hb : k + ((lv (.sl tb) l : Nat) : Int) ≤ 4611686018427387904) : l_heldByteS (mkT (.sl tb) l k) k = some (k + ((lv (.sl tb) l : Nat) : Int)) := by
  have hc := cntAll_sum (lv tb) l
  have hc : k + ((cntAll (lv tb) l : Nat) : Int) = k + ((lv (.sl tb) l : Nat) : Int) := by rw [hc]; rfl
  unfold l_heldByteS
  have := held0 (cE := lv tb) (mE := mkT tb) (SmB 4611686018427387904 tb) (fun (a_a : List Int) => fun (s3 : Int × Int) => cond (decide (s3.2 < (a_a.length : Int))) (Option.bind (idx a_a s3.2) fun x4 => cond (x4 != (IntKind.wrap .u8 s3.1)) (some (Sum.inr (Sum.inr (-1 : Int)))) (some (Sum.inl (wr (s3.1 + (1 : Int)), wr (s3.2 + (1 : Int)))))) (some (Sum.inr (Sum.inl s3.1)))) (l := l) (k := k) (fun k i L x hx hi hN hk hb hp => by
      have hd : decide ((i : Int) < (L.length : Int)) = true := by simpa using hi
      have hd0 : decide ((0 : Int) ≤ (i : Int)) = true := by simp
      have hw : IntKind.i64.wrap ((i : Int) + 1) = ((i + 1 : Nat) : Int) := by rw [wrap_in (by omega) (by omega)]; omega
      have hl : k + ((lv tb x : Nat) : Int) = k + 1 := by simp only [lv] <;> omega
      rw [hl] at hb
      rw [hl]
      have hE : mkT tb x k = IntKind.u8.wrap (k) := by first | rfl | (simp [mkT, lv]; try omega)
      have f0 : IntKind.i64.wrap (k + 1) = k + 1 := wrap_in (by omega) (by omega)
      rw [hE] at hx
      have hi2 : idx L (i : Int) = some (IntKind.u8.wrap (k)) := by rw [idx_nat]; exact hx
      simp only [hd, hw, hi2, cond_true, obind_some, bne_self_eq_false, beq_self_eq_true, Bool.not_true, cond_false, f0]) (fun k L => by simp) h.1 h.2 hk (by rw [hc]; exact hb)
  rw [hc] at this
  show Option.bind (loopM _ (k, (0 : Int))) _ = _
  rw [show (mkT (.sl tb) l k) = markAll (lv tb) (mkT tb) l k from rfl, this]
  rfl

theorem held_PacketInFlightS {l : den (.sl tPacketInFlight)} {k : Int} (h : SmB 4611686018427387904 (.sl tPacketInFlight) l) (hk : 0 ≤ k) (hb : k + ((lv (.sl tPacketInFlight) l : Nat) : Int) ≤ 4611686018427387904) : l_heldPacketInFlightS (mkT (.sl tPacketInFlight) l k) k = some (k + ((lv (.sl tPacketInFlight) l : Nat) : Int)) := by
  have hc := cntAll_sum (lv tPacketInFlight) l
  have hc : k + ((cntAll (lv tPacketInFlight) l : Nat) : Int) = k + ((lv (.sl tPacketInFlight) l : Nat) : Int) := by rw [hc]; rfl
  unfold l_heldPacketInFlightS
  have := held0 (cE := lv tPacketInFlight) (mE := mkT tPacketInFlight) (SmB 4611686018427387904 tPacketInFlight) (fun (a_p0 : List (den tPacketInFlight)) => fun (s16 : Int × Int) => cond (decide (s16.2 < (a_p0.length : Int))) (Option.bind (idx a_p0 s16.2) fun x17 => cond (x17.1 != s16.1) (some (Sum.inr (Sum.inr (-1 : Int)))) (Option.bind (idx a_p0 s16.2) fun x18 => cond (x18.2.1 != (wr (s16.1 + (1 : Int)))) (some (Sum.inr (Sum.inr (-1 : Int)))) (Option.bind (idx a_p0 s16.2) fun x19 => cond (x19.2.2.1 != (wr ((wr (s16.1 + (1 : Int))) + (1 : Int)))) (some (Sum.inr (Sum.inr (-1 : Int)))) (Option.bind (idx a_p0 s16.2) fun x20 => cond (x20.2.2.2.1 != (wr ((wr ((wr (s16.1 + (1 : Int))) + (1 : Int))) + (1 : Int)))) (some (Sum.inr (Sum.inr (-1 : Int)))) (Option.bind (idx a_p0 s16.2) fun x21 => cond (x21.2.2.2.2.1 != (wr ((wr ((wr ((wr (s16.1 + (1 : Int))) + (1 : Int))) + (1 : Int))) + (1 : Int)))) (some (Sum.inr (Sum.inr (-1 : Int)))) (Option.bind (idx a_p0 s16.2) fun x22 => Option.bind (l_heldPathPartS x22.2.2.2.2.2.1 (wr ((wr ((wr ((wr ((wr (s16.1 + (1 : Int))) + (1 : Int))) + (1 : Int))) + (1 : Int))) + (1 : Int)))) fun y23 => cond (decide (y23 < (0 : Int))) (some (Sum.inr (Sum.inr (-1 : Int)))) (Option.bind (idx a_p0 s16.2) fun x24 => cond (x24.2.2.2.2.2.2.1 != y23) (some (Sum.inr (Sum.inr (-1 : Int)))) (Option.bind (idx a_p0 s16.2) fun x25 => cond (x25.2.2.2.2.2.2.2.1 != (wr (y23 + (1 : Int)))) (some (Sum.inr (Sum.inr (-1 : Int)))) (Option.bind (idx a_p0 s16.2) fun x26 => cond (x26.2.2.2.2.2.2.2.2.1 != (wr ((wr (y23 + (1 : Int))) + (1 : Int)))) (some (Sum.inr (Sum.inr (-1 : Int)))) (Option.bind (idx a_p0 s16.2) fun x27 => cond (x27.2.2.2.2.2.2.2.2.2.1 != (wr ((wr ((wr (y23 + (1 : Int))) + (1 : Int))) + (1 : Int)))) (some (Sum.inr (Sum.inr (-1 : Int)))) (Option.bind (idx a_p0 s16.2) fun x28 => cond (x28.2.2.2.2.2.2.2.2.2.2.1 != (wr ((wr ((wr ((wr (y23 + (1 : Int))) + (1 : Int))) + (1 : Int))) + (1 : Int)))) (some (Sum.inr (Sum.inr (-1 : Int)))) (Option.bind (idx a_p0 s16.2) fun x29 => Option.bind (l_heldByteS x29.2.2.2.2.2.2.2.2.2.2.2 (wr ((wr ((wr ((wr ((wr (y23 + (1 : Int))) + (1 : Int))) + (1 : Int))) + (1 : Int))) + (1 : Int)))) fun y30 => cond (decide (y30 < (0 : Int))) (some (Sum.inr (Sum.inr (-1 : Int)))) (some (Sum.inl (y30, wr (s16.2 + (1 : Int))))))))))))))))) (some (Sum.inr (Sum.inl s16.1)))) (l := l) (k := k) (fun k i L x hx hi hN hk hb hp => by
      have hd : decide ((i : Int) < (L.length : Int)) = true := by simpa using hi
      have hd0 : decide ((0 : Int) ≤ (i : Int)) = true := by simp
      have hw : IntKind.i64.wrap ((i : Int) + 1) = ((i + 1 : Nat) : Int) := by rw [wrap_in (by omega) (by omega)]; omega
      have hl : k + ((lv tPacketInFlight x : Nat) : Int) = k + 1 + 1 + 1 + 1 + 1 + ((lv (.sl tPathPart) x.2.2.2.2.2.1 : Nat) : Int) + 1 + 1 + 1 + 1 + 1 + ((lv (.sl tb) x.2.2.2.2.2.2.2.2.2.2.2 : Nat) : Int) := by simp only [lv] <;> omega
      rw [hl] at hb
      rw [hl]
      have hE : mkT tPacketInFlight x k = (k, k + 1, (k + 1 + 1, k + 1 + 1 + 1, k + 1 + 1 + 1 + 1, mkT (.sl tPathPart) x.2.2.2.2.2.1 (k + 1 + 1 + 1 + 1 + 1), k + 1 + 1 + 1 + 1 + 1 + ((lv (.sl tPathPart) x.2.2.2.2.2.1 : Nat) : Int), k + 1 + 1 + 1 + 1 + 1 + ((lv (.sl tPathPart) x.2.2.2.2.2.1 : Nat) : Int) + 1, k + 1 + 1 + 1 + 1 + 1 + ((lv (.sl tPathPart) x.2.2.2.2.2.1 : Nat) : Int) + 1 + 1, k + 1 + 1 + 1 + 1 + 1 + ((lv (.sl tPathPart) x.2.2.2.2.2.1 : Nat) : Int) + 1 + 1 + 1, k + 1 + 1 + 1 + 1 + 1 + ((lv (.sl tPathPart) x.2.2.2.2.2.1 : Nat) : Int) + 1 + 1 + 1 + 1, mkT (.sl tb) x.2.2.2.2.2.2.2.2.2.2.2 (k + 1 + 1 + 1 + 1 + 1 + ((lv (.sl tPathPart) x.2.2.2.2.2.1 : Nat) : Int) + 1 + 1 + 1 + 1 + 1))) := by first | rfl | (simp [mkT, lv]; try omega)
      have f0 : IntKind.i64.wrap (k + 1) = k + 1 := wrap_in (by omega) (by omega)
      have f1 : IntKind.i64.wrap (k + 1 + 1) = k + 1 + 1 := wrap_in (by omega) (by omega)
      have f2 : IntKind.i64.wrap (k + 1 + 1 + 1) = k + 1 + 1 + 1 := wrap_in (by omega) (by omega)
      have f3 : IntKind.i64.wrap (k + 1 + 1 + 1 + 1) = k + 1 + 1 + 1 + 1 := wrap_in (by omega) (by omega)
      have f4 : IntKind.i64.wrap (k + 1 + 1 + 1 + 1 + 1) = k + 1 + 1 + 1 + 1 + 1 := wrap_in (by omega) (by omega)
      have f5 := held_PathPartS (l := x.2.2.2.2.2.1) (k := k + 1 + 1 + 1 + 1 + 1) hp.2.2.2.2.2.1 (by omega) (by omega)
      have g5 : decide (k + 1 + 1 + 1 + 1 + 1 + ((lv (.sl tPathPart) x.2.2.2.2.2.1 : Nat) : Int) < 0) = false := by simp <;> omega
      have f6 : IntKind.i64.wrap (k + 1 + 1 + 1 + 1 + 1 + ((lv (.sl tPathPart) x.2.2.2.2.2.1 : Nat) : Int) + 1) = k + 1 + 1 + 1 + 1 + 1 + ((lv (.sl tPathPart) x.2.2.2.2.2.1 : Nat) : Int) + 1 := wrap_in (by omega) (by omega)
      have f7 : IntKind.i64.wrap (k + 1 + 1 + 1 + 1 + 1 + ((lv (.sl tPathPart) x.2.2.2.2.2.1 : Nat) : Int) + 1 + 1) = k + 1 + 1 + 1 + 1 + 1 + ((lv (.sl tPathPart) x.2.2.2.2.2.1 : Nat) : Int) + 1 + 1 := wrap_in (by omega) (by omega)
      have f8 : IntKind.i64.wrap (k + 1 + 1 + 1 + 1 + 1 + ((lv (.sl tPathPart) x.2.2.2.2.2.1 : Nat) : Int) + 1 + 1 + 1) = k + 1 + 1 + 1 + 1 + 1 + ((lv (.sl tPathPart) x.2.2.2.2.2.1 : Nat) : Int) + 1 + 1 + 1 := wrap_in (by omega) (by omega)
      have f9 : IntKind.i64.wrap (k + 1 + 1 + 1 + 1 + 1 + ((lv (.sl tPathPart) x.2.2.2.2.2.1 : Nat) : Int) + 1 + 1 + 1 + 1) = k + 1 + 1 + 1 + 1 + 1 + ((lv (.sl tPathPart) x.2.2.2.2.2.1 : Nat) : Int) + 1 + 1 + 1 + 1 := wrap_in (by omega) (by omega)
      have f10 : IntKind.i64.wrap (k + 1 + 1 + 1 + 1 + 1 + ((lv (.sl tPathPart) x.2.2.2.2.2.1 : Nat) : Int) + 1 + 1 + 1 + 1 + 1) = k + 1 + 1 + 1 + 1 + 1 + ((lv (.sl tPathPart) x.2.2.2.2.2.1 : Nat) : Int) + 1 + 1 + 1 + 1 + 1 := wrap_in (by omega) (by omega)
      have f11 := held_ByteS (l := x.2.2.2.2.2.2.2.2.2.2.2) (k := k + 1 + 1 + 1 + 1 + 1 + ((lv (.sl tPathPart) x.2.2.2.2.2.1 : Nat) : Int) + 1 + 1 + 1 + 1 + 1) hp.2.2.2.2.2.2.2.2.2.2.2 (by omega) (by omega)
      have g11 : decide (k + 1 + 1 + 1 + 1 + 1 + ((lv (.sl tPathPart) x.2.2.2.2.2.1 : Nat) : Int) + 1 + 1 + 1 + 1 + 1 + ((lv (.sl tb) x.2.2.2.2.2.2.2.2.2.2.2 : Nat) : Int) < 0) = false := by simp <;> omega
      rw [hE] at hx
      have hi2 : idx L (i : Int) = some (k, k + 1, (k + 1 + 1, k + 1 + 1 + 1, k + 1 + 1 + 1 + 1, mkT (.sl tPathPart) x.2.2.2.2.2.1 (k + 1 + 1 + 1 + 1 + 1), k + 1 + 1 + 1 + 1 + 1 + ((lv (.sl tPathPart) x.2.2.2.2.2.1 : Nat) : Int), k + 1 + 1 + 1 + 1 + 1 + ((lv (.sl tPathPart) x.2.2.2.2.2.1 : Nat) : Int) + 1, k + 1 + 1 + 1 + 1 + 1 + ((lv (.sl tPathPart) x.2.2.2.2.2.1 : Nat) : Int) + 1 + 1, k + 1 + 1 + 1 + 1 + 1 + ((lv (.sl tPathPart) x.2.2.2.2.2.1 : Nat) : Int) + 1 + 1 + 1, k + 1 + 1 + 1 + 1 + 1 + ((lv (.sl tPathPart) x.2.2.2.2.2.1 : Nat) : Int) + 1 + 1 + 1 + 1, mkT (.sl tb) x.2.2.2.2.2.2.2.2.2.2.2 (k + 1 + 1 + 1 + 1 + 1 + ((lv (.sl tPathPart) x.2.2.2.2.2.1 : Nat) : Int) + 1 + 1 + 1 + 1 + 1))) := by rw [idx_nat]; exact hx
      simp only [hd, hw, hi2, cond_true, obind_some, bne_self_eq_false, beq_self_eq_true, Bool.not_true, cond_false, f0, f1, f2, f3, f4, f5, g5, f6, f7, f8, f9, f10, f11, g11]) (fun k L => by simp) h.1 h.2 hk (by rw [hc]; exact hb)
  rw [hc] at this
  show Option.bind (loopM _ (k, (0 : Int))) _ = _
  rw [show (mkT (.sl tPacketInFlight) l k) = markAll (lv tPacketInFlight) (mkT tPacketInFlight) l k from rfl, this]
  rfl

theorem held_MessageS {l : den (.sl tMessage)} {k : Int} (h : SmB 4611686018427387904 (.sl tMessage) l) (hk : 0 ≤ k) (hb : k + ((lv (.sl tMessage) l : Nat) : Int) ≤ 4611686018427387904) : l_heldMessageS (mkT (.sl tMessage) l k) k = some (k + ((lv (.sl tMessage) l : Nat) : Int)) := by
  have hc := cntAll_sum (lv tMessage) l
  have hc : k + ((cntAll (lv tMessage) l : Nat) : Int) = k + ((lv (.sl tMessage) l : Nat) : Int) := by rw [hc]; rfl
  unfold l_heldMessageS
  have := held0 (cE := lv tMessage) (mE := mkT tMessage) (SmB 4611686018427387904 tMessage) (fun (a_a : List (den tMessage)) => fun (s4 : Int × Int) => cond (decide (s4.2 < (a_a.length : Int))) (Option.bind (idx a_a s4.2) fun x5 => Option.bind (l_heldByteS x5 s4.1) fun y6 => cond (decide (y6 < (0 : Int))) (some (Sum.inr (Sum.inr (-1 : Int)))) (some (Sum.inl (y6, wr (s4.2 + (1 : Int)))))) (some (Sum.inr (Sum.inl s4.1)))) (l := l) (k := k) (fun k i L x hx hi hN hk hb hp => by
      have hd : decide ((i : Int) < (L.length : Int)) = true := by simpa using hi
      have hd0 : decide ((0 : Int) ≤ (i : Int)) = true := by simp
      have hw : IntKind.i64.wrap ((i : Int) + 1) = ((i + 1 : Nat) : Int) := by rw [wrap_in (by omega) (by omega)]; omega
      have hl : k + ((lv tMessage x : Nat) : Int) = k + ((lv (.sl tb) x : Nat) : Int) := by simp only [lv] <;> omega
      rw [hl] at hb
      rw [hl]
      have hE : mkT tMessage x k = mkT (.sl tb) x (k) := by first | rfl | (simp [mkT, lv]; try omega)
      have f0 := held_ByteS (l := x) (k := k) hp (by omega) (by omega)
      have g0 : decide (k + ((lv (.sl tb) x : Nat) : Int) < 0) = false := by simp <;> omega
      rw [hE] at hx
      have hi2 : idx L (i : Int) = some (mkT (.sl tb) x (k)) := by rw [idx_nat]; exact hx
      simp only [hd, hw, hi2, cond_true, obind_some, bne_self_eq_false, beq_self_eq_true, Bool.not_true, cond_false, f0, g0]) (fun k L => by simp) h.1 h.2 hk (by rw [hc]; exact hb)
  rw [hc] at this
  show Option.bind (loopM _ (k, (0 : Int))) _ = _
  rw [show (mkT (.sl tMessage) l k) = markAll (lv tMessage) (mkT tMessage) l k from rfl, this]
  rfl

theorem held_PathS {l : den (.sl tPath)} {k : Int} (h : SmB 4611686018427387904 (.sl tPath) l) (hk : 0 ≤ k) (hb : k + ((lv (.sl tPath) l : Nat) : Int) ≤ 4611686018427387904) : l_heldPathS (mkT (.sl tPath) l k) k = some (k + ((lv (.sl tPath) l : Nat) : Int)) := by
  have hc := cntAll_sum (lv tPath) l
  have hc : k + ((cntAll (lv tPath) l : Nat) : Int) = k + ((lv (.sl tPath) l : Nat) : Int) := by rw [hc]; rfl
  unfold l_heldPathS
  have := held0 (cE := lv tPath) (mE := mkT tPath) (SmB 4611686018427387904 tPath) (fun (a_a : List (den tPath)) => fun (s4 : Int × Int) => cond (decide (s4.2 < (a_a.length : Int))) (Option.bind (idx a_a s4.2) fun x5 => Option.bind (l_heldPathPartS x5 s4.1) fun y6 => cond (decide (y6 < (0 : Int))) (some (Sum.inr (Sum.inr (-1 : Int)))) (some (Sum.inl (y6, wr (s4.2 + (1 : Int)))))) (some (Sum.inr (Sum.inl s4.1)))) (l := l) (k := k) (fun k i L x hx hi hN hk hb hp => by
      have hd : decide ((i : Int) < (L.length : Int)) = true := by simpa using hi
      have hd0 : decide ((0 : Int) ≤ (i : Int)) = true := by simp
      have hw : IntKind.i64.wrap ((i : Int) + 1) = ((i + 1 : Nat) : Int) := by rw [wrap_in (by omega) (by omega)]; omega
      have hl : k + ((lv tPath x : Nat) : Int) = k + ((lv (.sl tPathPart) x : Nat) : Int) := by simp only [lv] <;> omega
      rw [hl] at hb
      rw [hl]
      have hE : mkT tPath x k = mkT (.sl tPathPart) x (k) := by first | rfl | (simp [mkT, lv]; try omega)
      have f0 := held_PathPartS (l := x) (k := k) hp (by omega) (by omega)
      have g0 : decide (k + ((lv (.sl tPathPart) x : Nat) : Int) < 0) = false := by simp <;> omega
      rw [hE] at hx
      have hi2 : idx L (i : Int) = some (mkT (.sl tPathPart) x (k)) := by rw [idx_nat]; exact hx
      simp only [hd, hw, hi2, cond_true, obind_some, bne_self_eq_false, beq_self_eq_true, Bool.not_true, cond_false, f0, g0]) (fun k L => by simp) h.1 h.2 hk (by rw [hc]; exact hb)
  rw [hc] at this
  show Option.bind (loopM _ (k, (0 : Int))) _ = _
  rw [show (mkT (.sl tPath) l k) = markAll (lv tPath) (mkT tPath) l k from rfl, this]
  rfl

theorem held_RevocationS {l : den (.sl tRevocation)} {k : Int} (h : SmB 4611686018427387904 (.sl tRevocation) l) (hk : 0 ≤ k) (hb : k + ((lv (.sl tRevocation) l : Nat) : Int) ≤ 4611686018427387904) : l_heldRevocationS (mkT (.sl tRevocation) l k) k = some (k + ((lv (.sl tRevocation) l : Nat) : Int)) := by
  have hc := cntAll_sum (lv tRevocation) l
  have hc : k + ((cntAll (lv tRevocation) l : Nat) : Int) = k + ((lv (.sl tRevocation) l : Nat) : Int) := by rw [hc]; rfl
  unfold l_heldRevocationS
  have := held0 (cE := lv tRevocation) (mE := mkT tRevocation) (SmB 4611686018427387904 tRevocation) (fun (a_a : List (den tRevocation)) => fun (s5 : Int × Int) => cond (decide (s5.2 < (a_a.length : Int))) (Option.bind (idx a_a s5.2) fun x6 => cond (x6.1 != s5.1) (some (Sum.inr (Sum.inr (-1 : Int)))) (Option.bind (idx a_a s5.2) fun x7 => cond (x7.2.1 != (wr (s5.1 + (1 : Int)))) (some (Sum.inr (Sum.inr (-1 : Int)))) (Option.bind (idx a_a s5.2) fun x8 => cond (x8.2.2 != (wr ((wr (s5.1 + (1 : Int))) + (1 : Int)))) (some (Sum.inr (Sum.inr (-1 : Int)))) (some (Sum.inl (wr ((wr ((wr (s5.1 + (1 : Int))) + (1 : Int))) + (1 : Int)), wr (s5.2 + (1 : Int)))))))) (some (Sum.inr (Sum.inl s5.1)))) (l := l) (k := k) (fun k i L x hx hi hN hk hb hp => by
      have hd : decide ((i : Int) < (L.length : Int)) = true := by simpa using hi
      have hd0 : decide ((0 : Int) ≤ (i : Int)) = true := by simp
      have hw : IntKind.i64.wrap ((i : Int) + 1) = ((i + 1 : Nat) : Int) := by rw [wrap_in (by omega) (by omega)]; omega
      have hl : k + ((lv tRevocation x : Nat) : Int) = k + 1 + 1 + 1 := by simp only [lv] <;> omega
      rw [hl] at hb
      rw [hl]
      have hE : mkT tRevocation x k = (k, k + 1, k + 1 + 1) := by first | rfl | (simp [mkT, lv]; try omega)
      have f0 : IntKind.i64.wrap (k + 1) = k + 1 := wrap_in (by omega) (by omega)
      have f1 : IntKind.i64.wrap (k + 1 + 1) = k + 1 + 1 := wrap_in (by omega) (by omega)
      have f2 : IntKind.i64.wrap (k + 1 + 1 + 1) = k + 1 + 1 + 1 := wrap_in (by omega) (by omega)
      rw [hE] at hx
      have hi2 : idx L (i : Int) = some (k, k + 1, k + 1 + 1) := by rw [idx_nat]; exact hx
      simp only [hd, hw, hi2, cond_true, obind_some, bne_self_eq_false, beq_self_eq_true, Bool.not_true, cond_false, f0, f1, f2]) (fun k L => by simp) h.1 h.2 hk (by rw [hc]; exact hb)
  rw [hc] at this
  show Option.bind (loopM _ (k, (0 : Int))) _ = _
  rw [show (mkT (.sl tRevocation) l k) = markAll (lv tRevocation) (mkT tRevocation) l k from rfl, this]
  rfl

theorem held_FlowS {l : den (.sl tFlow)} {k : Int} (h : SmB 4611686018427387904 (.sl tFlow) l) (hk : 0 ≤ k) (hb : k + ((lv (.sl tFlow) l : Nat) : Int) ≤ 4611686018427387904) : l_heldFlowS (mkT (.sl tFlow) l k) k = some (k + ((lv (.sl tFlow) l : Nat) : Int)) := by
  have hc := cntAll_sum (lv tFlow) l
  have hc : k + ((cntAll (lv tFlow) l : Nat) : Int) = k + ((lv (.sl tFlow) l : Nat) : Int) := by rw [hc]; rfl
  unfold l_heldFlowS
  have := held0 (cE := lv tFlow) (mE := mkT tFlow) (SmB 4611686018427387904 tFlow) (fun (a_p0 : List (den tFlow)) => fun (s14 : Int × Int) => cond (decide (s14.2 < (a_p0.length : Int))) (Option.bind (idx a_p0 s14.2) fun x15 => cond (x15.1 != s14.1) (some (Sum.inr (Sum.inr (-1 : Int)))) (Option.bind (idx a_p0 s14.2) fun x16 => cond (x16.2.1 != (wr (s14.1 + (1 : Int)))) (some (Sum.inr (Sum.inr (-1 : Int)))) (Option.bind (idx a_p0 s14.2) fun x17 => cond (x17.2.2.1 != (wr ((wr (s14.1 + (1 : Int))) + (1 : Int)))) (some (Sum.inr (Sum.inr (-1 : Int)))) (Option.bind (idx a_p0 s14.2) fun x18 => cond (x18.2.2.2.1 != (wr ((wr ((wr (s14.1 + (1 : Int))) + (1 : Int))) + (1 : Int)))) (some (Sum.inr (Sum.inr (-1 : Int)))) (Option.bind (idx a_p0 s14.2) fun x19 => Option.bind (l_heldMessageS x19.2.2.2.2.1 (wr ((wr ((wr ((wr (s14.1 + (1 : Int))) + (1 : Int))) + (1 : Int))) + (1 : Int)))) fun y20 => cond (decide (y20 < (0 : Int))) (some (Sum.inr (Sum.inr (-1 : Int)))) (Option.bind (idx a_p0 s14.2) fun x21 => Option.bind (l_heldPathS x21.2.2.2.2.2.1 y20) fun y22 => cond (decide (y22 < (0 : Int))) (some (Sum.inr (Sum.inr (-1 : Int)))) (Option.bind (idx a_p0 s14.2) fun x23 => cond (x23.2.2.2.2.2.2.1 != y22) (some (Sum.inr (Sum.inr (-1 : Int)))) (Option.bind (idx a_p0 s14.2) fun x24 => cond (x24.2.2.2.2.2.2.2.1 != (wr (y22 + (1 : Int)))) (some (Sum.inr (Sum.inr (-1 : Int)))) (Option.bind (idx a_p0 s14.2) fun x25 => Option.bind (l_heldRevocationS x25.2.2.2.2.2.2.2.2 (wr ((wr (y22 + (1 : Int))) + (1 : Int)))) fun y26 => cond (decide (y26 < (0 : Int))) (some (Sum.inr (Sum.inr (-1 : Int)))) (some (Sum.inl (y26, wr (s14.2 + (1 : Int)))))))))))))) (some (Sum.inr (Sum.inl s14.1)))) (l := l) (k := k) (fun k i L x hx hi hN hk hb hp => by
      have hd : decide ((i : Int) < (L.length : Int)) = true := by simpa using hi
      have hd0 : decide ((0 : Int) ≤ (i : Int)) = true := by simp
      have hw : IntKind.i64.wrap ((i : Int) + 1) = ((i + 1 : Nat) : Int) := by rw [wrap_in (by omega) (by omega)]; omega
      have hl : k + ((lv tFlow x : Nat) : Int) = k + 1 + 1 + 1 + 1 + ((lv (.sl tMessage) x.2.2.2.2.1 : Nat) : Int) + ((lv (.sl tPath) x.2.2.2.2.2.1 : Nat) : Int) + 1 + 1 + ((lv (.sl tRevocation) x.2.2.2.2.2.2.2.2 : Nat) : Int) := by simp only [lv] <;> omega
      rw [hl] at hb
      rw [hl]
      have hE : mkT tFlow x k = (k, k + 1, k + 1 + 1, k + 1 + 1 + 1, mkT (.sl tMessage) x.2.2.2.2.1 (k + 1 + 1 + 1 + 1), mkT (.sl tPath) x.2.2.2.2.2.1 (k + 1 + 1 + 1 + 1 + ((lv (.sl tMessage) x.2.2.2.2.1 : Nat) : Int)), k + 1 + 1 + 1 + 1 + ((lv (.sl tMessage) x.2.2.2.2.1 : Nat) : Int) + ((lv (.sl tPath) x.2.2.2.2.2.1 : Nat) : Int), k + 1 + 1 + 1 + 1 + ((lv (.sl tMessage) x.2.2.2.2.1 : Nat) : Int) + ((lv (.sl tPath) x.2.2.2.2.2.1 : Nat) : Int) + 1, mkT (.sl tRevocation) x.2.2.2.2.2.2.2.2 (k + 1 + 1 + 1 + 1 + ((lv (.sl tMessage) x.2.2.2.2.1 : Nat) : Int) + ((lv (.sl tPath) x.2.2.2.2.2.1 : Nat) : Int) + 1 + 1)) := by first | rfl | (simp [mkT, lv]; try omega)
      have f0 : IntKind.i64.wrap (k + 1) = k + 1 := wrap_in (by omega) (by omega)
      have f1 : IntKind.i64.wrap (k + 1 + 1) = k + 1 + 1 := wrap_in (by omega) (by omega)
      have f2 : IntKind.i64.wrap (k + 1 + 1 + 1) = k + 1 + 1 + 1 := wrap_in (by omega) (by omega)
      have f3 : IntKind.i64.wrap (k + 1 + 1 + 1 + 1) = k + 1 + 1 + 1 + 1 := wrap_in (by omega) (by omega)
      have f4 := held_MessageS (l := x.2.2.2.2.1) (k := k + 1 + 1 + 1 + 1) hp.2.2.2.2.1 (by omega) (by omega)
      have g4 : decide (k + 1 + 1 + 1 + 1 + ((lv (.sl tMessage) x.2.2.2.2.1 : Nat) : Int) < 0) = false := by simp <;> omega
      have f5 := held_PathS (l := x.2.2.2.2.2.1) (k := k + 1 + 1 + 1 + 1 + ((lv (.sl tMessage) x.2.2.2.2.1 : Nat) : Int)) hp.2.2.2.2.2.1 (by omega) (by omega)
      have g5 : decide (k + 1 + 1 + 1 + 1 + ((lv (.sl tMessage) x.2.2.2.2.1 : Nat) : Int) + ((lv (.sl tPath) x.2.2.2.2.2.1 : Nat) : Int) < 0) = false := by simp <;> omega
      have f6 : IntKind.i64.wrap (k + 1 + 1 + 1 + 1 + ((lv (.sl tMessage) x.2.2.2.2.1 : Nat) : Int) + ((lv (.sl tPath) x.2.2.2.2.2.1 : Nat) : Int) + 1) = k + 1 + 1 + 1 + 1 + ((lv (.sl tMessage) x.2.2.2.2.1 : Nat) : Int) + ((lv (.sl tPath) x.2.2.2.2.2.1 : Nat) : Int) + 1 := wrap_in (by omega) (by omega)
      have f7 : IntKind.i64.wrap (k + 1 + 1 + 1 + 1 + ((lv (.sl tMessage) x.2.2.2.2.1 : Nat) : Int) + ((lv (.sl tPath) x.2.2.2.2.2.1 : Nat) : Int) + 1 + 1) = k + 1 + 1 + 1 + 1 + ((lv (.sl tMessage) x.2.2.2.2.1 : Nat) : Int) + ((lv (.sl tPath) x.2.2.2.2.2.1 : Nat) : Int) + 1 + 1 := wrap_in (by omega) (by omega)
      have f8 := held_RevocationS (l := x.2.2.2.2.2.2.2.2) (k := k + 1 + 1 + 1 + 1 + ((lv (.sl tMessage) x.2.2.2.2.1 : Nat) : Int) + ((lv (.sl tPath) x.2.2.2.2.2.1 : Nat) : Int) + 1 + 1) hp.2.2.2.2.2.2.2.2 (by omega) (by omega)
      have g8 : decide (k + 1 + 1 + 1 + 1 + ((lv (.sl tMessage) x.2.2.2.2.1 : Nat) : Int) + ((lv (.sl tPath) x.2.2.2.2.2.1 : Nat) : Int) + 1 + 1 + ((lv (.sl tRevocation) x.2.2.2.2.2.2.2.2 : Nat) : Int) < 0) = false := by simp <;> omega
      rw [hE] at hx
      have hi2 : idx L (i : Int) = some (k, k + 1, k + 1 + 1, k + 1 + 1 + 1, mkT (.sl tMessage) x.2.2.2.2.1 (k + 1 + 1 + 1 + 1), mkT (.sl tPath) x.2.2.2.2.2.1 (k + 1 + 1 + 1 + 1 + ((lv (.sl tMessage) x.2.2.2.2.1 : Nat) : Int)), k + 1 + 1 + 1 + 1 + ((lv (.sl tMessage) x.2.2.2.2.1 : Nat) : Int) + ((lv (.sl tPath) x.2.2.2.2.2.1 : Nat) : Int), k + 1 + 1 + 1 + 1 + ((lv (.sl tMessage) x.2.2.2.2.1 : Nat) : Int) + ((lv (.sl tPath) x.2.2.2.2.2.1 : Nat) : Int) + 1, mkT (.sl tRevocation) x.2.2.2.2.2.2.2.2 (k + 1 + 1 + 1 + 1 + ((lv (.sl tMessage) x.2.2.2.2.1 : Nat) : Int) + ((lv (.sl tPath) x.2.2.2.2.2.1 : Nat) : Int) + 1 + 1)) := by rw [idx_nat]; exact hx
      simp only [hd, hw, hi2, cond_true, obind_some, bne_self_eq_false, beq_self_eq_true, Bool.not_true, cond_false, f0, f1, f2, f3, f4, g4, f5, g5, f6, f7, f8, g8]) (fun k L => by simp) h.1 h.2 hk (by rw [hc]; exact hb)
  rw [hc] at this
  show Option.bind (loopM _ (k, (0 : Int))) _ = _
  rw [show (mkT (.sl tFlow) l k) = markAll (lv tFlow) (mkT tFlow) l k from rfl, this]
  rfl

theorem held_InboxS {l : den (.sl tInbox)} {k : Int} (h : SmB 4611686018427387904 (.sl tInbox) l) (hk : 0 ≤ k) (hb : k + ((lv (.sl tInbox) l : Nat) : Int) ≤ 4611686018427387904) : l_heldInboxS (mkT (.sl tInbox) l k) k = some (k + ((lv (.sl tInbox) l : Nat) : Int)) := by
  have hc := cntAll_sum (lv tInbox) l
  have hc : k + ((cntAll (lv tInbox) l : Nat) : Int) = k + ((lv (.sl tInbox) l : Nat) : Int) := by rw [hc]; rfl
  unfold l_heldInboxS
  have := held0 (cE := lv tInbox) (mE := mkT tInbox) (SmB 4611686018427387904 tInbox) (fun (a_a : List (den tInbox)) => fun (s7 : Int × Int) => cond (decide (s7.2 < (a_a.length : Int))) (Option.bind (idx a_a s7.2) fun x8 => cond (x8.1 != s7.1) (some (Sum.inr (Sum.inr (-1 : Int)))) (Option.bind (idx a_a s7.2) fun x9 => cond (x9.2.1 != (wr (s7.1 + (1 : Int)))) (some (Sum.inr (Sum.inr (-1 : Int)))) (Option.bind (idx a_a s7.2) fun x10 => cond (x10.2.2.1 != (wr ((wr (s7.1 + (1 : Int))) + (1 : Int)))) (some (Sum.inr (Sum.inr (-1 : Int)))) (Option.bind (idx a_a s7.2) fun x11 => Option.bind (l_heldMessageS x11.2.2.2 (wr ((wr ((wr (s7.1 + (1 : Int))) + (1 : Int))) + (1 : Int)))) fun y12 => cond (decide (y12 < (0 : Int))) (some (Sum.inr (Sum.inr (-1 : Int)))) (some (Sum.inl (y12, wr (s7.2 + (1 : Int))))))))) (some (Sum.inr (Sum.inl s7.1)))) (l := l) (k := k) (fun k i L x hx hi hN hk hb hp => by
      have hd : decide ((i : Int) < (L.length : Int)) = true := by simpa using hi
      have hd0 : decide ((0 : Int) ≤ (i : Int)) = true := by simp
      have hw : IntKind.i64.wrap ((i : Int) + 1) = ((i + 1 : Nat) : Int) := by rw [wrap_in (by omega) (by omega)]; omega
      have hl : k + ((lv tInbox x : Nat) : Int) = k + 1 + 1 + 1 + ((lv (.sl tMessage) x.2.2.2 : Nat) : Int) := by simp only [lv] <;> omega
      rw [hl] at hb
      rw [hl]
      have hE : mkT tInbox x k = (k, k + 1, k + 1 + 1, mkT (.sl tMessage) x.2.2.2 (k + 1 + 1 + 1)) := by first | rfl | (simp [mkT, lv]; try omega)
      have f0 : IntKind.i64.wrap (k + 1) = k + 1 := wrap_in (by omega) (by omega)
      have f1 : IntKind.i64.wrap (k + 1 + 1) = k + 1 + 1 := wrap_in (by omega) (by omega)
      have f2 : IntKind.i64.wrap (k + 1 + 1 + 1) = k + 1 + 1 + 1 := wrap_in (by omega) (by omega)
      have f3 := held_MessageS (l := x.2.2.2) (k := k + 1 + 1 + 1) hp.2.2.2 (by omega) (by omega)
      have g3 : decide (k + 1 + 1 + 1 + ((lv (.sl tMessage) x.2.2.2 : Nat) : Int) < 0) = false := by simp <;> omega
      rw [hE] at hx
      have hi2 : idx L (i : Int) = some (k, k + 1, k + 1 + 1, mkT (.sl tMessage) x.2.2.2 (k + 1 + 1 + 1)) := by rw [idx_nat]; exact hx
      simp only [hd, hw, hi2, cond_true, obind_some, bne_self_eq_false, beq_self_eq_true, Bool.not_true, cond_false, f0, f1, f2, f3, g3]) (fun k L => by simp) h.1 h.2 hk (by rw [hc]; exact hb)
  rw [hc] at this
  show Option.bind (loopM _ (k, (0 : Int))) _ = _
  rw [show (mkT (.sl tInbox) l k) = markAll (lv tInbox) (mkT tInbox) l k from rfl, this]
  rfl

theorem held_Network {x : den tNetwork} {k : Int} (h : SmB 4611686018427387904 tNetwork x) (hk : 0 ≤ k) (hb : k + ((lv (.sl tAS) x.1.1 : Nat) : Int) + ((lv (.sl tLink) x.1.2 : Nat) : Int) + ((lv (.sl tSegment) x.2.1.1 : Nat) : Int) + ((lv (.sl tSegment) x.2.1.2 : Nat) : Int) + ((lv (.sl tReservation) x.2.2.1.2.1 : Nat) : Int) + ((lv (.sl tUsage) x.2.2.1.2.2 : Nat) : Int) + ((lv (.sl ti) x.2.2.2.2.1 : Nat) : Int) + ((lv (.sl tPacketInFlight) x.2.2.2.2.2.1 : Nat) : Int) + ((lv (.sl tFlow) x.2.2.2.2.2.2.1 : Nat) : Int) + ((lv (.sl tInbox) x.2.2.2.2.2.2.2.1 : Nat) : Int) ≤ 4611686018427387904) : l_heldNetwork ((mkT (.sl tAS) x.1.1 (k), mkT (.sl tLink) x.1.2 (k + ((lv (.sl tAS) x.1.1 : Nat) : Int))), (mkT (.sl tSegment) x.2.1.1 (k + ((lv (.sl tAS) x.1.1 : Nat) : Int) + ((lv (.sl tLink) x.1.2 : Nat) : Int)), mkT (.sl tSegment) x.2.1.2 (k + ((lv (.sl tAS) x.1.1 : Nat) : Int) + ((lv (.sl tLink) x.1.2 : Nat) : Int) + ((lv (.sl tSegment) x.2.1.1 : Nat) : Int))), (x.2.2.1.1, mkT (.sl tReservation) x.2.2.1.2.1 (k + ((lv (.sl tAS) x.1.1 : Nat) : Int) + ((lv (.sl tLink) x.1.2 : Nat) : Int) + ((lv (.sl tSegment) x.2.1.1 : Nat) : Int) + ((lv (.sl tSegment) x.2.1.2 : Nat) : Int)), mkT (.sl tUsage) x.2.2.1.2.2 (k + ((lv (.sl tAS) x.1.1 : Nat) : Int) + ((lv (.sl tLink) x.1.2 : Nat) : Int) + ((lv (.sl tSegment) x.2.1.1 : Nat) : Int) + ((lv (.sl tSegment) x.2.1.2 : Nat) : Int) + ((lv (.sl tReservation) x.2.2.1.2.1 : Nat) : Int))), x.2.2.2.1, mkT (.sl ti) x.2.2.2.2.1 (k + ((lv (.sl tAS) x.1.1 : Nat) : Int) + ((lv (.sl tLink) x.1.2 : Nat) : Int) + ((lv (.sl tSegment) x.2.1.1 : Nat) : Int) + ((lv (.sl tSegment) x.2.1.2 : Nat) : Int) + ((lv (.sl tReservation) x.2.2.1.2.1 : Nat) : Int) + ((lv (.sl tUsage) x.2.2.1.2.2 : Nat) : Int)), mkT (.sl tPacketInFlight) x.2.2.2.2.2.1 (k + ((lv (.sl tAS) x.1.1 : Nat) : Int) + ((lv (.sl tLink) x.1.2 : Nat) : Int) + ((lv (.sl tSegment) x.2.1.1 : Nat) : Int) + ((lv (.sl tSegment) x.2.1.2 : Nat) : Int) + ((lv (.sl tReservation) x.2.2.1.2.1 : Nat) : Int) + ((lv (.sl tUsage) x.2.2.1.2.2 : Nat) : Int) + ((lv (.sl ti) x.2.2.2.2.1 : Nat) : Int)), mkT (.sl tFlow) x.2.2.2.2.2.2.1 (k + ((lv (.sl tAS) x.1.1 : Nat) : Int) + ((lv (.sl tLink) x.1.2 : Nat) : Int) + ((lv (.sl tSegment) x.2.1.1 : Nat) : Int) + ((lv (.sl tSegment) x.2.1.2 : Nat) : Int) + ((lv (.sl tReservation) x.2.2.1.2.1 : Nat) : Int) + ((lv (.sl tUsage) x.2.2.1.2.2 : Nat) : Int) + ((lv (.sl ti) x.2.2.2.2.1 : Nat) : Int) + ((lv (.sl tPacketInFlight) x.2.2.2.2.2.1 : Nat) : Int)), mkT (.sl tInbox) x.2.2.2.2.2.2.2.1 (k + ((lv (.sl tAS) x.1.1 : Nat) : Int) + ((lv (.sl tLink) x.1.2 : Nat) : Int) + ((lv (.sl tSegment) x.2.1.1 : Nat) : Int) + ((lv (.sl tSegment) x.2.1.2 : Nat) : Int) + ((lv (.sl tReservation) x.2.2.1.2.1 : Nat) : Int) + ((lv (.sl tUsage) x.2.2.1.2.2 : Nat) : Int) + ((lv (.sl ti) x.2.2.2.2.1 : Nat) : Int) + ((lv (.sl tPacketInFlight) x.2.2.2.2.2.1 : Nat) : Int) + ((lv (.sl tFlow) x.2.2.2.2.2.2.1 : Nat) : Int)), x.2.2.2.2.2.2.2.2) k = some (k + ((lv (.sl tAS) x.1.1 : Nat) : Int) + ((lv (.sl tLink) x.1.2 : Nat) : Int) + ((lv (.sl tSegment) x.2.1.1 : Nat) : Int) + ((lv (.sl tSegment) x.2.1.2 : Nat) : Int) + ((lv (.sl tReservation) x.2.2.1.2.1 : Nat) : Int) + ((lv (.sl tUsage) x.2.2.1.2.2 : Nat) : Int) + ((lv (.sl ti) x.2.2.2.2.1 : Nat) : Int) + ((lv (.sl tPacketInFlight) x.2.2.2.2.2.1 : Nat) : Int) + ((lv (.sl tFlow) x.2.2.2.2.2.2.1 : Nat) : Int) + ((lv (.sl tInbox) x.2.2.2.2.2.2.2.1 : Nat) : Int)) := by
  have q0 := held_Topology (x := x.1) (k := k) h.1 (by omega) (by omega)
  have q1 := held_SegmentDatabase (x := x.2.1) (k := k + ((lv (.sl tAS) x.1.1 : Nat) : Int) + ((lv (.sl tLink) x.1.2 : Nat) : Int)) h.2.1 (by omega) (by omega)
  have q2 := held_Scheduler (x := x.2.2.1) (k := k + ((lv (.sl tAS) x.1.1 : Nat) : Int) + ((lv (.sl tLink) x.1.2 : Nat) : Int) + ((lv (.sl tSegment) x.2.1.1 : Nat) : Int) + ((lv (.sl tSegment) x.2.1.2 : Nat) : Int)) h.2.2.1 (by omega) (by omega)
  have q3 := held_IntS (l := x.2.2.2.2.1) (k := k + ((lv (.sl tAS) x.1.1 : Nat) : Int) + ((lv (.sl tLink) x.1.2 : Nat) : Int) + ((lv (.sl tSegment) x.2.1.1 : Nat) : Int) + ((lv (.sl tSegment) x.2.1.2 : Nat) : Int) + ((lv (.sl tReservation) x.2.2.1.2.1 : Nat) : Int) + ((lv (.sl tUsage) x.2.2.1.2.2 : Nat) : Int)) h.2.2.2.2.1 (by omega) (by omega)
  have q4 := held_PacketInFlightS (l := x.2.2.2.2.2.1) (k := k + ((lv (.sl tAS) x.1.1 : Nat) : Int) + ((lv (.sl tLink) x.1.2 : Nat) : Int) + ((lv (.sl tSegment) x.2.1.1 : Nat) : Int) + ((lv (.sl tSegment) x.2.1.2 : Nat) : Int) + ((lv (.sl tReservation) x.2.2.1.2.1 : Nat) : Int) + ((lv (.sl tUsage) x.2.2.1.2.2 : Nat) : Int) + ((lv (.sl ti) x.2.2.2.2.1 : Nat) : Int)) h.2.2.2.2.2.1 (by omega) (by omega)
  have q5 := held_FlowS (l := x.2.2.2.2.2.2.1) (k := k + ((lv (.sl tAS) x.1.1 : Nat) : Int) + ((lv (.sl tLink) x.1.2 : Nat) : Int) + ((lv (.sl tSegment) x.2.1.1 : Nat) : Int) + ((lv (.sl tSegment) x.2.1.2 : Nat) : Int) + ((lv (.sl tReservation) x.2.2.1.2.1 : Nat) : Int) + ((lv (.sl tUsage) x.2.2.1.2.2 : Nat) : Int) + ((lv (.sl ti) x.2.2.2.2.1 : Nat) : Int) + ((lv (.sl tPacketInFlight) x.2.2.2.2.2.1 : Nat) : Int)) h.2.2.2.2.2.2.1 (by omega) (by omega)
  have q6 := held_InboxS (l := x.2.2.2.2.2.2.2.1) (k := k + ((lv (.sl tAS) x.1.1 : Nat) : Int) + ((lv (.sl tLink) x.1.2 : Nat) : Int) + ((lv (.sl tSegment) x.2.1.1 : Nat) : Int) + ((lv (.sl tSegment) x.2.1.2 : Nat) : Int) + ((lv (.sl tReservation) x.2.2.1.2.1 : Nat) : Int) + ((lv (.sl tUsage) x.2.2.1.2.2 : Nat) : Int) + ((lv (.sl ti) x.2.2.2.2.1 : Nat) : Int) + ((lv (.sl tPacketInFlight) x.2.2.2.2.2.1 : Nat) : Int) + ((lv (.sl tFlow) x.2.2.2.2.2.2.1 : Nat) : Int)) h.2.2.2.2.2.2.2.1 (by omega) (by omega)
  have d0 : decide (k + ((lv (.sl tAS) x.1.1 : Nat) : Int) + ((lv (.sl tLink) x.1.2 : Nat) : Int) < 0) = false := by simp <;> omega
  have d1 : decide (k + ((lv (.sl tAS) x.1.1 : Nat) : Int) + ((lv (.sl tLink) x.1.2 : Nat) : Int) + ((lv (.sl tSegment) x.2.1.1 : Nat) : Int) + ((lv (.sl tSegment) x.2.1.2 : Nat) : Int) < 0) = false := by simp <;> omega
  have d2 : decide (k + ((lv (.sl tAS) x.1.1 : Nat) : Int) + ((lv (.sl tLink) x.1.2 : Nat) : Int) + ((lv (.sl tSegment) x.2.1.1 : Nat) : Int) + ((lv (.sl tSegment) x.2.1.2 : Nat) : Int) + ((lv (.sl tReservation) x.2.2.1.2.1 : Nat) : Int) + ((lv (.sl tUsage) x.2.2.1.2.2 : Nat) : Int) < 0) = false := by simp <;> omega
  have d3 : decide (k + ((lv (.sl tAS) x.1.1 : Nat) : Int) + ((lv (.sl tLink) x.1.2 : Nat) : Int) + ((lv (.sl tSegment) x.2.1.1 : Nat) : Int) + ((lv (.sl tSegment) x.2.1.2 : Nat) : Int) + ((lv (.sl tReservation) x.2.2.1.2.1 : Nat) : Int) + ((lv (.sl tUsage) x.2.2.1.2.2 : Nat) : Int) + ((lv (.sl ti) x.2.2.2.2.1 : Nat) : Int) < 0) = false := by simp <;> omega
  have d4 : decide (k + ((lv (.sl tAS) x.1.1 : Nat) : Int) + ((lv (.sl tLink) x.1.2 : Nat) : Int) + ((lv (.sl tSegment) x.2.1.1 : Nat) : Int) + ((lv (.sl tSegment) x.2.1.2 : Nat) : Int) + ((lv (.sl tReservation) x.2.2.1.2.1 : Nat) : Int) + ((lv (.sl tUsage) x.2.2.1.2.2 : Nat) : Int) + ((lv (.sl ti) x.2.2.2.2.1 : Nat) : Int) + ((lv (.sl tPacketInFlight) x.2.2.2.2.2.1 : Nat) : Int) < 0) = false := by simp <;> omega
  have d5 : decide (k + ((lv (.sl tAS) x.1.1 : Nat) : Int) + ((lv (.sl tLink) x.1.2 : Nat) : Int) + ((lv (.sl tSegment) x.2.1.1 : Nat) : Int) + ((lv (.sl tSegment) x.2.1.2 : Nat) : Int) + ((lv (.sl tReservation) x.2.2.1.2.1 : Nat) : Int) + ((lv (.sl tUsage) x.2.2.1.2.2 : Nat) : Int) + ((lv (.sl ti) x.2.2.2.2.1 : Nat) : Int) + ((lv (.sl tPacketInFlight) x.2.2.2.2.2.1 : Nat) : Int) + ((lv (.sl tFlow) x.2.2.2.2.2.2.1 : Nat) : Int) < 0) = false := by simp <;> omega
  have d6 : decide (k + ((lv (.sl tAS) x.1.1 : Nat) : Int) + ((lv (.sl tLink) x.1.2 : Nat) : Int) + ((lv (.sl tSegment) x.2.1.1 : Nat) : Int) + ((lv (.sl tSegment) x.2.1.2 : Nat) : Int) + ((lv (.sl tReservation) x.2.2.1.2.1 : Nat) : Int) + ((lv (.sl tUsage) x.2.2.1.2.2 : Nat) : Int) + ((lv (.sl ti) x.2.2.2.2.1 : Nat) : Int) + ((lv (.sl tPacketInFlight) x.2.2.2.2.2.1 : Nat) : Int) + ((lv (.sl tFlow) x.2.2.2.2.2.2.1 : Nat) : Int) + ((lv (.sl tInbox) x.2.2.2.2.2.2.2.1 : Nat) : Int) < 0) = false := by simp <;> omega
  unfold l_heldNetwork
  simp only [q0, q1, q2, q3, q4, q5, q6, d0, d1, d2, d3, d4, d5, d6, obind_some, peta, cond_false]

def inR (n a b : Int) : Bool := decide (a ≤ n) && decide (n ≤ b)

theorem i_in (n a b : Int) : i_InRange n a b = some (inR n a b) := by
  unfold i_InRange inR
  by_cases h : a ≤ n <;> simp [h]

theorem s_in (n a b : Int) : s_l1In n a b = some (inR n a b) := by
  unfold s_l1In inR
  by_cases h : a ≤ n <;> simp [h]

theorem inR_iff {n a b : Int} : inR n a b = true ↔ a ≤ n ∧ n ≤ b := by simp [inR]

theorem i_copyH {l : List (den tHop)} (h : l.length ≤ 68719476736) : i_copyHops l = some l := by
  unfold i_copyHops
  rw [apOk_le (by decide) (by simpa using h)]; simp

/-- A loop that answers false at the first that fails. -/
theorem scanB {α S : Type} (p : Nat → α → Bool) : ∀ (l : List α) (k : Nat) (ρ : S), scanI (fun k x => if p k x then none else some ρ) k l = if (l.zipIdx k).all (fun x => p x.2 x.1) then none else some ρ
  | [], _, _ => rfl
  | x :: xs, k, ρ => by
    simp only [scanI, List.zipIdx_cons, List.all_cons]
    rcases Bool.eq_false_or_eq_true (p k x) with h | h
    · simp only [h, if_true, Bool.true_and]; exact scanB p xs (k + 1) ρ
    · simp [h]

theorem zip_all {α : Type} (p : α → Bool) : ∀ (l : List α) (k : Nat), (l.zipIdx k).all (fun x => p x.1) = l.all p
  | [], _ => rfl
  | x :: xs, k => by simp [List.zipIdx_cons, zip_all p xs]

theorem scanA {α S : Type} (p : α → Bool) (l : List α) (ρ : S) : scanI (fun _ x => if p x then none else some ρ) 0 l = if l.all p then none else some ρ := by
  rw [scanB (fun _ x => p x), zip_all p]

theorem wr_less {n : Nat} (h : n ≤ 68719476736) : wr ((n : Int) - 1) = (n : Int) - 1 := wrap_in (by omega) (by omega)

def asOk (t : den tTopology) (r : Int) : Bool := inR r 0 ((t.1.length : Int) - 1)

theorem i_asOk {t : den tTopology} {r : Int} (h : t.1.length ≤ 68719476736) : i_isAS t r = some (asOk t r) := by
  unfold i_isAS asOk
  rw [wr_less h, i_in]; rfl

theorem s_asOk {t : den tTopology} {r : Int} (h : t.1.length ≤ 68719476736) : s_l5Realm t r = some (asOk t r) := by
  unfold s_l5Realm asOk
  rw [wr_less h, s_in]; rfl

theorem i_key (n : Int) : i_ValidKey n = some (inR n 1 2147483646) := by unfold i_ValidKey; rw [i_in]; rfl

theorem s_key (n : Int) : s_ValidKey n = some (inR n 1 2147483646) := by unfold s_ValidKey; rw [s_in]; rfl

def endsL (l : den tLink) (r d : Int) : Bool := (l.1 == r && l.2.1 == d) || (l.2.2.1 == r && l.2.2.2.1 == d)

theorem i_endsL (l : den tLink) (r d : Int) : i_usesInterface l r d = some (endsL l r d) := by
  unfold i_usesInterface endsL
  cases l.1 == r <;> cases l.2.1 == d <;> cases l.2.2.1 == r <;> cases l.2.2.2.1 == d <;> rfl

theorem s_endsL (l : den tLink) (r d : Int) : s_l5Ends l r d = some (endsL l r d) := by
  unfold s_l5Ends endsL
  cases l.1 == r <;> cases l.2.1 == d <;> cases l.2.2.1 == r <;> cases l.2.2.2.1 == d <;> rfl

def kindOk2 (k : Int) (x y : den tAS) : Bool := cond (k == 1) (x.2.1 && y.2.1) (cond (k == 2) (x.1 == y.1 && !y.2.1) (cond (k == 3) (!x.2.1 && !y.2.1) false))

def linkV (t : den tTopology) (l : den tLink) : Bool :=
  asOk t l.1 && (asOk t l.2.2.1 && (!decide (l.1 ≥ l.2.2.1) && (inR l.2.1 1 6 && (inR l.2.2.2.1 1 6 && kindOk2 l.2.2.2.2 ((t.1[l.1.toNat]?).getD (0, false, 0)) ((t.1[l.2.2.1.toNat]?).getD (0, false, 0))))))

theorem as_at {t : den tTopology} {r : Int} (h : asOk t r = true) : ∃ x, t.1[r.toNat]? = some x ∧ idx t.1 r = some x := by
  obtain ⟨h0, h1⟩ := inR_iff.1 h
  obtain ⟨x, hx⟩ := get_some h0 h1
  exact ⟨x, hx, idx_of h0 hx⟩

theorem i_linkV {t : den tTopology} {l : den tLink} (h : t.1.length ≤ 68719476736) : i_linkOk t l = some (linkV t l) := by
  unfold i_linkOk linkV
  simp only [peta, i_asOk h, i_in, obind_some]
  cases c1 : asOk t l.1
  · rfl
  · cases c2 : asOk t l.2.2.1
    · rfl
    · obtain ⟨x, hx, ix⟩ := as_at c1
      obtain ⟨y, hy, iy⟩ := as_at c2
      rw [ix, iy, hx, hy]
      simp only [both_self, obind_some, Option.getD_some, Bool.not_true, cond_false, Bool.true_and]
      unfold kindOk2
      cases decide (l.1 ≥ l.2.2.1)
      · cases inR l.2.1 1 6
        · rfl
        · cases inR l.2.2.2.1 1 6
          · rfl
          · cases l.2.2.2.2 == 1
            · cases l.2.2.2.2 == 2
              · cases l.2.2.2.2 == 3
                · rfl
                · cases x.2.1 <;> rfl
              · cases x.1 == y.1 <;> rfl
            · cases x.2.1 <;> rfl
      · rfl

theorem s_linkV {t : den tTopology} {l : den tLink} (h : t.1.length ≤ 68719476736) : s_l5LinkOk t l = some (linkV t l) := by
  unfold s_l5LinkOk linkV
  simp only [peta, s_asOk h, s_in, obind_some]
  cases c1 : asOk t l.1
  · rfl
  · cases c2 : asOk t l.2.2.1
    · rfl
    · obtain ⟨x, hx, ix⟩ := as_at c1
      obtain ⟨y, hy, iy⟩ := as_at c2
      rw [ix, iy, hx, hy]
      simp only [obind_some, Option.getD_some, Bool.not_true, cond_false, Bool.true_and]
      unfold kindOk2
      cases decide (l.1 ≥ l.2.2.1)
      · cases inR l.2.1 1 6
        · rfl
        · cases inR l.2.2.2.1 1 6
          · rfl
          · cases l.2.2.2.2 == 1
            · cases l.2.2.2.2 == 2
              · cases l.2.2.2.2 == 3
                · rfl
                · cases x.2.1 <;> rfl
              · cases x.1 == y.1 <;> rfl
            · cases x.2.1 <;> rfl
      · rfl

def asP (t : den tTopology) (k : Nat) (x : den tAS) : Bool := inR x.1 0 2 && (inR x.2.2 1 2147483646 && (t.1.take k).all fun y => !(x.2.2 == y.2.2))

def lkP (t : den tTopology) (k : Nat) (x : den tLink) : Bool := linkV t x && (t.2.take k).all fun y => !(endsL y x.1 x.2.1 || endsL y x.2.2.1 x.2.2.2.1)

def topV (t : den tTopology) : Bool := inR (t.1.length : Int) 1 8 && ((t.1.zipIdx 0).all (fun z => asP t z.2 z.1) && (t.2.zipIdx 0).all fun z => lkP t z.2 z.1)

theorem slOk_take {k n : Nat} (h : k < n) : slOk (0 : Int) (k : Int) (n : Int) = true := by
  have := slOk_nat (a := 0) (b := k) (n := n)
  rw [show ((0 : Nat) : Int) = 0 from rfl] at this
  rw [this]; simp; omega

theorem idx_take {α : Type} {l : List α} {k j : Nat} {x : α} (h : idx (l.take k) (j : Int) = some x) : idx l (j : Int) = some x := by
  rw [idx_nat] at h ⊢
  exact (get_take h).1

theorem len_take {α : Type} {l : List α} {k : Nat} (h : k < l.length) : (l.take k).length = k := by simp; omega

theorem i_topV {t : den tTopology} (h : SmB 68719476736 tTopology t) : i_ValidTopology t = some (topV t) := by
  have l1 := h.1.1
  have l2 := h.2.1
  unfold i_ValidTopology topV
  rw [loop_scan (l := t.1) (fun k x => if asP t k x then none else some false) (Nat.le_trans l1 (by decide)) (fun k x hi hd hw hm hk => by
    simp only [hd, hi, cond_true, obind_some, i_in, i_key, slOk_take hk, cut_take, hw]
    rw [loop_scan (l := t.1.take k) (fun _ y => if !(x.2.2 == y.2.2) then none else some (Sum.inr (Sum.inr false))) (by rw [len_take hk]; omega) (fun j y hi hd hw hm hk => by
      simp only [hd, hi, hw, cond_true, obind_some]
      cases x.2.2 == y.2.2 <;> rfl) (by simp), scanA (fun y : den tAS => !(x.2.2 == y.2.2))]
    unfold asP
    cases inR x.1 0 2 <;> cases inR x.2.2 1 2147483646 <;> cases (t.1.take k).all (fun y => !(x.2.2 == y.2.2)) <;> rfl) (by simp), scanB (asP t)]
  rw [loop_scan (l := t.2) (fun k x => if lkP t k x then none else some false) (Nat.le_trans l2 (by decide)) (fun k x hi hd hw hm hk => by
    simp only [hd, hi, cond_true, obind_some, peta, i_linkV l1, slOk_take hk, cut_take, hw]
    rw [loop_scan (l := t.2.take k) (fun _ y => if !(endsL y x.1 x.2.1 || endsL y x.2.2.1 x.2.2.2.1) then none else some (Sum.inr (Sum.inr false))) (by rw [len_take hk]; omega) (fun j y hi hd hw hm hk => by
      simp only [hd, hi, hw, cond_true, obind_some, peta, i_endsL]
      cases endsL y x.1 x.2.1 <;> cases endsL y x.2.2.1 x.2.2.2.1 <;> rfl) (by simp), scanA (fun y : den tLink => !(endsL y x.1 x.2.1 || endsL y x.2.2.1 x.2.2.2.1))]
    unfold lkP
    cases linkV t x <;> cases (t.2.take k).all (fun y => !(endsL y x.1 x.2.1 || endsL y x.2.2.1 x.2.2.2.1)) <;> rfl) (by simp), scanB (lkP t)]
  rw [i_in, obind_some]
  cases inR (t.1.length : Int) 1 8 <;> cases (t.1.zipIdx 0).all (fun z => asP t z.2 z.1) <;> cases (t.2.zipIdx 0).all (fun z => lkP t z.2 z.1) <;> rfl

theorem beq_flip (a b : Int) : (a == b) = (b == a) := by rw [Bool.eq_iff_iff]; simp; exact eq_comm

theorem s_topV {t : den tTopology} (h : SmB 68719476736 tTopology t) : s_ValidTopology t = some (topV t) := by
  have l1 := h.1.1
  have l2 := h.2.1
  unfold s_ValidTopology topV
  rw [loop_scan (l := t.1) (fun k x => if asP t k x then none else some false) (Nat.le_trans l1 (by decide)) (fun k x hi hd hw hm hk => by
    simp only [hd, hi, cond_true, obind_some, s_in, s_key, hw]
    rw [loop_scan (l := t.1.take k) (fun _ y => if !(x.2.2 == y.2.2) then none else some (Sum.inr (Sum.inr false))) (by rw [len_take hk]; omega) (fun j y hi2 hd hw hm hk2 => by
      rw [len_take hk] at hd
      simp only [hd, idx_take hi2, hi, hw, cond_true, obind_some, beq_flip y.2.2 x.2.2]
      cases x.2.2 == y.2.2 <;> rfl) (by rw [len_take hk]; simp), scanA (fun y : den tAS => !(x.2.2 == y.2.2))]
    unfold asP
    cases inR x.1 0 2 <;> cases inR x.2.2 1 2147483646 <;> cases (t.1.take k).all (fun y => !(x.2.2 == y.2.2)) <;> rfl) (by simp), scanB (asP t)]
  rw [loop_scan (l := t.2) (fun k x => if lkP t k x then none else some false) (Nat.le_trans l2 (by decide)) (fun k x hi hd hw hm hk => by
    simp only [hd, hi, cond_true, obind_some, peta, s_linkV l1, hw]
    rw [loop_scan (l := t.2.take k) (fun _ y => if !(endsL y x.1 x.2.1 || endsL y x.2.2.1 x.2.2.2.1) then none else some (Sum.inr (Sum.inr false))) (by rw [len_take hk]; omega) (fun j y hi2 hd hw hm hk2 => by
      rw [len_take hk] at hd
      simp only [hd, idx_take hi2, hi, hw, cond_true, obind_some, peta, s_endsL]
      cases endsL y x.1 x.2.1 <;> cases endsL y x.2.2.1 x.2.2.2.1 <;> rfl) (by rw [len_take hk]; simp), scanA (fun y : den tLink => !(endsL y x.1 x.2.1 || endsL y x.2.2.1 x.2.2.2.1))]
    unfold lkP
    cases linkV t x <;> cases (t.2.take k).all (fun y => !(endsL y x.1 x.2.1 || endsL y x.2.2.1 x.2.2.2.1)) <;> rfl) (by simp), scanB (lkP t)]
  rw [s_in, obind_some]
  cases inR (t.1.length : Int) 1 8 <;> cases (t.1.zipIdx 0).all (fun z => asP t z.2 z.1) <;> cases (t.2.zipIdx 0).all (fun z => lkP t z.2 z.1) <;> rfl

theorem i_copyT {t : den tTopology} (h : SmB 68719476736 tTopology t) : i_copyTopology t = some t := by
  unfold i_copyTopology
  simp only [apOk_le (b := 24) (n := ([] : List (den tAS)).length) (m := t.1.length) (by decide) (by simpa using h.1.1), apOk_le (b := 40) (n := ([] : List (den tLink)).length) (m := t.2.length) (by decide) (by simpa using h.2.1), cond_true, both_self, obind_some, List.nil_append, peta]

theorem s_copyT {t : den tTopology} (h : SmB 68719476736 tTopology t) : s_l37Topo t = some t := by
  unfold s_l37Topo
  simp only [apOk_le (b := 24) (n := ([] : List (den tAS)).length) (m := t.1.length) (by decide) (by simpa using h.1.1), apOk_le (b := 40) (n := ([] : List (den tLink)).length) (m := t.2.length) (by decide) (by simpa using h.2.1), cond_true, both_self, obind_some, List.nil_append, peta]

theorem i_copyG {x : den tSegment} (h : x.2.2.length ≤ 68719476736) : i_copySegment x = some x := by
  unfold i_copySegment
  rw [i_copyH h]
  rfl

theorem s_copyG {x : den tSegment} (h : x.2.2.length ≤ 68719476736) : s_l9Copy x = some x := by
  unfold s_l9Copy
  rw [apOk_le (b := 40) (n := ([] : List (den tHop)).length) (by decide) (by simpa using h)]
  rfl

theorem i_copyGs {l : List (den tSegment)} (h : SmB 68719476736 (.sl tSegment) l) : i_copySegments l = some l := by
  unfold i_copySegments
  rw [(loopF (fun k (a : List (den tSegment)) => ((k : Int), a)) ((0 : Int), []) [] l (fun _ x a => a ++ [x]) List.length (fun _ => 1) 68719476736 id rfl (Nat.le_trans h.1 (by decide)) (by rw [sum_one]; simpa using h.1) (fun k x a hi hx hd hw hk hb => by
    have e := h.2 x (List.mem_of_getElem? hx)
    simp only [hd, hi, hw, cond_true, obind_some, peta, i_copyG e.2.2.1, apOk_le (b := 40) (by decide) hb]
    simp) (fun a => by simp)).1, foldI_map (fun x => x)]
  simp

theorem s_copyGs {l : List (den tSegment)} (h : SmB 68719476736 (.sl tSegment) l) : s_l16All l = some l := by
  unfold s_l16All
  rw [(loopF (fun k (a : List (den tSegment)) => ((k : Int), a)) ((0 : Int), []) [] l (fun _ x a => a ++ [x]) List.length (fun _ => 1) 68719476736 id rfl (Nat.le_trans h.1 (by decide)) (by rw [sum_one]; simpa using h.1) (fun k x a hi hx hd hw hk hb => by
    have e := h.2 x (List.mem_of_getElem? hx)
    simp only [hd, hi, hw, cond_true, obind_some, peta, s_copyG e.2.2.1, apOk_le (b := 40) (by decide) hb]
    simp) (fun a => by simp)).1, foldI_map (fun x => x)]
  simp

theorem i_newS (c : Int) : i_NewScheduler c = some (cond (inR c 1 20) c 1, [], []) := by
  unfold i_NewScheduler
  rw [i_in]
  cases inR c 1 20 <;> rfl

theorem s_newS (c : Int) : s_NewScheduler c = some (cond (inR c 1 20) c 1, [], []) := by
  unfold s_NewScheduler
  rw [s_in]
  cases inR c 1 20 <;> rfl

def newOk (t : den tTopology) (now : Int) : Bool := topV t && inR now 0 1000000

theorem i_newW {t : den tTopology} {k : den tSegmentDatabase} {c now : Int} (ht : SmB 68719476736 tTopology t) (hk : SmB 68719476736 tSegmentDatabase k) : i_NewNetwork t k c now = some (cond (newOk t now) (cond (inR c 1 20) c 1, now, 0, t.1, t.2, k.1, k.2, [], [], [], [], [], []) (0, 0, 0, [], [], [], [], [], [], [], [], [], [])) := by
  unfold i_NewNetwork i_copyDatabase newOk
  simp only [peta, i_topV ht, i_in, i_copyT ht, i_copyGs hk.1, i_copyGs hk.2, i_newS, obind_some]
  cases topV t <;> cases inR now 0 1000000 <;> rfl

theorem s_newW {t : den tTopology} {k : den tSegmentDatabase} {c now : Int} (ht : SmB 68719476736 tTopology t) (hk : SmB 68719476736 tSegmentDatabase k) : s_NewNetwork t k c now = some (cond (newOk t now) (cond (inR c 1 20) c 1, now, 0, t.1, t.2, k.1, k.2, [], [], [], [], [], []) (0, 0, 0, [], [], [], [], [], [], [], [], [], [])) := by
  unfold s_NewNetwork newOk
  simp only [peta, s_topV ht, s_in, s_copyT ht, s_copyGs hk.1, s_copyGs hk.2, s_newS, obind_some]
  cases topV t <;> cases inR now 0 1000000 <;> rfl

end Go.Proofs.YtmnjhbhppkploaaGreat
