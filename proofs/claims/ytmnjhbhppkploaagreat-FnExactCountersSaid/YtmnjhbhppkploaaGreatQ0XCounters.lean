/-
  Facts and plain laws: what the functions compute, in plain words. Conditions: as each says.
-/
import Derived.Test.YtmnjhbhppkploaaGreatT0XCounters
set_option linter.unusedVariables false
set_option linter.unusedSimpArgs false
set_option maxRecDepth 100000
namespace Go.Proofs.YtmnjhbhppkploaaGreat
open Go.Ab Go.V
theorem sz_ASS {l : den (.sl tAS)} {left : Int} (w : Wf (.sl tAS) l) (h0 : 0 ≤ left) (h1 : left ≤ 1048576) : SzT (l_szASS l left) left (tot (.sl tAS) l) := szF_ok (t := tAS) rfl w.1 h0 h1

theorem sz_LinkS {l : den (.sl tLink)} {left : Int} (w : Wf (.sl tLink) l) (h0 : 0 ≤ left) (h1 : left ≤ 1048576) : SzT (l_szLinkS l left) left (tot (.sl tLink) l) := szF_ok (t := tLink) rfl w.1 h0 h1

theorem sz_Topology {x : den tTopology} {left : Int} (w : Wf tTopology x) (h0 : 0 ≤ left) (h1 : left ≤ 1048576) : SzT (l_szTopology x left) left (tot tTopology x) := SzT.eq (sz_field (sz_ASS w.1 h0 h1) h1 fun r0 a0 b0 => sz_field (sz_LinkS w.2 a0 b0) b0 fun r1 a1 b1 => sz_done a1) (by simp [tot, tot_flat] <;> omega)

theorem sz_HopS {l : den (.sl tHop)} {left : Int} (w : Wf (.sl tHop) l) (h0 : 0 ≤ left) (h1 : left ≤ 1048576) : SzT (l_szHopS l left) left (tot (.sl tHop) l) := szF_ok (t := tHop) rfl w.1 h0 h1

theorem sz_Segment {x : den tSegment} {left : Int} (w : Wf tSegment x) (h0 : 0 ≤ left) (h1 : left ≤ 1048576) : SzT (l_szSegment x left) left (tot tSegment x) := SzT.eq (sz_field (sz_HopS w.2.2 h0 h1) h1 fun r0 a0 b0 => sz_done a0) (by simp [tot, tot_flat])

theorem sz_SegmentS {l : den (.sl tSegment)} {left : Int} (w : Wf (.sl tSegment) l) (h0 : 0 ≤ left) (h1 : left ≤ 1048576) : SzT (l_szSegmentS l left) left (tot (.sl tSegment) l) := szL_ok (t := tSegment) (szE := l_szSegment) w.1 h0 h1 fun x hx k k0 k1 => sz_Segment (w.2 x hx) k0 k1

theorem sz_SegmentDatabase {x : den tSegmentDatabase} {left : Int} (w : Wf tSegmentDatabase x) (h0 : 0 ≤ left) (h1 : left ≤ 1048576) : SzT (l_szSegmentDatabase x left) left (tot tSegmentDatabase x) := SzT.eq (sz_field (sz_SegmentS w.1 h0 h1) h1 fun r0 a0 b0 => sz_field (sz_SegmentS w.2 a0 b0) b0 fun r1 a1 b1 => sz_done a1) (by simp [tot, tot_flat] <;> omega)

theorem sz_ReservationS {l : den (.sl tReservation)} {left : Int} (w : Wf (.sl tReservation) l) (h0 : 0 ≤ left) (h1 : left ≤ 1048576) : SzT (l_szReservationS l left) left (tot (.sl tReservation) l) := szF_ok (t := tReservation) rfl w.1 h0 h1

theorem sz_UsageS {l : den (.sl tUsage)} {left : Int} (w : Wf (.sl tUsage) l) (h0 : 0 ≤ left) (h1 : left ≤ 1048576) : SzT (l_szUsageS l left) left (tot (.sl tUsage) l) := szF_ok (t := tUsage) rfl w.1 h0 h1

theorem sz_Scheduler {x : den tScheduler} {left : Int} (w : Wf tScheduler x) (h0 : 0 ≤ left) (h1 : left ≤ 1048576) : SzT (l_szScheduler x left) left (tot tScheduler x) := SzT.eq (sz_field (sz_ReservationS w.2.1 h0 h1) h1 fun r0 a0 b0 => sz_field (sz_UsageS w.2.2 a0 b0) b0 fun r1 a1 b1 => sz_done a1) (by simp [tot, tot_flat] <;> omega)

theorem sz_IntS {l : den (.sl ti)} {left : Int} (w : Wf (.sl ti) l) (h0 : 0 ≤ left) (h1 : left ≤ 1048576) : SzT (l_szIntS l left) left (tot (.sl ti) l) := szF_ok (t := ti) rfl w.1 h0 h1

theorem sz_PathPart {x : den tPathPart} {left : Int} (w : Wf tPathPart x) (h0 : 0 ≤ left) (h1 : left ≤ 1048576) : SzT (l_szPathPart x left) left (tot tPathPart x) := SzT.eq (sz_field (sz_HopS w.2.2.2 h0 h1) h1 fun r0 a0 b0 => sz_done a0) (by simp [tot, tot_flat])

theorem sz_PathPartS {l : den (.sl tPathPart)} {left : Int} (w : Wf (.sl tPathPart) l) (h0 : 0 ≤ left) (h1 : left ≤ 1048576) : SzT (l_szPathPartS l left) left (tot (.sl tPathPart) l) := szL_ok (t := tPathPart) (szE := l_szPathPart) w.1 h0 h1 fun x hx k k0 k1 => sz_PathPart (w.2 x hx) k0 k1

theorem sz_Path {x : den tPath} {left : Int} (w : Wf tPath x) (h0 : 0 ≤ left) (h1 : left ≤ 1048576) : SzT (l_szPath x left) left (tot tPath x) := SzT.eq (sz_field (sz_PathPartS w h0 h1) h1 fun r0 a0 b0 => sz_done a0) (by simp [tot, tot_flat])

theorem sz_ByteS {l : den (.sl tb)} {left : Int} (w : Wf (.sl tb) l) (h0 : 0 ≤ left) (h1 : left ≤ 1048576) : SzT (l_szByteS l left) left (tot (.sl tb) l) := szF_ok (t := tb) rfl w.1 h0 h1

theorem sz_Packet {x : den tPacket} {left : Int} (w : Wf tPacket x) (h0 : 0 ≤ left) (h1 : left ≤ 1048576) : SzT (l_szPacket x left) left (tot tPacket x) := SzT.eq (sz_field (sz_Path w.2.2.2.1 h0 h1) h1 fun r0 a0 b0 => sz_field (sz_ByteS w.2.2.2.2.2.2.2.2.2 a0 b0) b0 fun r1 a1 b1 => sz_done a1) (by simp [tot, tot_flat] <;> omega)

theorem sz_PacketInFlight {x : den tPacketInFlight} {left : Int} (w : Wf tPacketInFlight x) (h0 : 0 ≤ left) (h1 : left ≤ 1048576) : SzT (l_szPacketInFlight x left) left (tot tPacketInFlight x) := SzT.eq (sz_field (sz_Packet w.2.2 h0 h1) h1 fun r0 a0 b0 => sz_done a0) (by simp [tot, tot_flat])

theorem sz_PacketInFlightS {l : den (.sl tPacketInFlight)} {left : Int} (w : Wf (.sl tPacketInFlight) l) (h0 : 0 ≤ left) (h1 : left ≤ 1048576) : SzT (l_szPacketInFlightS l left) left (tot (.sl tPacketInFlight) l) := szL_ok (t := tPacketInFlight) (szE := l_szPacketInFlight) w.1 h0 h1 fun x hx k k0 k1 => sz_PacketInFlight (w.2 x hx) k0 k1

theorem sz_Message {x : den tMessage} {left : Int} (w : Wf tMessage x) (h0 : 0 ≤ left) (h1 : left ≤ 1048576) : SzT (l_szMessage x left) left (tot tMessage x) := SzT.eq (sz_field (sz_ByteS w h0 h1) h1 fun r0 a0 b0 => sz_done a0) (by simp [tot, tot_flat])

theorem sz_MessageS {l : den (.sl tMessage)} {left : Int} (w : Wf (.sl tMessage) l) (h0 : 0 ≤ left) (h1 : left ≤ 1048576) : SzT (l_szMessageS l left) left (tot (.sl tMessage) l) := szL_ok (t := tMessage) (szE := l_szMessage) w.1 h0 h1 fun x hx k k0 k1 => sz_Message (w.2 x hx) k0 k1

theorem sz_PathS {l : den (.sl tPath)} {left : Int} (w : Wf (.sl tPath) l) (h0 : 0 ≤ left) (h1 : left ≤ 1048576) : SzT (l_szPathS l left) left (tot (.sl tPath) l) := szL_ok (t := tPath) (szE := l_szPath) w.1 h0 h1 fun x hx k k0 k1 => sz_Path (w.2 x hx) k0 k1

theorem sz_RevocationS {l : den (.sl tRevocation)} {left : Int} (w : Wf (.sl tRevocation) l) (h0 : 0 ≤ left) (h1 : left ≤ 1048576) : SzT (l_szRevocationS l left) left (tot (.sl tRevocation) l) := szF_ok (t := tRevocation) rfl w.1 h0 h1

theorem sz_Flow {x : den tFlow} {left : Int} (w : Wf tFlow x) (h0 : 0 ≤ left) (h1 : left ≤ 1048576) : SzT (l_szFlow x left) left (tot tFlow x) := SzT.eq (sz_field (sz_MessageS w.2.2.2.2.1 h0 h1) h1 fun r0 a0 b0 => sz_field (sz_PathS w.2.2.2.2.2.1 a0 b0) b0 fun r1 a1 b1 => sz_field (sz_RevocationS w.2.2.2.2.2.2.2.2 a1 b1) b1 fun r2 a2 b2 => sz_done a2) (by simp [tot, tot_flat] <;> omega)

theorem sz_FlowS {l : den (.sl tFlow)} {left : Int} (w : Wf (.sl tFlow) l) (h0 : 0 ≤ left) (h1 : left ≤ 1048576) : SzT (l_szFlowS l left) left (tot (.sl tFlow) l) := szL_ok (t := tFlow) (szE := l_szFlow) w.1 h0 h1 fun x hx k k0 k1 => sz_Flow (w.2 x hx) k0 k1

theorem sz_Inbox {x : den tInbox} {left : Int} (w : Wf tInbox x) (h0 : 0 ≤ left) (h1 : left ≤ 1048576) : SzT (l_szInbox x left) left (tot tInbox x) := SzT.eq (sz_field (sz_MessageS w.2.2.2 h0 h1) h1 fun r0 a0 b0 => sz_done a0) (by simp [tot, tot_flat])

theorem sz_InboxS {l : den (.sl tInbox)} {left : Int} (w : Wf (.sl tInbox) l) (h0 : 0 ≤ left) (h1 : left ≤ 1048576) : SzT (l_szInboxS l left) left (tot (.sl tInbox) l) := szL_ok (t := tInbox) (szE := l_szInbox) w.1 h0 h1 fun x hx k k0 k1 => sz_Inbox (w.2 x hx) k0 k1

theorem sz_Network {x : den tNetwork} {left : Int} (w : Wf tNetwork x) (h0 : 0 ≤ left) (h1 : left ≤ 1048576) : SzT (l_szNetwork x left) left (tot tNetwork x) := SzT.eq (sz_field (sz_Topology w.1 h0 h1) h1 fun r0 a0 b0 => sz_field (sz_SegmentDatabase w.2.1 a0 b0) b0 fun r1 a1 b1 => sz_field (sz_Scheduler w.2.2.1 a1 b1) b1 fun r2 a2 b2 => sz_field (sz_IntS w.2.2.2.2.1 a2 b2) b2 fun r3 a3 b3 => sz_field (sz_PacketInFlightS w.2.2.2.2.2.1 a3 b3) b3 fun r4 a4 b4 => sz_field (sz_FlowS w.2.2.2.2.2.2.1 a4 b4) b4 fun r5 a5 b5 => sz_field (sz_InboxS w.2.2.2.2.2.2.2.1 a5 b5) b5 fun r6 a6 b6 => sz_done a6) (by simp [tot, tot_flat] <;> omega)

theorem to_AS {x : den tAS} (h : Sm tAS x) : l_toAS x = some x := by
  unfold l_toAS
  rfl

theorem to_ASS {l : den (.sl tAS)} (h : Sm (.sl tAS) l) : l_toASS l = some l := by
  have : l_toASS l = some (l.map id) := toL_eq (toE := l_toAS) (g := id) h.1 (by decide) fun x hx => to_AS (h.2 x hx)
  simpa using this

theorem to_Link {x : den tLink} (h : Sm tLink x) : l_toLink x = some x := by
  unfold l_toLink
  rfl

theorem to_LinkS {l : den (.sl tLink)} (h : Sm (.sl tLink) l) : l_toLinkS l = some l := by
  have : l_toLinkS l = some (l.map id) := toL_eq (toE := l_toLink) (g := id) h.1 (by decide) fun x hx => to_Link (h.2 x hx)
  simpa using this

theorem to_Topology {x : den tTopology} (h : Sm tTopology x) : l_toTopology x = some x := by
  unfold l_toTopology
  simp [to_ASS h.1, to_LinkS h.2]

theorem to_Hop {x : den tHop} (h : Sm tHop x) : l_toHop x = some x := by
  unfold l_toHop
  rfl

theorem to_HopS {l : den (.sl tHop)} (h : Sm (.sl tHop) l) : l_toHopS l = some l := by
  have : l_toHopS l = some (l.map id) := toL_eq (toE := l_toHop) (g := id) h.1 (by decide) fun x hx => to_Hop (h.2 x hx)
  simpa using this

theorem to_Segment {x : den tSegment} (h : Sm tSegment x) : l_toSegment x = some x := by
  unfold l_toSegment
  simp [to_HopS h.2.2]

theorem to_SegmentS {l : den (.sl tSegment)} (h : Sm (.sl tSegment) l) : l_toSegmentS l = some l := by
  have : l_toSegmentS l = some (l.map id) := toL_eq (toE := l_toSegment) (g := id) h.1 (by decide) fun x hx => to_Segment (h.2 x hx)
  simpa using this

theorem to_SegmentDatabase {x : den tSegmentDatabase} (h : Sm tSegmentDatabase x) : l_toSegmentDatabase x = some x := by
  unfold l_toSegmentDatabase
  simp [to_SegmentS h.1, to_SegmentS h.2]

theorem to_Reservation {x : den tReservation} (h : Sm tReservation x) : l_toReservation x = some x := by
  unfold l_toReservation
  rfl

theorem to_ReservationS {l : den (.sl tReservation)} (h : Sm (.sl tReservation) l) : l_toReservationS l = some l := by
  have : l_toReservationS l = some (l.map id) := toL_eq (toE := l_toReservation) (g := id) h.1 (by decide) fun x hx => to_Reservation (h.2 x hx)
  simpa using this

theorem to_Usage {x : den tUsage} (h : Sm tUsage x) : l_toUsage x = some x := by
  unfold l_toUsage
  rfl

theorem to_UsageS {l : den (.sl tUsage)} (h : Sm (.sl tUsage) l) : l_toUsageS l = some l := by
  have : l_toUsageS l = some (l.map id) := toL_eq (toE := l_toUsage) (g := id) h.1 (by decide) fun x hx => to_Usage (h.2 x hx)
  simpa using this

theorem to_Scheduler {x : den tScheduler} (h : Sm tScheduler x) : l_toScheduler x = some x := by
  unfold l_toScheduler
  simp [to_ReservationS h.2.1, to_UsageS h.2.2]

theorem to_IntS {l : den (.sl ti)} (h : Sm (.sl ti) l) : l_toIntS l = some l := by
  have : l_toIntS l = some (l.map id) := toL_eq (toE := some) (g := id) h.1 (by decide) fun x hx => rfl
  simpa using this

theorem to_PathPart {x : den tPathPart} (h : Sm tPathPart x) : l_toPathPart x = some x := by
  unfold l_toPathPart
  simp [to_HopS h.2.2.2]

theorem to_PathPartS {l : den (.sl tPathPart)} (h : Sm (.sl tPathPart) l) : l_toPathPartS l = some l := by
  have : l_toPathPartS l = some (l.map id) := toL_eq (toE := l_toPathPart) (g := id) h.1 (by decide) fun x hx => to_PathPart (h.2 x hx)
  simpa using this

theorem to_Path {x : den tPath} (h : Sm tPath x) : l_toPath x = some x := by
  unfold l_toPath
  simp [to_PathPartS h]

theorem to_ByteS {l : den (.sl tb)} (h : Sm (.sl tb) l) : l_toByteS l = some l := by
  have : l_toByteS l = some (l.map id) := toL_eq (toE := some) (g := id) h.1 (by decide) fun x hx => rfl
  simpa using this

theorem to_Packet {x : den tPacket} (h : Sm tPacket x) : l_toPacket x = some (x.1, x.2.1, x.2.2.1, x.2.2.2.2.1, x.2.2.2.2.2.1, x.2.2.2.2.2.2.1, x.2.2.2.2.2.2.2.1, x.2.2.2.2.2.2.2.2.1, x.2.2.2.1, x.2.2.2.2.2.2.2.2.2) := by
  unfold l_toPacket
  simp only [to_Path h.2.2.2.1, to_ByteS h.2.2.2.2.2.2.2.2.2, obind_some, peta]

theorem to_PacketInFlight {x : den tPacketInFlight} (h : Sm tPacketInFlight x) : l_toPacketInFlight x = some (x.1, x.2.1, x.2.2.1, x.2.2.2.1, x.2.2.2.2.1, x.2.2.2.2.2.2.1, x.2.2.2.2.2.2.2.1, x.2.2.2.2.2.2.2.2.1, x.2.2.2.2.2.2.2.2.2.1, x.2.2.2.2.2.2.2.2.2.2.1, x.2.2.2.2.2.1, x.2.2.2.2.2.2.2.2.2.2.2) := by
  unfold l_toPacketInFlight
  simp only [to_Packet h.2.2, obind_some, peta]

theorem to_PacketInFlightS {l : den (.sl tPacketInFlight)} (h : Sm (.sl tPacketInFlight) l) : l_toPacketInFlightS l = some l := by
  unfold l_toPacketInFlightS
  exact toL_run' h.1 (by decide) (fun k L x hi hm h1 h2 h3 h4 hw => by simp only [h1, h2, h3, h4, hi, to_PacketInFlight (h.2 x hm), obind_some, cond_true, Int.toNat_natCast, hw, peta]) (fun L => by simp)

theorem to_Message {x : den tMessage} (h : Sm tMessage x) : l_toMessage x = some x := by
  unfold l_toMessage
  simp [to_ByteS h]

theorem to_MessageS {l : den (.sl tMessage)} (h : Sm (.sl tMessage) l) : l_toMessageS l = some l := by
  have : l_toMessageS l = some (l.map id) := toL_eq (toE := l_toMessage) (g := id) h.1 (by decide) fun x hx => to_Message (h.2 x hx)
  simpa using this

theorem to_PathS {l : den (.sl tPath)} (h : Sm (.sl tPath) l) : l_toPathS l = some l := by
  have : l_toPathS l = some (l.map id) := toL_eq (toE := l_toPath) (g := id) h.1 (by decide) fun x hx => to_Path (h.2 x hx)
  simpa using this

theorem to_Revocation {x : den tRevocation} (h : Sm tRevocation x) : l_toRevocation x = some x := by
  unfold l_toRevocation
  rfl

theorem to_RevocationS {l : den (.sl tRevocation)} (h : Sm (.sl tRevocation) l) : l_toRevocationS l = some l := by
  have : l_toRevocationS l = some (l.map id) := toL_eq (toE := l_toRevocation) (g := id) h.1 (by decide) fun x hx => to_Revocation (h.2 x hx)
  simpa using this

theorem to_Flow {x : den tFlow} (h : Sm tFlow x) : l_toFlow x = some (x.1, x.2.1, x.2.2.1, x.2.2.2.1, x.2.2.2.2.2.2.1, x.2.2.2.2.2.2.2.1, x.2.2.2.2.1, x.2.2.2.2.2.1, x.2.2.2.2.2.2.2.2) := by
  unfold l_toFlow
  simp only [to_MessageS h.2.2.2.2.1, to_PathS h.2.2.2.2.2.1, to_RevocationS h.2.2.2.2.2.2.2.2, obind_some, peta]

theorem to_FlowS {l : den (.sl tFlow)} (h : Sm (.sl tFlow) l) : l_toFlowS l = some l := by
  unfold l_toFlowS
  exact toL_run h.1 (by decide) (fun k L x hi hm h1 h2 h3 h4 hw => by simp only [h1, h2, h3, h4, hi, to_Flow (h.2 x hm), obind_some, cond_true, Int.toNat_natCast, hw, peta]) (fun L => by simp)

theorem to_Inbox {x : den tInbox} (h : Sm tInbox x) : l_toInbox x = some x := by
  unfold l_toInbox
  simp [to_MessageS h.2.2.2]

theorem to_InboxS {l : den (.sl tInbox)} (h : Sm (.sl tInbox) l) : l_toInboxS l = some l := by
  have : l_toInboxS l = some (l.map id) := toL_eq (toE := l_toInbox) (g := id) h.1 (by decide) fun x hx => to_Inbox (h.2 x hx)
  simpa using this

theorem to_Network {x : den tNetwork} (h : Sm tNetwork x) : l_toNetwork x = some (x.2.2.1.1, x.2.2.2.1, x.2.2.2.2.2.2.2.2, x.1.1, x.1.2, x.2.1.1, x.2.1.2, x.2.2.1.2.1, x.2.2.1.2.2, x.2.2.2.2.1, x.2.2.2.2.2.1, x.2.2.2.2.2.2.1, x.2.2.2.2.2.2.2.1) := by
  unfold l_toNetwork
  simp only [to_Topology h.1, to_SegmentDatabase h.2.1, to_Scheduler h.2.2.1, to_IntS h.2.2.2.2.1, to_PacketInFlightS h.2.2.2.2.2.1, to_FlowS h.2.2.2.2.2.2.1, to_InboxS h.2.2.2.2.2.2.2.1, obind_some, peta]

theorem eq_IntS {l : den (.sl ti)} (h : SmB 4611686018427387904 (.sl ti) l) : l_eqIntS l l = some true := eqL_refl (eqE := (fun x y => some (x == y))) h.1 fun x hx => by simp

theorem eq_AS {x : den tAS} (h : SmB 4611686018427387904 tAS x) : l_eqAS x x = some true := by
  unfold l_eqAS
  simp

theorem eq_ASS {l : den (.sl tAS)} (h : SmB 4611686018427387904 (.sl tAS) l) : l_eqASS l l = some true := eqL_refl (eqE := l_eqAS) h.1 fun x hx => eq_AS (h.2 x hx)

theorem eq_Link {x : den tLink} (h : SmB 4611686018427387904 tLink x) : l_eqLink x x = some true := by
  unfold l_eqLink
  simp

theorem eq_LinkS {l : den (.sl tLink)} (h : SmB 4611686018427387904 (.sl tLink) l) : l_eqLinkS l l = some true := eqL_refl (eqE := l_eqLink) h.1 fun x hx => eq_Link (h.2 x hx)

theorem eq_Topology {x : den tTopology} (h : SmB 4611686018427387904 tTopology x) : l_eqTopology x x = some true := by
  unfold l_eqTopology
  simp [eq_ASS h.1, eq_LinkS h.2]

theorem eq_Hop {x : den tHop} (h : SmB 4611686018427387904 tHop x) : l_eqHop x x = some true := by
  unfold l_eqHop
  simp

theorem eq_HopS {l : den (.sl tHop)} (h : SmB 4611686018427387904 (.sl tHop) l) : l_eqHopS l l = some true := eqL_refl (eqE := l_eqHop) h.1 fun x hx => eq_Hop (h.2 x hx)

theorem eq_Segment {x : den tSegment} (h : SmB 4611686018427387904 tSegment x) : l_eqSegment x x = some true := by
  unfold l_eqSegment
  simp [eq_HopS h.2.2]

theorem eq_SegmentS {l : den (.sl tSegment)} (h : SmB 4611686018427387904 (.sl tSegment) l) : l_eqSegmentS l l = some true := eqL_refl (eqE := l_eqSegment) h.1 fun x hx => eq_Segment (h.2 x hx)

theorem eq_SegmentDatabase {x : den tSegmentDatabase} (h : SmB 4611686018427387904 tSegmentDatabase x) : l_eqSegmentDatabase x x = some true := by
  unfold l_eqSegmentDatabase
  simp [eq_SegmentS h.1, eq_SegmentS h.2]

theorem eq_Reservation {x : den tReservation} (h : SmB 4611686018427387904 tReservation x) : l_eqReservation x x = some true := by
  unfold l_eqReservation
  simp

theorem eq_ReservationS {l : den (.sl tReservation)} (h : SmB 4611686018427387904 (.sl tReservation) l) : l_eqReservationS l l = some true := eqL_refl (eqE := l_eqReservation) h.1 fun x hx => eq_Reservation (h.2 x hx)

theorem eq_Usage {x : den tUsage} (h : SmB 4611686018427387904 tUsage x) : l_eqUsage x x = some true := by
  unfold l_eqUsage
  simp

theorem eq_UsageS {l : den (.sl tUsage)} (h : SmB 4611686018427387904 (.sl tUsage) l) : l_eqUsageS l l = some true := eqL_refl (eqE := l_eqUsage) h.1 fun x hx => eq_Usage (h.2 x hx)

theorem eq_Scheduler {x : den tScheduler} (h : SmB 4611686018427387904 tScheduler x) : l_eqScheduler x x = some true := by
  unfold l_eqScheduler
  simp [eq_ReservationS h.2.1, eq_UsageS h.2.2]

theorem eq_PathPart {x : den tPathPart} (h : SmB 4611686018427387904 tPathPart x) : l_eqPathPart x x = some true := by
  unfold l_eqPathPart
  simp [eq_HopS h.2.2.2]

theorem eq_PathPartS {l : den (.sl tPathPart)} (h : SmB 4611686018427387904 (.sl tPathPart) l) : l_eqPathPartS l l = some true := eqL_refl (eqE := l_eqPathPart) h.1 fun x hx => eq_PathPart (h.2 x hx)

theorem eq_Path {x : den tPath} (h : SmB 4611686018427387904 tPath x) : l_eqPath x x = some true := by
  unfold l_eqPath
  simp [eq_PathPartS h]

theorem eq_ByteS {l : den (.sl tb)} (h : SmB 4611686018427387904 (.sl tb) l) : l_eqByteS l l = some true := eqL_refl (eqE := (fun x y => some (x == y))) h.1 fun x hx => by simp

theorem eq_Packet {x : den tPacket} (h : SmB 4611686018427387904 tPacket x) : l_eqPacket x x = some true := by
  unfold l_eqPacket
  simp [eq_Path h.2.2.2.1, eq_ByteS h.2.2.2.2.2.2.2.2.2]

theorem eq_PacketInFlight {x : den tPacketInFlight} (h : SmB 4611686018427387904 tPacketInFlight x) : l_eqPacketInFlight x x = some true := by
  unfold l_eqPacketInFlight
  simp [eq_Packet h.2.2]

theorem eq_PacketInFlightS {l : den (.sl tPacketInFlight)} (h : SmB 4611686018427387904 (.sl tPacketInFlight) l) : l_eqPacketInFlightS l l = some true := eqL_refl (eqE := l_eqPacketInFlight) h.1 fun x hx => eq_PacketInFlight (h.2 x hx)

theorem eq_Message {x : den tMessage} (h : SmB 4611686018427387904 tMessage x) : l_eqMessage x x = some true := by
  unfold l_eqMessage
  simp [eq_ByteS h]

theorem eq_MessageS {l : den (.sl tMessage)} (h : SmB 4611686018427387904 (.sl tMessage) l) : l_eqMessageS l l = some true := eqL_refl (eqE := l_eqMessage) h.1 fun x hx => eq_Message (h.2 x hx)

theorem eq_PathS {l : den (.sl tPath)} (h : SmB 4611686018427387904 (.sl tPath) l) : l_eqPathS l l = some true := eqL_refl (eqE := l_eqPath) h.1 fun x hx => eq_Path (h.2 x hx)

theorem eq_Revocation {x : den tRevocation} (h : SmB 4611686018427387904 tRevocation x) : l_eqRevocation x x = some true := by
  unfold l_eqRevocation
  simp

theorem eq_RevocationS {l : den (.sl tRevocation)} (h : SmB 4611686018427387904 (.sl tRevocation) l) : l_eqRevocationS l l = some true := eqL_refl (eqE := l_eqRevocation) h.1 fun x hx => eq_Revocation (h.2 x hx)

theorem eq_Flow {x : den tFlow} (h : SmB 4611686018427387904 tFlow x) : l_eqFlow x x = some true := by
  unfold l_eqFlow
  simp [eq_MessageS h.2.2.2.2.1, eq_PathS h.2.2.2.2.2.1, eq_RevocationS h.2.2.2.2.2.2.2.2]

theorem eq_FlowS {l : den (.sl tFlow)} (h : SmB 4611686018427387904 (.sl tFlow) l) : l_eqFlowS l l = some true := eqL_refl (eqE := l_eqFlow) h.1 fun x hx => eq_Flow (h.2 x hx)

theorem eq_Inbox {x : den tInbox} (h : SmB 4611686018427387904 tInbox x) : l_eqInbox x x = some true := by
  unfold l_eqInbox
  simp [eq_MessageS h.2.2.2]

theorem eq_InboxS {l : den (.sl tInbox)} (h : SmB 4611686018427387904 (.sl tInbox) l) : l_eqInboxS l l = some true := eqL_refl (eqE := l_eqInbox) h.1 fun x hx => eq_Inbox (h.2 x hx)

theorem eq_Network {x : den tNetwork} (h : SmB 4611686018427387904 tNetwork x) : l_eqNetwork x x = some true := by
  unfold l_eqNetwork
  simp [eq_Topology h.1, eq_SegmentDatabase h.2.1, eq_Scheduler h.2.2.1, eq_IntS h.2.2.2.2.1, eq_PacketInFlightS h.2.2.2.2.2.1, eq_FlowS h.2.2.2.2.2.2.1, eq_InboxS h.2.2.2.2.2.2.2.1]

theorem mark_ASS {l : den (.sl tAS)} {k : Int} (h : SmB 4611686018427387904 (.sl tAS) l) (hk : 0 ≤ k) (hb : k + ((lv (.sl tAS) l : Nat) : Int) ≤ 4611686018427387904) : l_markASS l k = some (k + ((lv (.sl tAS) l : Nat) : Int), mkT (.sl tAS) l k) := by
  have hc := cntAll_sum (lv tAS) l
  have hc : k + ((cntAll (lv tAS) l : Nat) : Int) = k + ((lv (.sl tAS) l : Nat) : Int) := by rw [hc]; rfl
  unfold l_markASS
  rw [mark0 (cE := lv tAS) (mE := mkT tAS) (SmB 4611686018427387904 tAS) (fun k i L x hx hi hN hk hb hp => by
      have hd : decide ((i : Int) < (L.length : Int)) = true := by simpa using hi
      have hd0 : decide ((0 : Int) ≤ (i : Int)) = true := by simp
      have hw : IntKind.i64.wrap ((i : Int) + 1) = ((i + 1 : Nat) : Int) := by rw [wrap_in (by omega) (by omega)]; omega
      have hl : k + ((lv tAS x : Nat) : Int) = k + 1 + 1 + 1 := by simp only [lv] <;> omega
      rw [hl] at hb
      rw [hl]
      have hE : mkT tAS x k = (k, Int.tmod (k + 1) 3 == 0, k + 1 + 1) := by first | rfl | (simp [mkT, lv]; try omega)
      have f0 : IntKind.i64.wrap (k + 1) = k + 1 := wrap_in (by omega) (by omega)
      have f1 : IntKind.i64.wrap (k + 1 + 1) = k + 1 + 1 := wrap_in (by omega) (by omega)
      have f2 : IntKind.i64.wrap (k + 1 + 1 + 1) = k + 1 + 1 + 1 := wrap_in (by omega) (by omega)
      rw [hE]
      simp only [hd, hd0, hw, cond_true, Int.toNat_natCast, hx, obind_some, List.length_set, List.getElem?_set_self hi, List.set_set, f0, f1, f2]) (fun k L => by simp) h.1 h.2 hk (by rw [hc]; exact hb), hc]
  rfl

theorem mark_LinkS {l : den (.sl tLink)} {k : Int} (h : SmB 4611686018427387904 (.sl tLink) l) (hk : 0 ≤ k) (hb : k + ((lv (.sl tLink) l : Nat) : Int) ≤ 4611686018427387904) : l_markLinkS l k = some (k + ((lv (.sl tLink) l : Nat) : Int), mkT (.sl tLink) l k) := by
  have hc := cntAll_sum (lv tLink) l
  have hc : k + ((cntAll (lv tLink) l : Nat) : Int) = k + ((lv (.sl tLink) l : Nat) : Int) := by rw [hc]; rfl
  unfold l_markLinkS
  rw [mark0 (cE := lv tLink) (mE := mkT tLink) (SmB 4611686018427387904 tLink) (fun k i L x hx hi hN hk hb hp => by
      have hd : decide ((i : Int) < (L.length : Int)) = true := by simpa using hi
      have hd0 : decide ((0 : Int) ≤ (i : Int)) = true := by simp
      have hw : IntKind.i64.wrap ((i : Int) + 1) = ((i + 1 : Nat) : Int) := by rw [wrap_in (by omega) (by omega)]; omega
      have hl : k + ((lv tLink x : Nat) : Int) = k + 1 + 1 + 1 + 1 + 1 := by simp only [lv] <;> omega
      rw [hl] at hb
      rw [hl]
      have hE : mkT tLink x k = (k, k + 1, k + 1 + 1, k + 1 + 1 + 1, k + 1 + 1 + 1 + 1) := by first | rfl | (simp [mkT, lv]; try omega)
      have f0 : IntKind.i64.wrap (k + 1) = k + 1 := wrap_in (by omega) (by omega)
      have f1 : IntKind.i64.wrap (k + 1 + 1) = k + 1 + 1 := wrap_in (by omega) (by omega)
      have f2 : IntKind.i64.wrap (k + 1 + 1 + 1) = k + 1 + 1 + 1 := wrap_in (by omega) (by omega)
      have f3 : IntKind.i64.wrap (k + 1 + 1 + 1 + 1) = k + 1 + 1 + 1 + 1 := wrap_in (by omega) (by omega)
      have f4 : IntKind.i64.wrap (k + 1 + 1 + 1 + 1 + 1) = k + 1 + 1 + 1 + 1 + 1 := wrap_in (by omega) (by omega)
      rw [hE]
      simp only [hd, hd0, hw, cond_true, Int.toNat_natCast, hx, obind_some, List.length_set, List.getElem?_set_self hi, List.set_set, f0, f1, f2, f3, f4]) (fun k L => by simp) h.1 h.2 hk (by rw [hc]; exact hb), hc]
  rfl

theorem mark_Topology {x : den tTopology} {k : Int} (h : SmB 4611686018427387904 tTopology x) (hk : 0 ≤ k) (hb : k + ((lv (.sl tAS) x.1 : Nat) : Int) + ((lv (.sl tLink) x.2 : Nat) : Int) ≤ 4611686018427387904) : l_markTopology x k = some (k + ((lv (.sl tAS) x.1 : Nat) : Int) + ((lv (.sl tLink) x.2 : Nat) : Int), mkT (.sl tAS) x.1 (k), mkT (.sl tLink) x.2 (k + ((lv (.sl tAS) x.1 : Nat) : Int))) := by
  have q0 := mark_ASS (l := x.1) (k := k) h.1 (by omega) (by omega)
  have q1 := mark_LinkS (l := x.2) (k := k + ((lv (.sl tAS) x.1 : Nat) : Int)) h.2 (by omega) (by omega)
  unfold l_markTopology
  simp only [q0, q1, obind_some, peta]

theorem mark_HopS {l : den (.sl tHop)} {k : Int} (h : SmB 4611686018427387904 (.sl tHop) l) (hk : 0 ≤ k) (hb : k + ((lv (.sl tHop) l : Nat) : Int) ≤ 4611686018427387904) : l_markHopS l k = some (k + ((lv (.sl tHop) l : Nat) : Int), mkT (.sl tHop) l k) := by
  have hc := cntAll_sum (lv tHop) l
  have hc : k + ((cntAll (lv tHop) l : Nat) : Int) = k + ((lv (.sl tHop) l : Nat) : Int) := by rw [hc]; rfl
  unfold l_markHopS
  rw [mark0 (cE := lv tHop) (mE := mkT tHop) (SmB 4611686018427387904 tHop) (fun k i L x hx hi hN hk hb hp => by
      have hd : decide ((i : Int) < (L.length : Int)) = true := by simpa using hi
      have hd0 : decide ((0 : Int) ≤ (i : Int)) = true := by simp
      have hw : IntKind.i64.wrap ((i : Int) + 1) = ((i + 1 : Nat) : Int) := by rw [wrap_in (by omega) (by omega)]; omega
      have hl : k + ((lv tHop x : Nat) : Int) = k + 1 + 1 + 1 + 1 + 1 := by simp only [lv] <;> omega
      rw [hl] at hb
      rw [hl]
      have hE : mkT tHop x k = (k, k + 1, k + 1 + 1, k + 1 + 1 + 1, k + 1 + 1 + 1 + 1) := by first | rfl | (simp [mkT, lv]; try omega)
      have f0 : IntKind.i64.wrap (k + 1) = k + 1 := wrap_in (by omega) (by omega)
      have f1 : IntKind.i64.wrap (k + 1 + 1) = k + 1 + 1 := wrap_in (by omega) (by omega)
      have f2 : IntKind.i64.wrap (k + 1 + 1 + 1) = k + 1 + 1 + 1 := wrap_in (by omega) (by omega)
      have f3 : IntKind.i64.wrap (k + 1 + 1 + 1 + 1) = k + 1 + 1 + 1 + 1 := wrap_in (by omega) (by omega)
      have f4 : IntKind.i64.wrap (k + 1 + 1 + 1 + 1 + 1) = k + 1 + 1 + 1 + 1 + 1 := wrap_in (by omega) (by omega)
      rw [hE]
      simp only [hd, hd0, hw, cond_true, Int.toNat_natCast, hx, obind_some, List.length_set, List.getElem?_set_self hi, List.set_set, f0, f1, f2, f3, f4]) (fun k L => by simp) h.1 h.2 hk (by rw [hc]; exact hb), hc]
  rfl

theorem mark_SegmentS {l : den (.sl tSegment)} {k : Int} (h : SmB 4611686018427387904 (.sl tSegment) l) (hk : 0 ≤ k) (hb : k + ((lv (.sl tSegment) l : Nat) : Int) ≤ 4611686018427387904) : l_markSegmentS l k = some (k + ((lv (.sl tSegment) l : Nat) : Int), mkT (.sl tSegment) l k) := by
  have hc := cntAll_sum (lv tSegment) l
  have hc : k + ((cntAll (lv tSegment) l : Nat) : Int) = k + ((lv (.sl tSegment) l : Nat) : Int) := by rw [hc]; rfl
  unfold l_markSegmentS
  rw [mark0 (cE := lv tSegment) (mE := mkT tSegment) (SmB 4611686018427387904 tSegment) (fun k i L x hx hi hN hk hb hp => by
      have hd : decide ((i : Int) < (L.length : Int)) = true := by simpa using hi
      have hd0 : decide ((0 : Int) ≤ (i : Int)) = true := by simp
      have hw : IntKind.i64.wrap ((i : Int) + 1) = ((i + 1 : Nat) : Int) := by rw [wrap_in (by omega) (by omega)]; omega
      have hl : k + ((lv tSegment x : Nat) : Int) = k + 1 + 1 + ((lv (.sl tHop) x.2.2 : Nat) : Int) := by simp only [lv] <;> omega
      rw [hl] at hb
      rw [hl]
      have hE : mkT tSegment x k = (k, k + 1, mkT (.sl tHop) x.2.2 (k + 1 + 1)) := by first | rfl | (simp [mkT, lv]; try omega)
      have f0 : IntKind.i64.wrap (k + 1) = k + 1 := wrap_in (by omega) (by omega)
      have f1 : IntKind.i64.wrap (k + 1 + 1) = k + 1 + 1 := wrap_in (by omega) (by omega)
      have f2 := mark_HopS (l := x.2.2) (k := k + 1 + 1) hp.2.2 (by omega) (by omega)
      rw [hE]
      simp only [hd, hd0, hw, cond_true, Int.toNat_natCast, hx, obind_some, List.length_set, List.getElem?_set_self hi, List.set_set, f0, f1, f2]) (fun k L => by simp) h.1 h.2 hk (by rw [hc]; exact hb), hc]
  rfl

theorem mark_SegmentDatabase {x : den tSegmentDatabase} {k : Int} (h : SmB 4611686018427387904 tSegmentDatabase x) (hk : 0 ≤ k) (hb : k + ((lv (.sl tSegment) x.1 : Nat) : Int) + ((lv (.sl tSegment) x.2 : Nat) : Int) ≤ 4611686018427387904) : l_markSegmentDatabase x k = some (k + ((lv (.sl tSegment) x.1 : Nat) : Int) + ((lv (.sl tSegment) x.2 : Nat) : Int), mkT (.sl tSegment) x.1 (k), mkT (.sl tSegment) x.2 (k + ((lv (.sl tSegment) x.1 : Nat) : Int))) := by
  have q0 := mark_SegmentS (l := x.1) (k := k) h.1 (by omega) (by omega)
  have q1 := mark_SegmentS (l := x.2) (k := k + ((lv (.sl tSegment) x.1 : Nat) : Int)) h.2 (by omega) (by omega)
  unfold l_markSegmentDatabase
  simp only [q0, q1, obind_some, peta]

theorem mark_ReservationS {l : den (.sl tReservation)} {k : Int} (h : SmB 4611686018427387904 (.sl tReservation) l) (hk : 0 ≤ k) (hb : k + ((lv (.sl tReservation) l : Nat) : Int) ≤ 4611686018427387904) : l_markReservationS l k = some (k + ((lv (.sl tReservation) l : Nat) : Int), mkT (.sl tReservation) l k) := by
  have hc := cntAll_sum (lv tReservation) l
  have hc : k + ((cntAll (lv tReservation) l : Nat) : Int) = k + ((lv (.sl tReservation) l : Nat) : Int) := by rw [hc]; rfl
  unfold l_markReservationS
  rw [mark0 (cE := lv tReservation) (mE := mkT tReservation) (SmB 4611686018427387904 tReservation) (fun k i L x hx hi hN hk hb hp => by
      have hd : decide ((i : Int) < (L.length : Int)) = true := by simpa using hi
      have hd0 : decide ((0 : Int) ≤ (i : Int)) = true := by simp
      have hw : IntKind.i64.wrap ((i : Int) + 1) = ((i + 1 : Nat) : Int) := by rw [wrap_in (by omega) (by omega)]; omega
      have hl : k + ((lv tReservation x : Nat) : Int) = k + 1 + 1 + 1 + 1 + 1 := by simp only [lv] <;> omega
      rw [hl] at hb
      rw [hl]
      have hE : mkT tReservation x k = (k, k + 1, k + 1 + 1, k + 1 + 1 + 1, k + 1 + 1 + 1 + 1) := by first | rfl | (simp [mkT, lv]; try omega)
      have f0 : IntKind.i64.wrap (k + 1) = k + 1 := wrap_in (by omega) (by omega)
      have f1 : IntKind.i64.wrap (k + 1 + 1) = k + 1 + 1 := wrap_in (by omega) (by omega)
      have f2 : IntKind.i64.wrap (k + 1 + 1 + 1) = k + 1 + 1 + 1 := wrap_in (by omega) (by omega)
      have f3 : IntKind.i64.wrap (k + 1 + 1 + 1 + 1) = k + 1 + 1 + 1 + 1 := wrap_in (by omega) (by omega)
      have f4 : IntKind.i64.wrap (k + 1 + 1 + 1 + 1 + 1) = k + 1 + 1 + 1 + 1 + 1 := wrap_in (by omega) (by omega)
      rw [hE]
      simp only [hd, hd0, hw, cond_true, Int.toNat_natCast, hx, obind_some, List.length_set, List.getElem?_set_self hi, List.set_set, f0, f1, f2, f3, f4]) (fun k L => by simp) h.1 h.2 hk (by rw [hc]; exact hb), hc]
  rfl

theorem mark_UsageS {l : den (.sl tUsage)} {k : Int} (h : SmB 4611686018427387904 (.sl tUsage) l) (hk : 0 ≤ k) (hb : k + ((lv (.sl tUsage) l : Nat) : Int) ≤ 4611686018427387904) : l_markUsageS l k = some (k + ((lv (.sl tUsage) l : Nat) : Int), mkT (.sl tUsage) l k) := by
  have hc := cntAll_sum (lv tUsage) l
  have hc : k + ((cntAll (lv tUsage) l : Nat) : Int) = k + ((lv (.sl tUsage) l : Nat) : Int) := by rw [hc]; rfl
  unfold l_markUsageS
  rw [mark0 (cE := lv tUsage) (mE := mkT tUsage) (SmB 4611686018427387904 tUsage) (fun k i L x hx hi hN hk hb hp => by
      have hd : decide ((i : Int) < (L.length : Int)) = true := by simpa using hi
      have hd0 : decide ((0 : Int) ≤ (i : Int)) = true := by simp
      have hw : IntKind.i64.wrap ((i : Int) + 1) = ((i + 1 : Nat) : Int) := by rw [wrap_in (by omega) (by omega)]; omega
      have hl : k + ((lv tUsage x : Nat) : Int) = k + 1 + 1 + 1 + 1 := by simp only [lv] <;> omega
      rw [hl] at hb
      rw [hl]
      have hE : mkT tUsage x k = (k, k + 1, k + 1 + 1, k + 1 + 1 + 1) := by first | rfl | (simp [mkT, lv]; try omega)
      have f0 : IntKind.i64.wrap (k + 1) = k + 1 := wrap_in (by omega) (by omega)
      have f1 : IntKind.i64.wrap (k + 1 + 1) = k + 1 + 1 := wrap_in (by omega) (by omega)
      have f2 : IntKind.i64.wrap (k + 1 + 1 + 1) = k + 1 + 1 + 1 := wrap_in (by omega) (by omega)
      have f3 : IntKind.i64.wrap (k + 1 + 1 + 1 + 1) = k + 1 + 1 + 1 + 1 := wrap_in (by omega) (by omega)
      rw [hE]
      simp only [hd, hd0, hw, cond_true, Int.toNat_natCast, hx, obind_some, List.length_set, List.getElem?_set_self hi, List.set_set, f0, f1, f2, f3]) (fun k L => by simp) h.1 h.2 hk (by rw [hc]; exact hb), hc]
  rfl

theorem mark_Scheduler {x : den tScheduler} {k : Int} (h : SmB 4611686018427387904 tScheduler x) (hk : 0 ≤ k) (hb : k + ((lv (.sl tReservation) x.2.1 : Nat) : Int) + ((lv (.sl tUsage) x.2.2 : Nat) : Int) ≤ 4611686018427387904) : l_markScheduler x k = some (k + ((lv (.sl tReservation) x.2.1 : Nat) : Int) + ((lv (.sl tUsage) x.2.2 : Nat) : Int), mkT (.sl tReservation) x.2.1 (k), mkT (.sl tUsage) x.2.2 (k + ((lv (.sl tReservation) x.2.1 : Nat) : Int))) := by
  have q0 := mark_ReservationS (l := x.2.1) (k := k) h.2.1 (by omega) (by omega)
  have q1 := mark_UsageS (l := x.2.2) (k := k + ((lv (.sl tReservation) x.2.1 : Nat) : Int)) h.2.2 (by omega) (by omega)
  unfold l_markScheduler
  simp only [q0, q1, obind_some, peta]

theorem mark_IntS {l : den (.sl ti)} {k : Int} (h : SmB 4611686018427387904 (.sl ti) l) (hk : 0 ≤ k) (hb : k + ((lv (.sl ti) l : Nat) : Int) ≤ 4611686018427387904) : l_markIntS l k = some (k + ((lv (.sl ti) l : Nat) : Int), mkT (.sl ti) l k) := by
  have hc := cntAll_sum (lv ti) l
  have hc : k + ((cntAll (lv ti) l : Nat) : Int) = k + ((lv (.sl ti) l : Nat) : Int) := by rw [hc]; rfl
  unfold l_markIntS
  rw [mark0 (cE := lv ti) (mE := mkT ti) (SmB 4611686018427387904 ti) (fun k i L x hx hi hN hk hb hp => by
      have hd : decide ((i : Int) < (L.length : Int)) = true := by simpa using hi
      have hd0 : decide ((0 : Int) ≤ (i : Int)) = true := by simp
      have hw : IntKind.i64.wrap ((i : Int) + 1) = ((i + 1 : Nat) : Int) := by rw [wrap_in (by omega) (by omega)]; omega
      have hl : k + ((lv ti x : Nat) : Int) = k + 1 := by simp only [lv] <;> omega
      rw [hl] at hb
      rw [hl]
      have hE : mkT ti x k = k := by first | rfl | (simp [mkT, lv]; try omega)
      have f0 : IntKind.i64.wrap (k + 1) = k + 1 := wrap_in (by omega) (by omega)
      rw [hE]
      simp only [hd, hd0, hw, cond_true, Int.toNat_natCast, hx, obind_some, List.length_set, List.getElem?_set_self hi, List.set_set, f0]) (fun k L => by simp) h.1 h.2 hk (by rw [hc]; exact hb), hc]
  rfl

theorem mark_PathPartS {l : den (.sl tPathPart)} {k : Int} (h : SmB 4611686018427387904 (.sl tPathPart) l) (hk : 0 ≤ k) (hb : k + ((lv (.sl tPathPart) l : Nat) : Int) ≤ 4611686018427387904) : l_markPathPartS l k = some (k + ((lv (.sl tPathPart) l : Nat) : Int), mkT (.sl tPathPart) l k) := by
  have hc := cntAll_sum (lv tPathPart) l
  have hc : k + ((cntAll (lv tPathPart) l : Nat) : Int) = k + ((lv (.sl tPathPart) l : Nat) : Int) := by rw [hc]; rfl
  unfold l_markPathPartS
  rw [mark0 (cE := lv tPathPart) (mE := mkT tPathPart) (SmB 4611686018427387904 tPathPart) (fun k i L x hx hi hN hk hb hp => by
      have hd : decide ((i : Int) < (L.length : Int)) = true := by simpa using hi
      have hd0 : decide ((0 : Int) ≤ (i : Int)) = true := by simp
      have hw : IntKind.i64.wrap ((i : Int) + 1) = ((i + 1 : Nat) : Int) := by rw [wrap_in (by omega) (by omega)]; omega
      have hl : k + ((lv tPathPart x : Nat) : Int) = k + 1 + 1 + 1 + ((lv (.sl tHop) x.2.2.2 : Nat) : Int) := by simp only [lv] <;> omega
      rw [hl] at hb
      rw [hl]
      have hE : mkT tPathPart x k = (k, k + 1, k + 1 + 1, mkT (.sl tHop) x.2.2.2 (k + 1 + 1 + 1)) := by first | rfl | (simp [mkT, lv]; try omega)
      have f0 : IntKind.i64.wrap (k + 1) = k + 1 := wrap_in (by omega) (by omega)
      have f1 : IntKind.i64.wrap (k + 1 + 1) = k + 1 + 1 := wrap_in (by omega) (by omega)
      have f2 : IntKind.i64.wrap (k + 1 + 1 + 1) = k + 1 + 1 + 1 := wrap_in (by omega) (by omega)
      have f3 := mark_HopS (l := x.2.2.2) (k := k + 1 + 1 + 1) hp.2.2.2 (by omega) (by omega)
      rw [hE]
      simp only [hd, hd0, hw, cond_true, Int.toNat_natCast, hx, obind_some, List.length_set, List.getElem?_set_self hi, List.set_set, f0, f1, f2, f3]) (fun k L => by simp) h.1 h.2 hk (by rw [hc]; exact hb), hc]
  rfl

theorem mark_ByteS {l : den (.sl tb)} {k : Int} (h : SmB 4611686018427387904 (.sl tb) l) (hk : 0 ≤ k) (hb : k + ((lv (.sl tb) l : Nat) : Int) ≤ 4611686018427387904) : l_markByteS l k = some (k + ((lv (.sl tb) l : Nat) : Int), mkT (.sl tb) l k) := by
  have hc := cntAll_sum (lv tb) l
  have hc : k + ((cntAll (lv tb) l : Nat) : Int) = k + ((lv (.sl tb) l : Nat) : Int) := by rw [hc]; rfl
  unfold l_markByteS
  rw [mark0 (cE := lv tb) (mE := mkT tb) (SmB 4611686018427387904 tb) (fun k i L x hx hi hN hk hb hp => by
      have hd : decide ((i : Int) < (L.length : Int)) = true := by simpa using hi
      have hd0 : decide ((0 : Int) ≤ (i : Int)) = true := by simp
      have hw : IntKind.i64.wrap ((i : Int) + 1) = ((i + 1 : Nat) : Int) := by rw [wrap_in (by omega) (by omega)]; omega
      have hl : k + ((lv tb x : Nat) : Int) = k + 1 := by simp only [lv] <;> omega
      rw [hl] at hb
      rw [hl]
      have hE : mkT tb x k = IntKind.u8.wrap (k) := by first | rfl | (simp [mkT, lv]; try omega)
      have f0 : IntKind.i64.wrap (k + 1) = k + 1 := wrap_in (by omega) (by omega)
      rw [hE]
      simp only [hd, hd0, hw, cond_true, Int.toNat_natCast, hx, obind_some, List.length_set, List.getElem?_set_self hi, List.set_set, f0]) (fun k L => by simp) h.1 h.2 hk (by rw [hc]; exact hb), hc]
  rfl

theorem mark_PacketInFlightS {l : den (.sl tPacketInFlight)} {k : Int} (h : SmB 4611686018427387904 (.sl tPacketInFlight) l) (hk : 0 ≤ k) (hb : k + ((lv (.sl tPacketInFlight) l : Nat) : Int) ≤ 4611686018427387904) : l_markPacketInFlightS l k = some (k + ((lv (.sl tPacketInFlight) l : Nat) : Int), mkT (.sl tPacketInFlight) l k) := by
  have hc := cntAll_sum (lv tPacketInFlight) l
  have hc : k + ((cntAll (lv tPacketInFlight) l : Nat) : Int) = k + ((lv (.sl tPacketInFlight) l : Nat) : Int) := by rw [hc]; rfl
  unfold l_markPacketInFlightS
  rw [mark0 (cE := lv tPacketInFlight) (mE := mkT tPacketInFlight) (SmB 4611686018427387904 tPacketInFlight) (fun k i L x hx hi hN hk hb hp => by
      have hd : decide ((i : Int) < (L.length : Int)) = true := by simpa using hi
      have hd0 : decide ((0 : Int) ≤ (i : Int)) = true := by simp
      have hw : IntKind.i64.wrap ((i : Int) + 1) = ((i + 1 : Nat) : Int) := by rw [wrap_in (by omega) (by omega)]; omega
      have hl : k + ((lv tPacketInFlight x : Nat) : Int) = k + 1 + 1 + 1 + 1 + 1 + ((lv (.sl tPathPart) x.2.2.2.2.2.1 : Nat) : Int) + 1 + 1 + 1 + 1 + 1 + ((lv (.sl tb) x.2.2.2.2.2.2.2.2.2.2.2 : Nat) : Int) := by simp only [lv] <;> omega
      rw [hl] at hb
      rw [hl]
      have hE : mkT tPacketInFlight x k = (k, k + 1, (k + 1 + 1, k + 1 + 1 + 1, k + 1 + 1 + 1 + 1, mkT (.sl tPathPart) x.2.2.2.2.2.1 (k + 1 + 1 + 1 + 1 + 1), k + 1 + 1 + 1 + 1 + 1 + ((lv (.sl tPathPart) x.2.2.2.2.2.1 : Nat) : Int), k + 1 + 1 + 1 + 1 + 1 + ((lv (.sl tPathPart) x.2.2.2.2.2.1 : Nat) : Int) + 1, k + 1 + 1 + 1 + 1 + 1 + ((lv (.sl tPathPart) x.2.2.2.2.2.1 : Nat) : Int) + 1 + 1, k + 1 + 1 + 1 + 1 + 1 + ((lv (.sl tPathPart) x.2.2.2.2.2.1 : Nat) : Int) + 1 + 1 + 1, k + 1 + 1 + 1 + 1 + 1 + ((lv (.sl tPathPart) x.2.2.2.2.2.1 : Nat) : Int) + 1 + 1 + 1 + 1, mkT (.sl tb) x.2.2.2.2.2.2.2.2.2.2.2 (k + 1 + 1 + 1 + 1 + 1 + ((lv (.sl tPathPart) x.2.2.2.2.2.1 : Nat) : Int) + 1 + 1 + 1 + 1 + 1))) := by first | rfl | (simp [mkT, lv]; try omega)
      have f0 : IntKind.i64.wrap (k + 1) = k + 1 := wrap_in (by omega) (by omega)
      have f1 : IntKind.i64.wrap (k + 1 + 1) = k + 1 + 1 := wrap_in (by omega) (by omega)
      have f2 : IntKind.i64.wrap (k + 1 + 1 + 1) = k + 1 + 1 + 1 := wrap_in (by omega) (by omega)
      have f3 : IntKind.i64.wrap (k + 1 + 1 + 1 + 1) = k + 1 + 1 + 1 + 1 := wrap_in (by omega) (by omega)
      have f4 : IntKind.i64.wrap (k + 1 + 1 + 1 + 1 + 1) = k + 1 + 1 + 1 + 1 + 1 := wrap_in (by omega) (by omega)
      have f5 := mark_PathPartS (l := x.2.2.2.2.2.1) (k := k + 1 + 1 + 1 + 1 + 1) hp.2.2.2.2.2.1 (by omega) (by omega)
      have f6 : IntKind.i64.wrap (k + 1 + 1 + 1 + 1 + 1 + ((lv (.sl tPathPart) x.2.2.2.2.2.1 : Nat) : Int) + 1) = k + 1 + 1 + 1 + 1 + 1 + ((lv (.sl tPathPart) x.2.2.2.2.2.1 : Nat) : Int) + 1 := wrap_in (by omega) (by omega)
      have f7 : IntKind.i64.wrap (k + 1 + 1 + 1 + 1 + 1 + ((lv (.sl tPathPart) x.2.2.2.2.2.1 : Nat) : Int) + 1 + 1) = k + 1 + 1 + 1 + 1 + 1 + ((lv (.sl tPathPart) x.2.2.2.2.2.1 : Nat) : Int) + 1 + 1 := wrap_in (by omega) (by omega)
      have f8 : IntKind.i64.wrap (k + 1 + 1 + 1 + 1 + 1 + ((lv (.sl tPathPart) x.2.2.2.2.2.1 : Nat) : Int) + 1 + 1 + 1) = k + 1 + 1 + 1 + 1 + 1 + ((lv (.sl tPathPart) x.2.2.2.2.2.1 : Nat) : Int) + 1 + 1 + 1 := wrap_in (by omega) (by omega)
      have f9 : IntKind.i64.wrap (k + 1 + 1 + 1 + 1 + 1 + ((lv (.sl tPathPart) x.2.2.2.2.2.1 : Nat) : Int) + 1 + 1 + 1 + 1) = k + 1 + 1 + 1 + 1 + 1 + ((lv (.sl tPathPart) x.2.2.2.2.2.1 : Nat) : Int) + 1 + 1 + 1 + 1 := wrap_in (by omega) (by omega)
      have f10 : IntKind.i64.wrap (k + 1 + 1 + 1 + 1 + 1 + ((lv (.sl tPathPart) x.2.2.2.2.2.1 : Nat) : Int) + 1 + 1 + 1 + 1 + 1) = k + 1 + 1 + 1 + 1 + 1 + ((lv (.sl tPathPart) x.2.2.2.2.2.1 : Nat) : Int) + 1 + 1 + 1 + 1 + 1 := wrap_in (by omega) (by omega)
      have f11 := mark_ByteS (l := x.2.2.2.2.2.2.2.2.2.2.2) (k := k + 1 + 1 + 1 + 1 + 1 + ((lv (.sl tPathPart) x.2.2.2.2.2.1 : Nat) : Int) + 1 + 1 + 1 + 1 + 1) hp.2.2.2.2.2.2.2.2.2.2.2 (by omega) (by omega)
      rw [hE]
      simp only [hd, hd0, hw, cond_true, Int.toNat_natCast, hx, obind_some, List.length_set, List.getElem?_set_self hi, List.set_set, f0, f1, f2, f3, f4, f5, f6, f7, f8, f9, f10, f11]) (fun k L => by simp) h.1 h.2 hk (by rw [hc]; exact hb), hc]
  rfl

theorem mark_MessageS {l : den (.sl tMessage)} {k : Int} (h : SmB 4611686018427387904 (.sl tMessage) l) (hk : 0 ≤ k) (hb : k + ((lv (.sl tMessage) l : Nat) : Int) ≤ 4611686018427387904) : l_markMessageS l k = some (k + ((lv (.sl tMessage) l : Nat) : Int), mkT (.sl tMessage) l k) := by
  have hc := cntAll_sum (lv tMessage) l
  have hc : k + ((cntAll (lv tMessage) l : Nat) : Int) = k + ((lv (.sl tMessage) l : Nat) : Int) := by rw [hc]; rfl
  unfold l_markMessageS
  rw [mark0 (cE := lv tMessage) (mE := mkT tMessage) (SmB 4611686018427387904 tMessage) (fun k i L x hx hi hN hk hb hp => by
      have hd : decide ((i : Int) < (L.length : Int)) = true := by simpa using hi
      have hd0 : decide ((0 : Int) ≤ (i : Int)) = true := by simp
      have hw : IntKind.i64.wrap ((i : Int) + 1) = ((i + 1 : Nat) : Int) := by rw [wrap_in (by omega) (by omega)]; omega
      have hl : k + ((lv tMessage x : Nat) : Int) = k + ((lv (.sl tb) x : Nat) : Int) := by simp only [lv] <;> omega
      rw [hl] at hb
      rw [hl]
      have hE : mkT tMessage x k = mkT (.sl tb) x (k) := by first | rfl | (simp [mkT, lv]; try omega)
      have f0 := mark_ByteS (l := x) (k := k) hp (by omega) (by omega)
      rw [hE]
      simp only [hd, hd0, hw, cond_true, Int.toNat_natCast, hx, obind_some, List.length_set, List.getElem?_set_self hi, List.set_set, f0]) (fun k L => by simp) h.1 h.2 hk (by rw [hc]; exact hb), hc]
  rfl

theorem mark_PathS {l : den (.sl tPath)} {k : Int} (h : SmB 4611686018427387904 (.sl tPath) l) (hk : 0 ≤ k) (hb : k + ((lv (.sl tPath) l : Nat) : Int) ≤ 4611686018427387904) : l_markPathS l k = some (k + ((lv (.sl tPath) l : Nat) : Int), mkT (.sl tPath) l k) := by
  have hc := cntAll_sum (lv tPath) l
  have hc : k + ((cntAll (lv tPath) l : Nat) : Int) = k + ((lv (.sl tPath) l : Nat) : Int) := by rw [hc]; rfl
  unfold l_markPathS
  rw [mark0 (cE := lv tPath) (mE := mkT tPath) (SmB 4611686018427387904 tPath) (fun k i L x hx hi hN hk hb hp => by
      have hd : decide ((i : Int) < (L.length : Int)) = true := by simpa using hi
      have hd0 : decide ((0 : Int) ≤ (i : Int)) = true := by simp
      have hw : IntKind.i64.wrap ((i : Int) + 1) = ((i + 1 : Nat) : Int) := by rw [wrap_in (by omega) (by omega)]; omega
      have hl : k + ((lv tPath x : Nat) : Int) = k + ((lv (.sl tPathPart) x : Nat) : Int) := by simp only [lv] <;> omega
      rw [hl] at hb
      rw [hl]
      have hE : mkT tPath x k = mkT (.sl tPathPart) x (k) := by first | rfl | (simp [mkT, lv]; try omega)
      have f0 := mark_PathPartS (l := x) (k := k) hp (by omega) (by omega)
      rw [hE]
      simp only [hd, hd0, hw, cond_true, Int.toNat_natCast, hx, obind_some, List.length_set, List.getElem?_set_self hi, List.set_set, f0]) (fun k L => by simp) h.1 h.2 hk (by rw [hc]; exact hb), hc]
  rfl

theorem mark_RevocationS {l : den (.sl tRevocation)} {k : Int} (h : SmB 4611686018427387904 (.sl tRevocation) l) (hk : 0 ≤ k) (hb : k + ((lv (.sl tRevocation) l : Nat) : Int) ≤ 4611686018427387904) : l_markRevocationS l k = some (k + ((lv (.sl tRevocation) l : Nat) : Int), mkT (.sl tRevocation) l k) := by
  have hc := cntAll_sum (lv tRevocation) l
  have hc : k + ((cntAll (lv tRevocation) l : Nat) : Int) = k + ((lv (.sl tRevocation) l : Nat) : Int) := by rw [hc]; rfl
  unfold l_markRevocationS
  rw [mark0 (cE := lv tRevocation) (mE := mkT tRevocation) (SmB 4611686018427387904 tRevocation) (fun k i L x hx hi hN hk hb hp => by
      have hd : decide ((i : Int) < (L.length : Int)) = true := by simpa using hi
      have hd0 : decide ((0 : Int) ≤ (i : Int)) = true := by simp
      have hw : IntKind.i64.wrap ((i : Int) + 1) = ((i + 1 : Nat) : Int) := by rw [wrap_in (by omega) (by omega)]; omega
      have hl : k + ((lv tRevocation x : Nat) : Int) = k + 1 + 1 + 1 := by simp only [lv] <;> omega
      rw [hl] at hb
      rw [hl]
      have hE : mkT tRevocation x k = (k, k + 1, k + 1 + 1) := by first | rfl | (simp [mkT, lv]; try omega)
      have f0 : IntKind.i64.wrap (k + 1) = k + 1 := wrap_in (by omega) (by omega)
      have f1 : IntKind.i64.wrap (k + 1 + 1) = k + 1 + 1 := wrap_in (by omega) (by omega)
      have f2 : IntKind.i64.wrap (k + 1 + 1 + 1) = k + 1 + 1 + 1 := wrap_in (by omega) (by omega)
      rw [hE]
      simp only [hd, hd0, hw, cond_true, Int.toNat_natCast, hx, obind_some, List.length_set, List.getElem?_set_self hi, List.set_set, f0, f1, f2]) (fun k L => by simp) h.1 h.2 hk (by rw [hc]; exact hb), hc]
  rfl

theorem mark_FlowS {l : den (.sl tFlow)} {k : Int} (h : SmB 4611686018427387904 (.sl tFlow) l) (hk : 0 ≤ k) (hb : k + ((lv (.sl tFlow) l : Nat) : Int) ≤ 4611686018427387904) : l_markFlowS l k = some (k + ((lv (.sl tFlow) l : Nat) : Int), mkT (.sl tFlow) l k) := by
  have hc := cntAll_sum (lv tFlow) l
  have hc : k + ((cntAll (lv tFlow) l : Nat) : Int) = k + ((lv (.sl tFlow) l : Nat) : Int) := by rw [hc]; rfl
  unfold l_markFlowS
  rw [mark0 (cE := lv tFlow) (mE := mkT tFlow) (SmB 4611686018427387904 tFlow) (fun k i L x hx hi hN hk hb hp => by
      have hd : decide ((i : Int) < (L.length : Int)) = true := by simpa using hi
      have hd0 : decide ((0 : Int) ≤ (i : Int)) = true := by simp
      have hw : IntKind.i64.wrap ((i : Int) + 1) = ((i + 1 : Nat) : Int) := by rw [wrap_in (by omega) (by omega)]; omega
      have hl : k + ((lv tFlow x : Nat) : Int) = k + 1 + 1 + 1 + 1 + ((lv (.sl tMessage) x.2.2.2.2.1 : Nat) : Int) + ((lv (.sl tPath) x.2.2.2.2.2.1 : Nat) : Int) + 1 + 1 + ((lv (.sl tRevocation) x.2.2.2.2.2.2.2.2 : Nat) : Int) := by simp only [lv] <;> omega
      rw [hl] at hb
      rw [hl]
      have hE : mkT tFlow x k = (k, k + 1, k + 1 + 1, k + 1 + 1 + 1, mkT (.sl tMessage) x.2.2.2.2.1 (k + 1 + 1 + 1 + 1), mkT (.sl tPath) x.2.2.2.2.2.1 (k + 1 + 1 + 1 + 1 + ((lv (.sl tMessage) x.2.2.2.2.1 : Nat) : Int)), k + 1 + 1 + 1 + 1 + ((lv (.sl tMessage) x.2.2.2.2.1 : Nat) : Int) + ((lv (.sl tPath) x.2.2.2.2.2.1 : Nat) : Int), k + 1 + 1 + 1 + 1 + ((lv (.sl tMessage) x.2.2.2.2.1 : Nat) : Int) + ((lv (.sl tPath) x.2.2.2.2.2.1 : Nat) : Int) + 1, mkT (.sl tRevocation) x.2.2.2.2.2.2.2.2 (k + 1 + 1 + 1 + 1 + ((lv (.sl tMessage) x.2.2.2.2.1 : Nat) : Int) + ((lv (.sl tPath) x.2.2.2.2.2.1 : Nat) : Int) + 1 + 1)) := by first | rfl | (simp [mkT, lv]; try omega)
      have f0 : IntKind.i64.wrap (k + 1) = k + 1 := wrap_in (by omega) (by omega)
      have f1 : IntKind.i64.wrap (k + 1 + 1) = k + 1 + 1 := wrap_in (by omega) (by omega)
      have f2 : IntKind.i64.wrap (k + 1 + 1 + 1) = k + 1 + 1 + 1 := wrap_in (by omega) (by omega)
      have f3 : IntKind.i64.wrap (k + 1 + 1 + 1 + 1) = k + 1 + 1 + 1 + 1 := wrap_in (by omega) (by omega)
      have f4 := mark_MessageS (l := x.2.2.2.2.1) (k := k + 1 + 1 + 1 + 1) hp.2.2.2.2.1 (by omega) (by omega)
      have f5 := mark_PathS (l := x.2.2.2.2.2.1) (k := k + 1 + 1 + 1 + 1 + ((lv (.sl tMessage) x.2.2.2.2.1 : Nat) : Int)) hp.2.2.2.2.2.1 (by omega) (by omega)
      have f6 : IntKind.i64.wrap (k + 1 + 1 + 1 + 1 + ((lv (.sl tMessage) x.2.2.2.2.1 : Nat) : Int) + ((lv (.sl tPath) x.2.2.2.2.2.1 : Nat) : Int) + 1) = k + 1 + 1 + 1 + 1 + ((lv (.sl tMessage) x.2.2.2.2.1 : Nat) : Int) + ((lv (.sl tPath) x.2.2.2.2.2.1 : Nat) : Int) + 1 := wrap_in (by omega) (by omega)
      have f7 : IntKind.i64.wrap (k + 1 + 1 + 1 + 1 + ((lv (.sl tMessage) x.2.2.2.2.1 : Nat) : Int) + ((lv (.sl tPath) x.2.2.2.2.2.1 : Nat) : Int) + 1 + 1) = k + 1 + 1 + 1 + 1 + ((lv (.sl tMessage) x.2.2.2.2.1 : Nat) : Int) + ((lv (.sl tPath) x.2.2.2.2.2.1 : Nat) : Int) + 1 + 1 := wrap_in (by omega) (by omega)
      have f8 := mark_RevocationS (l := x.2.2.2.2.2.2.2.2) (k := k + 1 + 1 + 1 + 1 + ((lv (.sl tMessage) x.2.2.2.2.1 : Nat) : Int) + ((lv (.sl tPath) x.2.2.2.2.2.1 : Nat) : Int) + 1 + 1) hp.2.2.2.2.2.2.2.2 (by omega) (by omega)
      rw [hE]
      simp only [hd, hd0, hw, cond_true, Int.toNat_natCast, hx, obind_some, List.length_set, List.getElem?_set_self hi, List.set_set, f0, f1, f2, f3, f4, f5, f6, f7, f8]) (fun k L => by simp) h.1 h.2 hk (by rw [hc]; exact hb), hc]
  rfl

theorem mark_InboxS {l : den (.sl tInbox)} {k : Int} (h : SmB 4611686018427387904 (.sl tInbox) l) (hk : 0 ≤ k) (hb : k + ((lv (.sl tInbox) l : Nat) : Int) ≤ 4611686018427387904) : l_markInboxS l k = some (k + ((lv (.sl tInbox) l : Nat) : Int), mkT (.sl tInbox) l k) := by
  have hc := cntAll_sum (lv tInbox) l
  have hc : k + ((cntAll (lv tInbox) l : Nat) : Int) = k + ((lv (.sl tInbox) l : Nat) : Int) := by rw [hc]; rfl
  unfold l_markInboxS
  rw [mark0 (cE := lv tInbox) (mE := mkT tInbox) (SmB 4611686018427387904 tInbox) (fun k i L x hx hi hN hk hb hp => by
      have hd : decide ((i : Int) < (L.length : Int)) = true := by simpa using hi
      have hd0 : decide ((0 : Int) ≤ (i : Int)) = true := by simp
      have hw : IntKind.i64.wrap ((i : Int) + 1) = ((i + 1 : Nat) : Int) := by rw [wrap_in (by omega) (by omega)]; omega
      have hl : k + ((lv tInbox x : Nat) : Int) = k + 1 + 1 + 1 + ((lv (.sl tMessage) x.2.2.2 : Nat) : Int) := by simp only [lv] <;> omega
      rw [hl] at hb
      rw [hl]
      have hE : mkT tInbox x k = (k, k + 1, k + 1 + 1, mkT (.sl tMessage) x.2.2.2 (k + 1 + 1 + 1)) := by first | rfl | (simp [mkT, lv]; try omega)
      have f0 : IntKind.i64.wrap (k + 1) = k + 1 := wrap_in (by omega) (by omega)
      have f1 : IntKind.i64.wrap (k + 1 + 1) = k + 1 + 1 := wrap_in (by omega) (by omega)
      have f2 : IntKind.i64.wrap (k + 1 + 1 + 1) = k + 1 + 1 + 1 := wrap_in (by omega) (by omega)
      have f3 := mark_MessageS (l := x.2.2.2) (k := k + 1 + 1 + 1) hp.2.2.2 (by omega) (by omega)
      rw [hE]
      simp only [hd, hd0, hw, cond_true, Int.toNat_natCast, hx, obind_some, List.length_set, List.getElem?_set_self hi, List.set_set, f0, f1, f2, f3]) (fun k L => by simp) h.1 h.2 hk (by rw [hc]; exact hb), hc]
  rfl

theorem mark_Network {x : den tNetwork} {k : Int} (h : SmB 4611686018427387904 tNetwork x) (hk : 0 ≤ k) (hb : k + ((lv (.sl tAS) x.1.1 : Nat) : Int) + ((lv (.sl tLink) x.1.2 : Nat) : Int) + ((lv (.sl tSegment) x.2.1.1 : Nat) : Int) + ((lv (.sl tSegment) x.2.1.2 : Nat) : Int) + ((lv (.sl tReservation) x.2.2.1.2.1 : Nat) : Int) + ((lv (.sl tUsage) x.2.2.1.2.2 : Nat) : Int) + ((lv (.sl ti) x.2.2.2.2.1 : Nat) : Int) + ((lv (.sl tPacketInFlight) x.2.2.2.2.2.1 : Nat) : Int) + ((lv (.sl tFlow) x.2.2.2.2.2.2.1 : Nat) : Int) + ((lv (.sl tInbox) x.2.2.2.2.2.2.2.1 : Nat) : Int) ≤ 4611686018427387904) : l_markNetwork x k = some (k + ((lv (.sl tAS) x.1.1 : Nat) : Int) + ((lv (.sl tLink) x.1.2 : Nat) : Int) + ((lv (.sl tSegment) x.2.1.1 : Nat) : Int) + ((lv (.sl tSegment) x.2.1.2 : Nat) : Int) + ((lv (.sl tReservation) x.2.2.1.2.1 : Nat) : Int) + ((lv (.sl tUsage) x.2.2.1.2.2 : Nat) : Int) + ((lv (.sl ti) x.2.2.2.2.1 : Nat) : Int) + ((lv (.sl tPacketInFlight) x.2.2.2.2.2.1 : Nat) : Int) + ((lv (.sl tFlow) x.2.2.2.2.2.2.1 : Nat) : Int) + ((lv (.sl tInbox) x.2.2.2.2.2.2.2.1 : Nat) : Int), mkT (.sl tAS) x.1.1 (k), mkT (.sl tLink) x.1.2 (k + ((lv (.sl tAS) x.1.1 : Nat) : Int)), mkT (.sl tSegment) x.2.1.1 (k + ((lv (.sl tAS) x.1.1 : Nat) : Int) + ((lv (.sl tLink) x.1.2 : Nat) : Int)), mkT (.sl tSegment) x.2.1.2 (k + ((lv (.sl tAS) x.1.1 : Nat) : Int) + ((lv (.sl tLink) x.1.2 : Nat) : Int) + ((lv (.sl tSegment) x.2.1.1 : Nat) : Int)), mkT (.sl tReservation) x.2.2.1.2.1 (k + ((lv (.sl tAS) x.1.1 : Nat) : Int) + ((lv (.sl tLink) x.1.2 : Nat) : Int) + ((lv (.sl tSegment) x.2.1.1 : Nat) : Int) + ((lv (.sl tSegment) x.2.1.2 : Nat) : Int)), mkT (.sl tUsage) x.2.2.1.2.2 (k + ((lv (.sl tAS) x.1.1 : Nat) : Int) + ((lv (.sl tLink) x.1.2 : Nat) : Int) + ((lv (.sl tSegment) x.2.1.1 : Nat) : Int) + ((lv (.sl tSegment) x.2.1.2 : Nat) : Int) + ((lv (.sl tReservation) x.2.2.1.2.1 : Nat) : Int)), mkT (.sl ti) x.2.2.2.2.1 (k + ((lv (.sl tAS) x.1.1 : Nat) : Int) + ((lv (.sl tLink) x.1.2 : Nat) : Int) + ((lv (.sl tSegment) x.2.1.1 : Nat) : Int) + ((lv (.sl tSegment) x.2.1.2 : Nat) : Int) + ((lv (.sl tReservation) x.2.2.1.2.1 : Nat) : Int) + ((lv (.sl tUsage) x.2.2.1.2.2 : Nat) : Int)), mkT (.sl tPacketInFlight) x.2.2.2.2.2.1 (k + ((lv (.sl tAS) x.1.1 : Nat) : Int) + ((lv (.sl tLink) x.1.2 : Nat) : Int) + ((lv (.sl tSegment) x.2.1.1 : Nat) : Int) + ((lv (.sl tSegment) x.2.1.2 : Nat) : Int) + ((lv (.sl tReservation) x.2.2.1.2.1 : Nat) : Int) + ((lv (.sl tUsage) x.2.2.1.2.2 : Nat) : Int) + ((lv (.sl ti) x.2.2.2.2.1 : Nat) : Int)), mkT (.sl tFlow) x.2.2.2.2.2.2.1 (k + ((lv (.sl tAS) x.1.1 : Nat) : Int) + ((lv (.sl tLink) x.1.2 : Nat) : Int) + ((lv (.sl tSegment) x.2.1.1 : Nat) : Int) + ((lv (.sl tSegment) x.2.1.2 : Nat) : Int) + ((lv (.sl tReservation) x.2.2.1.2.1 : Nat) : Int) + ((lv (.sl tUsage) x.2.2.1.2.2 : Nat) : Int) + ((lv (.sl ti) x.2.2.2.2.1 : Nat) : Int) + ((lv (.sl tPacketInFlight) x.2.2.2.2.2.1 : Nat) : Int)), mkT (.sl tInbox) x.2.2.2.2.2.2.2.1 (k + ((lv (.sl tAS) x.1.1 : Nat) : Int) + ((lv (.sl tLink) x.1.2 : Nat) : Int) + ((lv (.sl tSegment) x.2.1.1 : Nat) : Int) + ((lv (.sl tSegment) x.2.1.2 : Nat) : Int) + ((lv (.sl tReservation) x.2.2.1.2.1 : Nat) : Int) + ((lv (.sl tUsage) x.2.2.1.2.2 : Nat) : Int) + ((lv (.sl ti) x.2.2.2.2.1 : Nat) : Int) + ((lv (.sl tPacketInFlight) x.2.2.2.2.2.1 : Nat) : Int) + ((lv (.sl tFlow) x.2.2.2.2.2.2.1 : Nat) : Int))) := by
  have q0 := mark_Topology (x := x.1) (k := k) h.1 (by omega) (by omega)
  have q1 := mark_SegmentDatabase (x := x.2.1) (k := k + ((lv (.sl tAS) x.1.1 : Nat) : Int) + ((lv (.sl tLink) x.1.2 : Nat) : Int)) h.2.1 (by omega) (by omega)
  have q2 := mark_Scheduler (x := x.2.2.1) (k := k + ((lv (.sl tAS) x.1.1 : Nat) : Int) + ((lv (.sl tLink) x.1.2 : Nat) : Int) + ((lv (.sl tSegment) x.2.1.1 : Nat) : Int) + ((lv (.sl tSegment) x.2.1.2 : Nat) : Int)) h.2.2.1 (by omega) (by omega)
  have q3 := mark_IntS (l := x.2.2.2.2.1) (k := k + ((lv (.sl tAS) x.1.1 : Nat) : Int) + ((lv (.sl tLink) x.1.2 : Nat) : Int) + ((lv (.sl tSegment) x.2.1.1 : Nat) : Int) + ((lv (.sl tSegment) x.2.1.2 : Nat) : Int) + ((lv (.sl tReservation) x.2.2.1.2.1 : Nat) : Int) + ((lv (.sl tUsage) x.2.2.1.2.2 : Nat) : Int)) h.2.2.2.2.1 (by omega) (by omega)
  have q4 := mark_PacketInFlightS (l := x.2.2.2.2.2.1) (k := k + ((lv (.sl tAS) x.1.1 : Nat) : Int) + ((lv (.sl tLink) x.1.2 : Nat) : Int) + ((lv (.sl tSegment) x.2.1.1 : Nat) : Int) + ((lv (.sl tSegment) x.2.1.2 : Nat) : Int) + ((lv (.sl tReservation) x.2.2.1.2.1 : Nat) : Int) + ((lv (.sl tUsage) x.2.2.1.2.2 : Nat) : Int) + ((lv (.sl ti) x.2.2.2.2.1 : Nat) : Int)) h.2.2.2.2.2.1 (by omega) (by omega)
  have q5 := mark_FlowS (l := x.2.2.2.2.2.2.1) (k := k + ((lv (.sl tAS) x.1.1 : Nat) : Int) + ((lv (.sl tLink) x.1.2 : Nat) : Int) + ((lv (.sl tSegment) x.2.1.1 : Nat) : Int) + ((lv (.sl tSegment) x.2.1.2 : Nat) : Int) + ((lv (.sl tReservation) x.2.2.1.2.1 : Nat) : Int) + ((lv (.sl tUsage) x.2.2.1.2.2 : Nat) : Int) + ((lv (.sl ti) x.2.2.2.2.1 : Nat) : Int) + ((lv (.sl tPacketInFlight) x.2.2.2.2.2.1 : Nat) : Int)) h.2.2.2.2.2.2.1 (by omega) (by omega)
  have q6 := mark_InboxS (l := x.2.2.2.2.2.2.2.1) (k := k + ((lv (.sl tAS) x.1.1 : Nat) : Int) + ((lv (.sl tLink) x.1.2 : Nat) : Int) + ((lv (.sl tSegment) x.2.1.1 : Nat) : Int) + ((lv (.sl tSegment) x.2.1.2 : Nat) : Int) + ((lv (.sl tReservation) x.2.2.1.2.1 : Nat) : Int) + ((lv (.sl tUsage) x.2.2.1.2.2 : Nat) : Int) + ((lv (.sl ti) x.2.2.2.2.1 : Nat) : Int) + ((lv (.sl tPacketInFlight) x.2.2.2.2.2.1 : Nat) : Int) + ((lv (.sl tFlow) x.2.2.2.2.2.2.1 : Nat) : Int)) h.2.2.2.2.2.2.2.1 (by omega) (by omega)
  unfold l_markNetwork
  simp only [q0, q1, q2, q3, q4, q5, q6, obind_some, peta]

theorem held_IntS {l : den (.sl ti)} {k : Int} (h : SmB 4611686018427387904 (.sl ti) l) (hk : 0 ≤ k) (hb : k + ((lv (.sl ti) l : Nat) : Int) ≤ 4611686018427387904) : l_heldIntS (mkT (.sl ti) l k) k = some (k + ((lv (.sl ti) l : Nat) : Int)) := by
  have hc := cntAll_sum (lv ti) l
  have hc : k + ((cntAll (lv ti) l : Nat) : Int) = k + ((lv (.sl ti) l : Nat) : Int) := by rw [hc]; rfl
  unfold l_heldIntS
  have := held0 (cE := lv ti) (mE := mkT ti) (SmB 4611686018427387904 ti) (fun (a_a : List Int) => fun (s3 : Int × Int) => cond (decide (s3.2 < (a_a.length : Int))) (Option.bind (idx a_a s3.2) fun x4 => cond (x4 != s3.1) (some (Sum.inr (Sum.inr (-1 : Int)))) (some (Sum.inl (wr (s3.1 + (1 : Int)), wr (s3.2 + (1 : Int)))))) (some (Sum.inr (Sum.inl s3.1)))) (l := l) (k := k) (fun k i L x hx hi hN hk hb hp => by
      have hd : decide ((i : Int) < (L.length : Int)) = true := by simpa using hi
      have hd0 : decide ((0 : Int) ≤ (i : Int)) = true := by simp
      have hw : IntKind.i64.wrap ((i : Int) + 1) = ((i + 1 : Nat) : Int) := by rw [wrap_in (by omega) (by omega)]; omega
      have hl : k + ((lv ti x : Nat) : Int) = k + 1 := by simp only [lv] <;> omega
      rw [hl] at hb
      rw [hl]
      have hE : mkT ti x k = k := by first | rfl | (simp [mkT, lv]; try omega)
      have f0 : IntKind.i64.wrap (k + 1) = k + 1 := wrap_in (by omega) (by omega)
      rw [hE] at hx
      have hi2 : idx L (i : Int) = some k := by rw [idx_nat]; exact hx
      simp only [hd, hw, hi2, cond_true, obind_some, bne_self_eq_false, cond_false, f0]) (fun k L => by simp) h.1 h.2 hk (by rw [hc]; exact hb)
  rw [hc] at this
  show Option.bind (loopM _ (k, (0 : Int))) _ = _
  rw [show (mkT (.sl ti) l k) = markAll (lv ti) (mkT ti) l k from rfl, this]
  rfl

theorem flows_tot {w : den tNetwork} (h : tot tNetwork w ≤ 1048576) : tot (.sl tFlow) w.2.2.2.2.2.2.1 ≤ 1048576 := tot_l (tot_r (tot_r (tot_r (tot_r (tot_r (tot_r h))))))

def cntW (w : den tNetwork) : List Int := [w.2.2.2.1, (w.2.2.2.2.2.1.length : Int), w.2.2.2.2.2.2.2.2, (w.2.2.2.2.1.length : Int)] ++ w.2.2.2.2.2.2.1.map fun f => f.2.2.2.1

theorem cnt_tot {w : den tNetwork} (h : tot tNetwork w ≤ 1048576) : tot (.sl ti) (cntW w) ≤ 68719476736 := by
  have hf := flows_tot h
  have hl := tot_len (t := tFlow) w.2.2.2.2.2.2.1
  have : ∀ l : List Int, tot (.sl ti) l = l.length := fun l => by simp [tot, sum_nil]
  rw [this]
  simp [cntW]
  omega

theorem i_cnt {w : den tNetwork} (h : tot tNetwork w ≤ 1048576) : i_Counters w = some (cntW w) := by
  have hf := flows_tot h
  have hl := tot_len (t := tFlow) w.2.2.2.2.2.2.1
  unfold i_Counters cntW
  rw [loopG (fun k (a : List Int) => ((k : Int), a)) ((0 : Int), [w.2.2.2.1, (w.2.2.2.2.2.1.length : Int), w.2.2.2.2.2.2.2.2, (w.2.2.2.2.1.length : Int)]) [w.2.2.2.1, (w.2.2.2.2.2.1.length : Int), w.2.2.2.2.2.2.2.2, (w.2.2.2.2.1.length : Int)] w.2.2.2.2.2.2.1 (fun _ x a => a ++ [x.2.2.2.1]) List.length (fun _ => 1) 68719476736 id rfl (by omega) (by rw [sum_one]; simp; omega) (fun k x a => by simp) (fun k x a hi hx hd hw hk hb => by
    simp only [hd, hi, hw, cond_true, obind_some, peta, apOk_le (b := 8) (by decide) hb]) (fun a => by simp), foldI_map (fun f : den tFlow => f.2.2.2.1)]
  rfl

theorem s_cnt {w : den tNetwork} (h : tot tNetwork w ≤ 1048576) : s_Counters w = some (cntW w) := i_cnt h

end Go.Proofs.YtmnjhbhppkploaaGreat
