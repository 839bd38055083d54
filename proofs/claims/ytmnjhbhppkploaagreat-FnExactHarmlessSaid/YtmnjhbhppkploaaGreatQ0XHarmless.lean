/-
  Facts and plain laws: what the functions compute, in plain words. Conditions: as each says.
-/
import Derived.Test.YtmnjhbhppkploaaGreatT0XHarmless
set_option linter.unusedVariables false
set_option linter.unusedSimpArgs false
set_option maxRecDepth 100000
namespace Go.Proofs.YtmnjhbhppkploaaGreat
open Go.Ab Go.V
theorem sz_ASS {l : den (.sl tAS)} {left : Int} (w : Wf (.sl tAS) l) (h0 : 0 ≤ left) (h1 : left ≤ 1048576) : SzT (l_szASS l left) left (tot (.sl tAS) l) := szF_ok (t := tAS) rfl w.1 h0 h1

theorem sz_LinkS {l : den (.sl tLink)} {left : Int} (w : Wf (.sl tLink) l) (h0 : 0 ≤ left) (h1 : left ≤ 1048576) : SzT (l_szLinkS l left) left (tot (.sl tLink) l) := szF_ok (t := tLink) rfl w.1 h0 h1

theorem sz_Topology {x : den tTopology} {left : Int} (w : Wf tTopology x) (h0 : 0 ≤ left) (h1 : left ≤ 1048576) : SzT (l_szTopology x left) left (tot tTopology x) := SzT.eq (sz_field (sz_ASS w.1 h0 h1) h1 fun r0 a0 b0 => sz_field (sz_LinkS w.2 a0 b0) b0 fun r1 a1 b1 => sz_done a1) (by simp [tot, tot_flat] <;> omega)

theorem sz_HopS {l : den (.sl tHop)} {left : Int} (w : Wf (.sl tHop) l) (h0 : 0 ≤ left) (h1 : left ≤ 1048576) : SzT (l_szHopS l left) left (tot (.sl tHop) l) := szF_ok (t := tHop) rfl w.1 h0 h1

theorem sz_Segment {x : den tSegment} {left : Int} (w : Wf tSegment x) (h0 : 0 ≤ left) (h1 : left ≤ 1048576) : SzT (l_szSegment x left) left (tot tSegment x) := SzT.eq (sz_field (sz_HopS w.2.2 h0 h1) h1 fun r0 a0 b0 => sz_done a0) (by simp [tot, tot_flat])

theorem sz_SegmentS {l : den (.sl tSegment)} {left : Int} (w : Wf (.sl tSegment) l) (h0 : 0 ≤ left) (h1 : left ≤ 1048576) : SzT (l_szSegmentS l left) left (tot (.sl tSegment) l) := szL_ok (t := tSegment) (szE := l_szSegment) w.1 h0 h1 fun x hx k k0 k1 => sz_Segment (w.2 x hx) k0 k1

theorem sz_SegmentDatabase {x : den tSegmentDatabase} {left : Int} (w : Wf tSegmentDatabase x) (h0 : 0 ≤ left) (h1 : left ≤ 1048576) : SzT (l_szSegmentDatabase x left) left (tot tSegmentDatabase x) := SzT.eq (sz_field (sz_SegmentS w.1 h0 h1) h1 fun r0 a0 b0 => sz_field (sz_SegmentS w.2 a0 b0) b0 fun r1 a1 b1 => sz_done a1) (by simp [tot, tot_flat] <;> omega)

theorem sz_ReservationS {l : den (.sl tReservation)} {left : Int} (w : Wf (.sl tReservation) l) (h0 : 0 ≤ left) (h1 : left ≤ 1048576) : SzT (l_szReservationS l left) left (tot (.sl tReservation) l) := szF_ok (t := tReservation) rfl w.1 h0 h1

theorem sz_UsageS {l : den (.sl tUsage)} {left : Int} (w : Wf (.sl tUsage) l) (h0 : 0 ≤ left) (h1 : left ≤ 1048576) : SzT (l_szUsageS l left) left (tot (.sl tUsage) l) := szF_ok (t := tUsage) rfl w.1 h0 h1

theorem sz_Scheduler {x : den tScheduler} {left : Int} (w : Wf tScheduler x) (h0 : 0 ≤ left) (h1 : left ≤ 1048576) : SzT (l_szScheduler x left) left (tot tScheduler x) := SzT.eq (sz_field (sz_ReservationS w.2.1 h0 h1) h1 fun r0 a0 b0 => sz_field (sz_UsageS w.2.2 a0 b0) b0 fun r1 a1 b1 => sz_done a1) (by simp [tot, tot_flat] <;> omega)

theorem sz_IntS {l : den (.sl ti)} {left : Int} (w : Wf (.sl ti) l) (h0 : 0 ≤ left) (h1 : left ≤ 1048576) : SzT (l_szIntS l left) left (tot (.sl ti) l) := szF_ok (t := ti) rfl w.1 h0 h1

theorem sz_PathPart {x : den tPathPart} {left : Int} (w : Wf tPathPart x) (h0 : 0 ≤ left) (h1 : left ≤ 1048576) : SzT (l_szPathPart x left) left (tot tPathPart x) := SzT.eq (sz_field (sz_HopS w.2.2.2 h0 h1) h1 fun r0 a0 b0 => sz_done a0) (by simp [tot, tot_flat])

theorem sz_PathPartS {l : den (.sl tPathPart)} {left : Int} (w : Wf (.sl tPathPart) l) (h0 : 0 ≤ left) (h1 : left ≤ 1048576) : SzT (l_szPathPartS l left) left (tot (.sl tPathPart) l) := szL_ok (t := tPathPart) (szE := l_szPathPart) w.1 h0 h1 fun x hx k k0 k1 => sz_PathPart (w.2 x hx) k0 k1

theorem sz_Path {x : den tPath} {left : Int} (w : Wf tPath x) (h0 : 0 ≤ left) (h1 : left ≤ 1048576) : SzT (l_szPath x left) left (tot tPath x) := SzT.eq (sz_field (sz_PathPartS w h0 h1) h1 fun r0 a0 b0 => sz_done a0) (by simp [tot, tot_flat])

theorem sz_ByteS {l : den (.sl tb)} {left : Int} (w : Wf (.sl tb) l) (h0 : 0 ≤ left) (h1 : left ≤ 1048576) : SzT (l_szByteS l left) left (tot (.sl tb) l) := szF_ok (t := tb) rfl w.1 h0 h1

theorem sz_Packet {x : den tPacket} {left : Int} (w : Wf tPacket x) (h0 : 0 ≤ left) (h1 : left ≤ 1048576) : SzT (l_szPacket x left) left (tot tPacket x) := SzT.eq (sz_field (sz_Path w.2.2.2.1 h0 h1) h1 fun r0 a0 b0 => sz_field (sz_ByteS w.2.2.2.2.2.2.2.2.2 a0 b0) b0 fun r1 a1 b1 => sz_done a1) (by simp [tot, tot_flat] <;> omega)

theorem sz_PacketInFlight {x : den tPacketInFlight} {left : Int} (w : Wf tPacketInFlight x) (h0 : 0 ≤ left) (h1 : left ≤ 1048576) : SzT (l_szPacketInFlight x left) left (tot tPacketInFlight x) := SzT.eq (sz_field (sz_Packet w.2.2 h0 h1) h1 fun r0 a0 b0 => sz_done a0) (by simp [tot, tot_flat])

theorem sz_PacketInFlightS {l : den (.sl tPacketInFlight)} {left : Int} (w : Wf (.sl tPacketInFlight) l) (h0 : 0 ≤ left) (h1 : left ≤ 1048576) : SzT (l_szPacketInFlightS l left) left (tot (.sl tPacketInFlight) l) := szL_ok (t := tPacketInFlight) (szE := l_szPacketInFlight) w.1 h0 h1 fun x hx k k0 k1 => sz_PacketInFlight (w.2 x hx) k0 k1

theorem sz_Message {x : den tMessage} {left : Int} (w : Wf tMessage x) (h0 : 0 ≤ left) (h1 : left ≤ 1048576) : SzT (l_szMessage x left) left (tot tMessage x) := SzT.eq (sz_field (sz_ByteS w h0 h1) h1 fun r0 a0 b0 => sz_done a0) (by simp [tot, tot_flat])

theorem sz_MessageS {l : den (.sl tMessage)} {left : Int} (w : Wf (.sl tMessage) l) (h0 : 0 ≤ left) (h1 : left ≤ 1048576) : SzT (l_szMessageS l left) left (tot (.sl tMessage) l) := szL_ok (t := tMessage) (szE := l_szMessage) w.1 h0 h1 fun x hx k k0 k1 => sz_Message (w.2 x hx) k0 k1

theorem sz_PathS {l : den (.sl tPath)} {left : Int} (w : Wf (.sl tPath) l) (h0 : 0 ≤ left) (h1 : left ≤ 1048576) : SzT (l_szPathS l left) left (tot (.sl tPath) l) := szL_ok (t := tPath) (szE := l_szPath) w.1 h0 h1 fun x hx k k0 k1 => sz_Path (w.2 x hx) k0 k1

theorem sz_RevocationS {l : den (.sl tRevocation)} {left : Int} (w : Wf (.sl tRevocation) l) (h0 : 0 ≤ left) (h1 : left ≤ 1048576) : SzT (l_szRevocationS l left) left (tot (.sl tRevocation) l) := szF_ok (t := tRevocation) rfl w.1 h0 h1

theorem sz_Flow {x : den tFlow} {left : Int} (w : Wf tFlow x) (h0 : 0 ≤ left) (h1 : left ≤ 1048576) : SzT (l_szFlow x left) left (tot tFlow x) := SzT.eq (sz_field (sz_MessageS w.2.2.2.2.1 h0 h1) h1 fun r0 a0 b0 => sz_field (sz_PathS w.2.2.2.2.2.1 a0 b0) b0 fun r1 a1 b1 => sz_field (sz_RevocationS w.2.2.2.2.2.2.2.2 a1 b1) b1 fun r2 a2 b2 => sz_done a2) (by simp [tot, tot_flat] <;> omega)

theorem sz_FlowS {l : den (.sl tFlow)} {left : Int} (w : Wf (.sl tFlow) l) (h0 : 0 ≤ left) (h1 : left ≤ 1048576) : SzT (l_szFlowS l left) left (tot (.sl tFlow) l) := szL_ok (t := tFlow) (szE := l_szFlow) w.1 h0 h1 fun x hx k k0 k1 => sz_Flow (w.2 x hx) k0 k1

theorem sz_Inbox {x : den tInbox} {left : Int} (w : Wf tInbox x) (h0 : 0 ≤ left) (h1 : left ≤ 1048576) : SzT (l_szInbox x left) left (tot tInbox x) := SzT.eq (sz_field (sz_MessageS w.2.2.2 h0 h1) h1 fun r0 a0 b0 => sz_done a0) (by simp [tot, tot_flat])

theorem sz_InboxS {l : den (.sl tInbox)} {left : Int} (w : Wf (.sl tInbox) l) (h0 : 0 ≤ left) (h1 : left ≤ 1048576) : SzT (l_szInboxS l left) left (tot (.sl tInbox) l) := szL_ok (t := tInbox) (szE := l_szInbox) w.1 h0 h1 fun x hx k k0 k1 => sz_Inbox (w.2 x hx) k0 k1

theorem sz_Network {x : den tNetwork} {left : Int} (w : Wf tNetwork x) (h0 : 0 ≤ left) (h1 : left ≤ 1048576) : SzT (l_szNetwork x left) left (tot tNetwork x) := SzT.eq (sz_field (sz_Topology w.1 h0 h1) h1 fun r0 a0 b0 => sz_field (sz_SegmentDatabase w.2.1 a0 b0) b0 fun r1 a1 b1 => sz_field (sz_Scheduler w.2.2.1 a1 b1) b1 fun r2 a2 b2 => sz_field (sz_IntS w.2.2.2.2.1 a2 b2) b2 fun r3 a3 b3 => sz_field (sz_PacketInFlightS w.2.2.2.2.2.1 a3 b3) b3 fun r4 a4 b4 => sz_field (sz_FlowS w.2.2.2.2.2.2.1 a4 b4) b4 fun r5 a5 b5 => sz_field (sz_InboxS w.2.2.2.2.2.2.2.1 a5 b5) b5 fun r6 a6 b6 => sz_done a6) (by simp [tot, tot_flat] <;> omega)

theorem sz_Event {x : den tEvent} {left : Int} (w : Wf tEvent x) (h0 : 0 ≤ left) (h1 : left ≤ 1048576) : SzT (l_szEvent x left) left (tot tEvent x) := SzT.eq (sz_field (sz_ByteS w.2.2.1 h0 h1) h1 fun r0 a0 b0 => sz_field (sz_PacketInFlight w.2.2.2 a0 b0) b0 fun r1 a1 b1 => sz_done a1) (by simp [tot, tot_flat] <;> omega)

theorem to_AS {x : den tAS} (h : Sm tAS x) : l_toAS x = some x := by
  unfold l_toAS
  rfl

theorem to_ASS {l : den (.sl tAS)} (h : Sm (.sl tAS) l) : l_toASS l = some l := by
  have : l_toASS l = some (l.map id) := toL_eq (toE := l_toAS) (g := id) h.1 (by decide) fun x hx => to_AS (h.2 x hx)
  simpa using this

theorem to_Link {x : den tLink} (h : Sm tLink x) : l_toLink x = some x := by
  unfold l_toLink
  rfl

theorem to_LinkS {l : den (.sl tLink)} (h : Sm (.sl tLink) l) : l_toLinkS l = some l := by
  have : l_toLinkS l = some (l.map id) := toL_eq (toE := l_toLink) (g := id) h.1 (by decide) fun x hx => to_Link (h.2 x hx)
  simpa using this

theorem to_Topology {x : den tTopology} (h : Sm tTopology x) : l_toTopology x = some x := by
  unfold l_toTopology
  simp [to_ASS h.1, to_LinkS h.2]

theorem to_Hop {x : den tHop} (h : Sm tHop x) : l_toHop x = some x := by
  unfold l_toHop
  rfl

theorem to_HopS {l : den (.sl tHop)} (h : Sm (.sl tHop) l) : l_toHopS l = some l := by
  have : l_toHopS l = some (l.map id) := toL_eq (toE := l_toHop) (g := id) h.1 (by decide) fun x hx => to_Hop (h.2 x hx)
  simpa using this

theorem to_Segment {x : den tSegment} (h : Sm tSegment x) : l_toSegment x = some x := by
  unfold l_toSegment
  simp [to_HopS h.2.2]

theorem to_SegmentS {l : den (.sl tSegment)} (h : Sm (.sl tSegment) l) : l_toSegmentS l = some l := by
  have : l_toSegmentS l = some (l.map id) := toL_eq (toE := l_toSegment) (g := id) h.1 (by decide) fun x hx => to_Segment (h.2 x hx)
  simpa using this

theorem to_SegmentDatabase {x : den tSegmentDatabase} (h : Sm tSegmentDatabase x) : l_toSegmentDatabase x = some x := by
  unfold l_toSegmentDatabase
  simp [to_SegmentS h.1, to_SegmentS h.2]

theorem to_Reservation {x : den tReservation} (h : Sm tReservation x) : l_toReservation x = some x := by
  unfold l_toReservation
  rfl

theorem to_ReservationS {l : den (.sl tReservation)} (h : Sm (.sl tReservation) l) : l_toReservationS l = some l := by
  have : l_toReservationS l = some (l.map id) := toL_eq (toE := l_toReservation) (g := id) h.1 (by decide) fun x hx => to_Reservation (h.2 x hx)
  simpa using this

theorem to_Usage {x : den tUsage} (h : Sm tUsage x) : l_toUsage x = some x := by
  unfold l_toUsage
  rfl

theorem to_UsageS {l : den (.sl tUsage)} (h : Sm (.sl tUsage) l) : l_toUsageS l = some l := by
  have : l_toUsageS l = some (l.map id) := toL_eq (toE := l_toUsage) (g := id) h.1 (by decide) fun x hx => to_Usage (h.2 x hx)
  simpa using this

theorem to_Scheduler {x : den tScheduler} (h : Sm tScheduler x) : l_toScheduler x = some x := by
  unfold l_toScheduler
  simp [to_ReservationS h.2.1, to_UsageS h.2.2]

theorem to_IntS {l : den (.sl ti)} (h : Sm (.sl ti) l) : l_toIntS l = some l := by
  have : l_toIntS l = some (l.map id) := toL_eq (toE := some) (g := id) h.1 (by decide) fun x hx => rfl
  simpa using this

theorem to_PathPart {x : den tPathPart} (h : Sm tPathPart x) : l_toPathPart x = some x := by
  unfold l_toPathPart
  simp [to_HopS h.2.2.2]

theorem to_PathPartS {l : den (.sl tPathPart)} (h : Sm (.sl tPathPart) l) : l_toPathPartS l = some l := by
  have : l_toPathPartS l = some (l.map id) := toL_eq (toE := l_toPathPart) (g := id) h.1 (by decide) fun x hx => to_PathPart (h.2 x hx)
  simpa using this

theorem to_Path {x : den tPath} (h : Sm tPath x) : l_toPath x = some x := by
  unfold l_toPath
  simp [to_PathPartS h]

theorem to_ByteS {l : den (.sl tb)} (h : Sm (.sl tb) l) : l_toByteS l = some l := by
  have : l_toByteS l = some (l.map id) := toL_eq (toE := some) (g := id) h.1 (by decide) fun x hx => rfl
  simpa using this

theorem to_Packet {x : den tPacket} (h : Sm tPacket x) : l_toPacket x = some (x.1, x.2.1, x.2.2.1, x.2.2.2.2.1, x.2.2.2.2.2.1, x.2.2.2.2.2.2.1, x.2.2.2.2.2.2.2.1, x.2.2.2.2.2.2.2.2.1, x.2.2.2.1, x.2.2.2.2.2.2.2.2.2) := by
  unfold l_toPacket
  simp only [to_Path h.2.2.2.1, to_ByteS h.2.2.2.2.2.2.2.2.2, obind_some, peta]

theorem to_PacketInFlight {x : den tPacketInFlight} (h : Sm tPacketInFlight x) : l_toPacketInFlight x = some (x.1, x.2.1, x.2.2.1, x.2.2.2.1, x.2.2.2.2.1, x.2.2.2.2.2.2.1, x.2.2.2.2.2.2.2.1, x.2.2.2.2.2.2.2.2.1, x.2.2.2.2.2.2.2.2.2.1, x.2.2.2.2.2.2.2.2.2.2.1, x.2.2.2.2.2.1, x.2.2.2.2.2.2.2.2.2.2.2) := by
  unfold l_toPacketInFlight
  simp only [to_Packet h.2.2, obind_some, peta]

theorem to_PacketInFlightS {l : den (.sl tPacketInFlight)} (h : Sm (.sl tPacketInFlight) l) : l_toPacketInFlightS l = some l := by
  unfold l_toPacketInFlightS
  exact toL_run' h.1 (by decide) (fun k L x hi hm h1 h2 h3 h4 hw => by simp only [h1, h2, h3, h4, hi, to_PacketInFlight (h.2 x hm), obind_some, cond_true, Int.toNat_natCast, hw, peta]) (fun L => by simp)

theorem to_Message {x : den tMessage} (h : Sm tMessage x) : l_toMessage x = some x := by
  unfold l_toMessage
  simp [to_ByteS h]

theorem to_MessageS {l : den (.sl tMessage)} (h : Sm (.sl tMessage) l) : l_toMessageS l = some l := by
  have : l_toMessageS l = some (l.map id) := toL_eq (toE := l_toMessage) (g := id) h.1 (by decide) fun x hx => to_Message (h.2 x hx)
  simpa using this

theorem to_PathS {l : den (.sl tPath)} (h : Sm (.sl tPath) l) : l_toPathS l = some l := by
  have : l_toPathS l = some (l.map id) := toL_eq (toE := l_toPath) (g := id) h.1 (by decide) fun x hx => to_Path (h.2 x hx)
  simpa using this

theorem to_Revocation {x : den tRevocation} (h : Sm tRevocation x) : l_toRevocation x = some x := by
  unfold l_toRevocation
  rfl

theorem to_RevocationS {l : den (.sl tRevocation)} (h : Sm (.sl tRevocation) l) : l_toRevocationS l = some l := by
  have : l_toRevocationS l = some (l.map id) := toL_eq (toE := l_toRevocation) (g := id) h.1 (by decide) fun x hx => to_Revocation (h.2 x hx)
  simpa using this

theorem to_Flow {x : den tFlow} (h : Sm tFlow x) : l_toFlow x = some (x.1, x.2.1, x.2.2.1, x.2.2.2.1, x.2.2.2.2.2.2.1, x.2.2.2.2.2.2.2.1, x.2.2.2.2.1, x.2.2.2.2.2.1, x.2.2.2.2.2.2.2.2) := by
  unfold l_toFlow
  simp only [to_MessageS h.2.2.2.2.1, to_PathS h.2.2.2.2.2.1, to_RevocationS h.2.2.2.2.2.2.2.2, obind_some, peta]

theorem to_FlowS {l : den (.sl tFlow)} (h : Sm (.sl tFlow) l) : l_toFlowS l = some l := by
  unfold l_toFlowS
  exact toL_run h.1 (by decide) (fun k L x hi hm h1 h2 h3 h4 hw => by simp only [h1, h2, h3, h4, hi, to_Flow (h.2 x hm), obind_some, cond_true, Int.toNat_natCast, hw, peta]) (fun L => by simp)

theorem to_Inbox {x : den tInbox} (h : Sm tInbox x) : l_toInbox x = some x := by
  unfold l_toInbox
  simp [to_MessageS h.2.2.2]

theorem to_InboxS {l : den (.sl tInbox)} (h : Sm (.sl tInbox) l) : l_toInboxS l = some l := by
  have : l_toInboxS l = some (l.map id) := toL_eq (toE := l_toInbox) (g := id) h.1 (by decide) fun x hx => to_Inbox (h.2 x hx)
  simpa using this

theorem to_Network {x : den tNetwork} (h : Sm tNetwork x) : l_toNetwork x = some (x.2.2.1.1, x.2.2.2.1, x.2.2.2.2.2.2.2.2, x.1.1, x.1.2, x.2.1.1, x.2.1.2, x.2.2.1.2.1, x.2.2.1.2.2, x.2.2.2.2.1, x.2.2.2.2.2.1, x.2.2.2.2.2.2.1, x.2.2.2.2.2.2.2.1) := by
  unfold l_toNetwork
  simp only [to_Topology h.1, to_SegmentDatabase h.2.1, to_Scheduler h.2.2.1, to_IntS h.2.2.2.2.1, to_PacketInFlightS h.2.2.2.2.2.1, to_FlowS h.2.2.2.2.2.2.1, to_InboxS h.2.2.2.2.2.2.2.1, obind_some, peta]

theorem to_Event {x : den tEvent} (h : Sm tEvent x) : l_toEvent x = some (x.1, x.2.1, x.2.2.2.1, x.2.2.2.2.1, x.2.2.2.2.2.1, x.2.2.2.2.2.2.1, x.2.2.2.2.2.2.2.1, x.2.2.2.2.2.2.2.2.2.1, x.2.2.2.2.2.2.2.2.2.2.1, x.2.2.2.2.2.2.2.2.2.2.2.1, x.2.2.2.2.2.2.2.2.2.2.2.2.1, x.2.2.2.2.2.2.2.2.2.2.2.2.2.1, x.2.2.1, x.2.2.2.2.2.2.2.2.1, x.2.2.2.2.2.2.2.2.2.2.2.2.2.2) := by
  unfold l_toEvent
  simp only [to_ByteS h.2.2.1, to_PacketInFlight h.2.2.2, obind_some, peta]

theorem eq_AS {x : den tAS} (h : SmB 4611686018427387904 tAS x) : l_eqAS x x = some true := by
  unfold l_eqAS
  simp

theorem eq_ASS {l : den (.sl tAS)} (h : SmB 4611686018427387904 (.sl tAS) l) : l_eqASS l l = some true := eqL_refl (eqE := l_eqAS) h.1 fun x hx => eq_AS (h.2 x hx)

theorem eq_Link {x : den tLink} (h : SmB 4611686018427387904 tLink x) : l_eqLink x x = some true := by
  unfold l_eqLink
  simp

theorem eq_LinkS {l : den (.sl tLink)} (h : SmB 4611686018427387904 (.sl tLink) l) : l_eqLinkS l l = some true := eqL_refl (eqE := l_eqLink) h.1 fun x hx => eq_Link (h.2 x hx)

theorem eq_Topology {x : den tTopology} (h : SmB 4611686018427387904 tTopology x) : l_eqTopology x x = some true := by
  unfold l_eqTopology
  simp [eq_ASS h.1, eq_LinkS h.2]

theorem eq_Hop {x : den tHop} (h : SmB 4611686018427387904 tHop x) : l_eqHop x x = some true := by
  unfold l_eqHop
  simp

theorem eq_HopS {l : den (.sl tHop)} (h : SmB 4611686018427387904 (.sl tHop) l) : l_eqHopS l l = some true := eqL_refl (eqE := l_eqHop) h.1 fun x hx => eq_Hop (h.2 x hx)

theorem eq_Segment {x : den tSegment} (h : SmB 4611686018427387904 tSegment x) : l_eqSegment x x = some true := by
  unfold l_eqSegment
  simp [eq_HopS h.2.2]

theorem eq_SegmentS {l : den (.sl tSegment)} (h : SmB 4611686018427387904 (.sl tSegment) l) : l_eqSegmentS l l = some true := eqL_refl (eqE := l_eqSegment) h.1 fun x hx => eq_Segment (h.2 x hx)

theorem eq_SegmentDatabase {x : den tSegmentDatabase} (h : SmB 4611686018427387904 tSegmentDatabase x) : l_eqSegmentDatabase x x = some true := by
  unfold l_eqSegmentDatabase
  simp [eq_SegmentS h.1, eq_SegmentS h.2]

theorem eq_Reservation {x : den tReservation} (h : SmB 4611686018427387904 tReservation x) : l_eqReservation x x = some true := by
  unfold l_eqReservation
  simp

theorem eq_ReservationS {l : den (.sl tReservation)} (h : SmB 4611686018427387904 (.sl tReservation) l) : l_eqReservationS l l = some true := eqL_refl (eqE := l_eqReservation) h.1 fun x hx => eq_Reservation (h.2 x hx)

theorem eq_Usage {x : den tUsage} (h : SmB 4611686018427387904 tUsage x) : l_eqUsage x x = some true := by
  unfold l_eqUsage
  simp

theorem eq_UsageS {l : den (.sl tUsage)} (h : SmB 4611686018427387904 (.sl tUsage) l) : l_eqUsageS l l = some true := eqL_refl (eqE := l_eqUsage) h.1 fun x hx => eq_Usage (h.2 x hx)

theorem eq_Scheduler {x : den tScheduler} (h : SmB 4611686018427387904 tScheduler x) : l_eqScheduler x x = some true := by
  unfold l_eqScheduler
  simp [eq_ReservationS h.2.1, eq_UsageS h.2.2]

theorem eq_IntS {l : den (.sl ti)} (h : SmB 4611686018427387904 (.sl ti) l) : l_eqIntS l l = some true := eqL_refl (eqE := (fun x y => some (x == y))) h.1 fun x hx => by simp

theorem eq_PathPart {x : den tPathPart} (h : SmB 4611686018427387904 tPathPart x) : l_eqPathPart x x = some true := by
  unfold l_eqPathPart
  simp [eq_HopS h.2.2.2]

theorem eq_PathPartS {l : den (.sl tPathPart)} (h : SmB 4611686018427387904 (.sl tPathPart) l) : l_eqPathPartS l l = some true := eqL_refl (eqE := l_eqPathPart) h.1 fun x hx => eq_PathPart (h.2 x hx)

theorem eq_Path {x : den tPath} (h : SmB 4611686018427387904 tPath x) : l_eqPath x x = some true := by
  unfold l_eqPath
  simp [eq_PathPartS h]

theorem eq_ByteS {l : den (.sl tb)} (h : SmB 4611686018427387904 (.sl tb) l) : l_eqByteS l l = some true := eqL_refl (eqE := (fun x y => some (x == y))) h.1 fun x hx => by simp

theorem eq_Packet {x : den tPacket} (h : SmB 4611686018427387904 tPacket x) : l_eqPacket x x = some true := by
  unfold l_eqPacket
  simp [eq_Path h.2.2.2.1, eq_ByteS h.2.2.2.2.2.2.2.2.2]

theorem eq_PacketInFlight {x : den tPacketInFlight} (h : SmB 4611686018427387904 tPacketInFlight x) : l_eqPacketInFlight x x = some true := by
  unfold l_eqPacketInFlight
  simp [eq_Packet h.2.2]

theorem eq_PacketInFlightS {l : den (.sl tPacketInFlight)} (h : SmB 4611686018427387904 (.sl tPacketInFlight) l) : l_eqPacketInFlightS l l = some true := eqL_refl (eqE := l_eqPacketInFlight) h.1 fun x hx => eq_PacketInFlight (h.2 x hx)

theorem eq_Message {x : den tMessage} (h : SmB 4611686018427387904 tMessage x) : l_eqMessage x x = some true := by
  unfold l_eqMessage
  simp [eq_ByteS h]

theorem eq_MessageS {l : den (.sl tMessage)} (h : SmB 4611686018427387904 (.sl tMessage) l) : l_eqMessageS l l = some true := eqL_refl (eqE := l_eqMessage) h.1 fun x hx => eq_Message (h.2 x hx)

theorem eq_PathS {l : den (.sl tPath)} (h : SmB 4611686018427387904 (.sl tPath) l) : l_eqPathS l l = some true := eqL_refl (eqE := l_eqPath) h.1 fun x hx => eq_Path (h.2 x hx)

theorem eq_Revocation {x : den tRevocation} (h : SmB 4611686018427387904 tRevocation x) : l_eqRevocation x x = some true := by
  unfold l_eqRevocation
  simp

theorem eq_RevocationS {l : den (.sl tRevocation)} (h : SmB 4611686018427387904 (.sl tRevocation) l) : l_eqRevocationS l l = some true := eqL_refl (eqE := l_eqRevocation) h.1 fun x hx => eq_Revocation (h.2 x hx)

theorem eq_Flow {x : den tFlow} (h : SmB 4611686018427387904 tFlow x) : l_eqFlow x x = some true := by
  unfold l_eqFlow
  simp [eq_MessageS h.2.2.2.2.1, eq_PathS h.2.2.2.2.2.1, eq_RevocationS h.2.2.2.2.2.2.2.2]

theorem eq_FlowS {l : den (.sl tFlow)} (h : SmB 4611686018427387904 (.sl tFlow) l) : l_eqFlowS l l = some true := eqL_refl (eqE := l_eqFlow) h.1 fun x hx => eq_Flow (h.2 x hx)

theorem eq_Inbox {x : den tInbox} (h : SmB 4611686018427387904 tInbox x) : l_eqInbox x x = some true := by
  unfold l_eqInbox
  simp [eq_MessageS h.2.2.2]

theorem eq_InboxS {l : den (.sl tInbox)} (h : SmB 4611686018427387904 (.sl tInbox) l) : l_eqInboxS l l = some true := eqL_refl (eqE := l_eqInbox) h.1 fun x hx => eq_Inbox (h.2 x hx)

theorem eq_Network {x : den tNetwork} (h : SmB 4611686018427387904 tNetwork x) : l_eqNetwork x x = some true := by
  unfold l_eqNetwork
  simp [eq_Topology h.1, eq_SegmentDatabase h.2.1, eq_Scheduler h.2.2.1, eq_IntS h.2.2.2.2.1, eq_PacketInFlightS h.2.2.2.2.2.1, eq_FlowS h.2.2.2.2.2.2.1, eq_InboxS h.2.2.2.2.2.2.2.1]

theorem eq_Event {x : den tEvent} (h : SmB 4611686018427387904 tEvent x) : l_eqEvent x x = some true := by
  unfold l_eqEvent
  simp [eq_ByteS h.2.2.1, eq_PacketInFlight h.2.2.2]

def inR (n a b : Int) : Bool := decide (a ≤ n) && decide (n ≤ b)

theorem i_in (n a b : Int) : i_InRange n a b = some (inR n a b) := by
  unfold i_InRange inR
  by_cases h : a ≤ n <;> simp [h]

theorem s_in (n a b : Int) : s_l1In n a b = some (inR n a b) := by
  unfold s_l1In inR
  by_cases h : a ≤ n <;> simp [h]

theorem inR_iff {n a b : Int} : inR n a b = true ↔ a ≤ n ∧ n ≤ b := by simp [inR]

theorem inR_not {n a b : Int} : inR n a b = false ↔ ¬ (a ≤ n ∧ n ≤ b) := by rw [← inR_iff]; simp

/-- A loop that answers false at the first that fails. -/
theorem scanB {α S : Type} (p : Nat → α → Bool) : ∀ (l : List α) (k : Nat) (ρ : S), scanI (fun k x => if p k x then none else some ρ) k l = if (l.zipIdx k).all (fun x => p x.2 x.1) then none else some ρ
  | [], _, _ => rfl
  | x :: xs, k, ρ => by
    simp only [scanI, List.zipIdx_cons, List.all_cons]
    rcases Bool.eq_false_or_eq_true (p k x) with h | h
    · simp only [h, if_true, Bool.true_and]; exact scanB p xs (k + 1) ρ
    · simp [h]

theorem zip_all {α : Type} (p : α → Bool) : ∀ (l : List α) (k : Nat), (l.zipIdx k).all (fun x => p x.1) = l.all p
  | [], _ => rfl
  | x :: xs, k => by simp [List.zipIdx_cons, zip_all p xs]

theorem scanA {α S : Type} (p : α → Bool) (l : List α) (ρ : S) : scanI (fun _ x => if p x then none else some ρ) 0 l = if l.all p then none else some ρ := by
  rw [scanB (fun _ x => p x), zip_all p]

theorem wr_len {n : Nat} (h : n ≤ 68719476736) : wr ((n : Int) - 1) = (n : Int) - 1 := wrap_in (by omega) (by omega)

def resid (n : Int) : Bool := inR n 0 2147483646

theorem i_resid (n : Int) : i_isResidue n = some (resid n) := by unfold i_isResidue resid; rw [i_in]; rfl

theorem s_resid (n : Int) : s_l3Ok n = some (resid n) := by unfold s_l3Ok resid; rw [s_in]; rfl

def hasHop (p : den tPacket) : Bool := inR p.2.2.2.2.1 0 ((p.2.2.2.1.length : Int) - 1) && inR p.2.2.2.2.2.1 0 (((((p.2.2.2.1[p.2.2.2.2.1.toNat]?).getD (0, 0, 0, [])).2.2.2.length : Nat) : Int) - 1)

def curAS (p : den tPacket) : Int := if hasHop p then ((((p.2.2.2.1[p.2.2.2.2.1.toNat]?).getD (0, 0, 0, [])).2.2.2[p.2.2.2.2.2.1.toNat]?).getD (0, 0, 0, 0, 0)).1 else -1

theorem hasHop_iff {p : den tPacket} (h : hasHop p = true) : ∃ (i j : Nat) (x : den tPathPart) (y : den tHop), p.2.2.2.2.1 = (i : Int) ∧ p.2.2.2.2.2.1 = (j : Int) ∧ p.2.2.2.1[i]? = some x ∧ x.2.2.2[j]? = some y ∧ curAS p = y.1 := by
  have h' := h
  unfold hasHop at h'
  simp only [Bool.and_eq_true, inR_iff] at h'
  obtain ⟨⟨h1, h2⟩, h3, h4⟩ := h'
  obtain ⟨x, hx⟩ := get_some h1 h2
  rw [hx, Option.getD_some] at h4
  obtain ⟨y, hy⟩ := get_some h3 h4
  refine ⟨p.2.2.2.2.1.toNat, p.2.2.2.2.2.1.toNat, x, y, (Int.toNat_of_nonneg h1).symm, (Int.toNat_of_nonneg h3).symm, hx, hy, ?_⟩
  unfold curAS
  rw [h, if_pos rfl, hx, Option.getD_some, hy, Option.getD_some]

theorem curAS_no {p : den tPacket} (c : hasHop p = false) : curAS p = -1 := by unfold curAS; rw [c]; rfl

theorem i_hop {p : den tPacket} (h : SmB 68719476736 tPacket p) : i_hasHop p = some (hasHop p) := by
  unfold i_hasHop hasHop
  have l1 := h.2.2.2.1.1
  rw [i_in, wr_len l1, obind_some]
  cases c1 : inR p.2.2.2.2.1 0 ((p.2.2.2.1.length : Int) - 1) with
  | false => rfl
  | true =>
    rw [inR_iff] at c1
    obtain ⟨x, hx⟩ := get_some c1.1 c1.2
    rw [idx_of c1.1 hx, hx]
    have l2 := (h.2.2.2.1.2 _ (List.mem_of_getElem? hx)).2.2.2.1
    simp only [cond_true, obind_some, i_in, wr_len l2, Option.getD_some, Bool.true_and]

theorem i_curAS {p : den tPacket} (h : SmB 68719476736 tPacket p) : i_CurrentAS p = some (curAS p) := by
  unfold i_CurrentAS
  simp only [peta, i_hop h, obind_some]
  cases c : hasHop p with
  | false => rw [curAS_no c]; rfl
  | true =>
    obtain ⟨i, j, x, y, h1, h2, h3, h4, h5⟩ := hasHop_iff c
    rw [h1, h2, h5]
    simp only [Bool.not_true, cond_false, idx_nat, h3, h4, obind_some]

def all2 {α β : Type} (p : α → β → Bool) : List α → List β → Bool
  | x :: xs, y :: ys => p x y && all2 p xs ys
  | _, _ => true

theorem loop_two {α β R : Type} {a : List α} {b : List β} (p : α → β → Bool) {step : Int → Option (Int ⊕ (Unit ⊕ R))} (ρ : R) (hlen : a.length = b.length) (hl : a.length ≤ 4611686018427387904)
    (h : ∀ (k : Nat) (x : α) (y : β), x ∈ a → y ∈ b → idx a (k : Int) = some x → idx b (k : Int) = some y → decide ((k : Int) < (a.length : Int)) = true → IntKind.i64.wrap ((k : Int) + 1) = ((k + 1 : Nat) : Int) → step (k : Int) = some (cond (p x y) (.inl ((k + 1 : Nat) : Int)) (.inr (.inr ρ))))
    (he : step (a.length : Int) = some (.inr (.inl ()))) : loopM step (0 : Int) = some (cond (all2 p a b) (.inl ()) (.inr ρ)) := by
  have key : ∀ (ra pa : List α) (rb pb : List β), pa ++ ra = a → pb ++ rb = b → pa.length = pb.length → loopM step (pa.length : Int) = some (cond (all2 p ra rb) (.inl ()) (.inr ρ)) := by
    intro ra
    induction ra with
    | nil => intro pa rb pb h1 _ _; rw [List.append_nil] at h1; subst h1; exact loopM_done he
    | cons x ra ih =>
      intro pa rb pb h1 h2 h3
      cases rb with
      | nil => exfalso; have e1 := congrArg List.length h1; have e2 := congrArg List.length h2; simp at e1 e2; omega
      | cons y rb =>
        have hx : a[pa.length]? = some x := by rw [← h1]; simp
        have hy : b[pa.length]? = some y := by rw [← h2, h3]; simp
        have hlt : pa.length < a.length := by rw [← h1]; simp
        have hs := h pa.length x y (List.mem_of_getElem? hx) (List.mem_of_getElem? hy) (by rw [idx_nat]; exact hx) (by rw [idx_nat]; exact hy) (by simpa using hlt) (by rw [wrap_in (by omega) (by omega)]; omega)
        simp only [all2]
        cases hp : p x y with
        | true => rw [hp] at hs; rw [loopM_next hs]; have := ih (pa ++ [x]) rb (pb ++ [y]) (by simpa using h1) (by simpa using h2) (by simp [h3]); simpa using this
        | false => rw [hp] at hs; exact loopM_done hs
  exact key a [] b [] rfl rfl rfl

theorem cond_sb {α : Type} (b : Bool) (x y : α) : cond b (some x) (some y) = some (cond b x y) := by cases b <;> rfl

theorem elim_c {β : Type} (c : Bool) (f : Unit → Option β) (r : β) : Sum.elim f some (cond c (Sum.inl ()) (Sum.inr r)) = cond c (f ()) (some r) := by cases c <;> rfl

theorem ne_len {α β : Type} (a : List α) (b : List β) : ((a.length : Int) != (b.length : Int)) = !decide (a.length = b.length) := by
  rw [Bool.eq_iff_iff]; simp; omega

theorem cond_nd {α : Type} {p : Prop} [Decidable p] {x y z : α} (h : p → y = z) : cond (!decide p) x y = cond (!decide p) x z := by
  by_cases hp : p
  · rw [h hp]
  · simp [hp]

noncomputable def sameH (a b : List (den tHop)) : Bool := cond (!decide (a.length = b.length)) false (cond (all2 (fun x y => (x.1 == y.1) && ((x.2.1 == y.2.1) && ((x.2.2.1 == y.2.2.1) && ((x.2.2.2.1 == y.2.2.2.1) && ((x.2.2.2.2 == y.2.2.2.2) && true))))) a b) true false)

theorem i_sameH {a b : List (den tHop)} (ha : a.length ≤ 68719476736) : i_equalHopLists a b = some (sameH a b) := by
  unfold i_equalHopLists sameH
  rw [ne_len]
  rw [cond_nd (z := some (cond (all2 (fun x y => (x.1 == y.1) && ((x.2.1 == y.2.1) && ((x.2.2.1 == y.2.2.1) && ((x.2.2.2.1 == y.2.2.2.1) && ((x.2.2.2.2 == y.2.2.2.2) && true))))) a b) true false)) (fun hlen => by
    rw [loop_two (a := a) (b := b) (fun x y => (x.1 == y.1) && ((x.2.1 == y.2.1) && ((x.2.2.1 == y.2.2.1) && ((x.2.2.2.1 == y.2.2.2.1) && ((x.2.2.2.2 == y.2.2.2.2) && true))))) false hlen (Nat.le_trans ha (by decide)) (fun k x y mx my ix iy hd hw => by
      simp only [hd, ix, iy, hw, cond_true, obind_some, peta, bne]
      generalize ((x.1 == y.1) && ((x.2.1 == y.2.1) && ((x.2.2.1 == y.2.2.1) && ((x.2.2.2.1 == y.2.2.2.1) && ((x.2.2.2.2 == y.2.2.2.2) && true))))) = c
      cases c <;> rfl) (by simp)]
    simp only [obind_some, elim_c, cond_sb]), cond_sb]

theorem s_sameH {a b : List (den tHop)} (ha : a.length ≤ 68719476736) : s_l9SameHops a b = some (sameH a b) := by
  unfold s_l9SameHops sameH
  rw [ne_len]
  rw [cond_nd (z := some (cond (all2 (fun x y => (x.1 == y.1) && ((x.2.1 == y.2.1) && ((x.2.2.1 == y.2.2.1) && ((x.2.2.2.1 == y.2.2.2.1) && ((x.2.2.2.2 == y.2.2.2.2) && true))))) a b) true false)) (fun hlen => by
    rw [loop_two (a := a) (b := b) (fun x y => (x.1 == y.1) && ((x.2.1 == y.2.1) && ((x.2.2.1 == y.2.2.1) && ((x.2.2.2.1 == y.2.2.2.1) && ((x.2.2.2.2 == y.2.2.2.2) && true))))) false hlen (Nat.le_trans ha (by decide)) (fun k x y mx my ix iy hd hw => by
      simp only [hd, ix, iy, hw, cond_true, obind_some, peta, bne]
      generalize ((x.1 == y.1) && ((x.2.1 == y.2.1) && ((x.2.2.1 == y.2.2.1) && ((x.2.2.2.1 == y.2.2.2.1) && ((x.2.2.2.2 == y.2.2.2.2) && true))))) = c
      cases c <;> rfl) (by simp)]
    simp only [obind_some, elim_c, cond_sb]), cond_sb]

noncomputable def samePt (a b : den tPathPart) : Bool := cond (a.1 == b.1) (cond (a.2.1 == b.2.1) (cond (a.2.2.1 == b.2.2.1) (sameH a.2.2.2 b.2.2.2) false) false) false

theorem i_samePt {a b : den tPathPart} (ha : SmB 68719476736 tPathPart a) (hb : SmB 68719476736 tPathPart b) : i_EqualParts a b = some (samePt a b) := by
  unfold i_EqualParts samePt
  simp only [obind_some, cond_sb, peta, i_sameH ha.2.2.2.1]

theorem s_samePt {a b : den tPathPart} (ha : SmB 68719476736 tPathPart a) (hb : SmB 68719476736 tPathPart b) : s_EqualParts a b = some (samePt a b) := by
  unfold s_EqualParts samePt
  simp only [obind_some, cond_sb, peta, s_sameH ha.2.2.2.1]

noncomputable def sameP (a b : List (den tPathPart)) : Bool := cond (!decide (a.length = b.length)) false (cond (all2 (fun x y => samePt x y) a b) true false)

theorem i_sameP {a b : List (den tPathPart)} (ha : SmB 68719476736 (.sl tPathPart) a) (hb : SmB 68719476736 (.sl tPathPart) b) : i_EqualPaths a b = some (sameP a b) := by
  unfold i_EqualPaths sameP
  rw [ne_len]
  rw [cond_nd (z := some (cond (all2 (fun x y => samePt x y) a b) true false)) (fun hlen => by
    rw [loop_two (a := a) (b := b) (fun x y => samePt x y) false hlen (Nat.le_trans ha.1 (by decide)) (fun k x y mx my ix iy hd hw => by
      simp only [hd, ix, iy, hw, cond_true, obind_some, peta, i_samePt (ha.2 x mx) (hb.2 y my)]
      generalize (samePt x y) = c
      cases c <;> rfl) (by simp)]
    simp only [obind_some, elim_c, cond_sb]), cond_sb]

theorem s_sameP {a b : List (den tPathPart)} (ha : SmB 68719476736 (.sl tPathPart) a) (hb : SmB 68719476736 (.sl tPathPart) b) : s_EqualPaths a b = some (sameP a b) := by
  unfold s_EqualPaths sameP
  rw [ne_len]
  rw [cond_nd (z := some (cond (all2 (fun x y => samePt x y) a b) true false)) (fun hlen => by
    rw [loop_two (a := a) (b := b) (fun x y => samePt x y) false hlen (Nat.le_trans ha.1 (by decide)) (fun k x y mx my ix iy hd hw => by
      simp only [hd, ix, iy, hw, cond_true, obind_some, peta, s_samePt (ha.2 x mx) (hb.2 y my)]
      generalize (samePt x y) = c
      cases c <;> rfl) (by simp)]
    simp only [obind_some, elim_c, cond_sb]), cond_sb]

noncomputable def sameW (a b : List Int) : Bool := (strOf a).toList == (strOf b).toList

theorem i_sameW (a b : List Int) : i_EqualBytes a b = some (sameW a b) := rfl

theorem s_sameW (a b : List Int) : s_EqualBytes a b = some (sameW a b) := rfl

noncomputable def sameK (a b : den tPacket) : Bool := cond (a.1 == b.1) (cond (a.2.1 == b.2.1) (cond (a.2.2.1 == b.2.2.1) (cond (sameP a.2.2.2.1 b.2.2.2.1) (cond (a.2.2.2.2.1 == b.2.2.2.2.1) (cond (a.2.2.2.2.2.1 == b.2.2.2.2.2.1) (cond (a.2.2.2.2.2.2.1 == b.2.2.2.2.2.2.1) (cond (a.2.2.2.2.2.2.2.1 == b.2.2.2.2.2.2.2.1) (cond (a.2.2.2.2.2.2.2.2.1 == b.2.2.2.2.2.2.2.2.1) (sameW a.2.2.2.2.2.2.2.2.2 b.2.2.2.2.2.2.2.2.2) false) false) false) false) false) false) false) false) false

theorem i_sameK {a b : den tPacket} (ha : SmB 68719476736 tPacket a) (hb : SmB 68719476736 tPacket b) : i_EqualPackets a b = some (sameK a b) := by
  unfold i_EqualPackets sameK
  simp only [obind_some, cond_sb, peta, i_sameW, i_sameP ha.2.2.2.1 hb.2.2.2.1]

theorem s_sameK {a b : den tPacket} (ha : SmB 68719476736 tPacket a) (hb : SmB 68719476736 tPacket b) : s_EqualPackets a b = some (sameK a b) := by
  unfold s_EqualPackets sameK
  simp only [obind_some, cond_sb, peta, s_sameW, s_sameP ha.2.2.2.1 hb.2.2.2.1]

def validH (h : den tHop) : Bool := inR h.1 0 7 && (inR h.2.1 0 6 && (inR h.2.2.1 0 6 && (!(h.2.1 == h.2.2.1) && (inR h.2.2.2.1 0 1000000 && resid h.2.2.2.2))))

theorem i_validH (h : den tHop) : i_ValidHop h = some (validH h) := by
  unfold i_ValidHop validH
  simp only [i_in, i_resid, obind_some, bne]
  cases inR h.1 0 7 <;> cases inR h.2.1 0 6 <;> cases inR h.2.2.1 0 6 <;> cases h.2.1 == h.2.2.1 <;> cases inR h.2.2.2.1 0 1000000 <;> rfl

theorem s_validH (h : den tHop) : s_ValidHop h = some (validH h) := by
  unfold s_ValidHop validH
  simp only [s_in, s_resid, obind_some, bne]
  cases inR h.1 0 7 <;> cases inR h.2.1 0 6 <;> cases inR h.2.2.1 0 6 <;> cases h.2.1 == h.2.2.1 <;> cases inR h.2.2.2.1 0 1000000 <;> rfl

theorem gt_not (n k : Nat) : decide ((n : Int) > (k : Int)) = !decide (n ≤ k) := by rw [Bool.eq_iff_iff]; simp

def hopsE (l : List (den tHop)) : Bool := decide (l.length ≤ 8) && l.all validH

theorem i_hopsE {l : List (den tHop)} (h : l.length ≤ 68719476736) : i_hopsEncodable l = some (hopsE l) := by
  unfold i_hopsEncodable hopsE
  rw [loop_scan (l := l) (fun _ x => if validH x then none else some false) (by omega) (fun k x hi hd hw hm hk => by
    simp only [hd, hi, hw, cond_true, obind_some, peta, i_validH]
    cases validH x <;> rfl) (by simp), scanA validH]
  have e := gt_not l.length 8
  rw [show ((8 : Nat) : Int) = 8 from rfl] at e
  rw [e]
  cases decide (l.length ≤ 8) <;> cases l.all validH <;> rfl

def encPt (p : den tPathPart) : Bool := inR p.1 1 4 && (inR p.2.1 0 1000000 && (resid p.2.2.1 && hopsE p.2.2.2))

theorem s_encS {p : den tSegment} (h : p.2.2.length ≤ 68719476736) : s_Encodable p = some (inR p.1 0 1000000 && (resid p.2.1 && hopsE p.2.2)) := by
  unfold s_Encodable hopsE
  rw [loop_scan (l := p.2.2) (fun _ x => if validH x then none else some false) (by omega) (fun k x hi hd hw hm hk => by
    simp only [hd, hi, hw, cond_true, obind_some, peta, s_validH]
    cases validH x <;> rfl) (by simp), scanA validH]
  have e := gt_not p.2.2.length 8
  rw [show ((8 : Nat) : Int) = 8 from rfl] at e
  rw [e, s_in, s_resid]
  cases inR p.1 0 1000000 <;> cases resid p.2.1 <;> cases decide (p.2.2.length ≤ 8) <;> cases p.2.2.all validH <;> rfl

def encP (p : den tPath) : Bool := decide (p.length ≤ 3) && p.all encPt

theorem i_encP {p : den tPath} (h : SmB 68719476736 tPath p) : i_EncodablePath p = some (encP p) := by
  unfold i_EncodablePath encP
  rw [loop_scan (l := p) (fun _ x => if encPt x then none else some false) (Nat.le_trans h.1 (by decide)) (fun k x hi hd hw hm hk => by
    have hx := (h.2 x hm).2.2.2.1
    simp only [hd, hi, hw, cond_true, obind_some, peta, i_in, i_resid, i_hopsE hx]
    unfold encPt
    cases inR x.1 1 4 <;> cases inR x.2.1 0 1000000 <;> cases resid x.2.2.1 <;> cases hopsE x.2.2.2 <;> rfl) (by simp), scanA encPt]
  have e := gt_not p.length 3
  rw [show ((3 : Nat) : Int) = 3 from rfl] at e
  rw [e]
  cases decide (p.length ≤ 3) <;> cases p.all encPt <;> rfl

theorem s_encP {p : den tPath} (h : SmB 68719476736 tPath p) : s_EncodablePath p = some (encP p) := by
  unfold s_EncodablePath encP
  rw [loop_scan (l := p) (fun _ x => if encPt x then none else some false) (Nat.le_trans h.1 (by decide)) (fun k x hi hd hw hm hk => by
    have hx := (h.2 x hm).2.2.2.1
    have hs := s_encS (p := (x.2.1, x.2.2.1, x.2.2.2)) hx
    simp only [hd, hi, hw, cond_true, obind_some, peta, s_in]
    simp only [peta] at hs
    simp only [hs, obind_some]
    unfold encPt
    cases inR x.1 1 4 <;> cases inR x.2.1 0 1000000 <;> cases resid x.2.2.1 <;> cases hopsE x.2.2.2 <;> rfl) (by simp), scanA encPt]
  have e := gt_not p.length 3
  rw [show ((3 : Nat) : Int) = 3 from rfl] at e
  rw [e]
  cases decide (p.length ≤ 3) <;> cases p.all encPt <;> rfl

def full (x : den tPathPart) : Bool := !((x.2.2.2.length : Int) == 0)

def validK (p : den tPacket) : Bool := inR p.1 1 3 && (encP p.2.2.2.1 && (hasHop p && (resid p.2.2.2.2.2.2.1 && (p.2.2.2.1.all full && (inR p.2.1 0 7 && (inR p.2.2.1 0 7 && (inR p.2.2.2.2.2.2.2.1 0 100000 && (inR p.2.2.2.2.2.2.2.2.1 0 100000 && decide ((p.2.2.2.2.2.2.2.2.2.length : Int) ≤ 40)))))))))

theorem hop_as {p : den tPacket} (h : encP p.2.2.2.1 = true) : decide (curAS p < 0) = !hasHop p := by
  cases c : hasHop p with
  | false => rw [curAS_no c]; rfl
  | true =>
    obtain ⟨i, j, x, y, h1, h2, h3, h4, h5⟩ := hasHop_iff c
    rw [h5]
    unfold encP at h
    have ha := (Bool.and_eq_true _ _ ▸ h : _ ∧ _).2
    have hx := List.all_eq_true.1 ha x (List.mem_of_getElem? h3)
    unfold encPt hopsE at hx
    simp only [Bool.and_eq_true] at hx
    have hy := List.all_eq_true.1 hx.2.2.2.2 y (List.mem_of_getElem? h4)
    unfold validH at hy
    simp only [Bool.and_eq_true, inR_iff] at hy
    have := hy.1.1
    simp; omega

theorem i_validK {p : den tPacket} (h : SmB 68719476736 tPacket p) : i_ValidPacket p = some (validK p) := by
  unfold i_ValidPacket validK
  rw [loop_scan (l := p.2.2.2.1) (fun _ x => if full x then none else some false) (Nat.le_trans h.2.2.2.1.1 (by decide)) (fun k x hi hd hw hm hk => by
    simp only [hd, hi, hw, cond_true, obind_some]
    unfold full
    cases (x.2.2.2.length : Int) == 0 <;> rfl) (by simp), scanA full]
  simp only [i_in, peta, i_curAS h, i_encP h.2.2.2.1, i_resid, obind_some]
  cases inR p.1 1 3
  · rfl
  · cases he : encP p.2.2.2.1
    · rfl
    · rw [hop_as he]
      cases hz : (p.2.2.2.1.length : Int) == 0
      · cases hasHop p <;> simp only [Bool.not_true, Bool.not_false, cond_true, cond_false, obind_some, Bool.false_and, Bool.true_and]
        cases resid p.2.2.2.2.2.2.1 <;> simp only [Bool.not_true, Bool.not_false, cond_true, cond_false, obind_some, Bool.false_and, Bool.true_and]
        cases p.2.2.2.1.all full <;> cases inR p.2.1 0 7 <;> cases inR p.2.2.1 0 7 <;> cases inR p.2.2.2.2.2.2.2.1 0 100000 <;> cases inR p.2.2.2.2.2.2.2.2.1 0 100000 <;> rfl
      · have hh : hasHop p = false := by
          have hl : (p.2.2.2.1.length : Int) = 0 := by simpa using hz
          unfold hasHop
          have : inR p.2.2.2.2.1 0 ((p.2.2.2.1.length : Int) - 1) = false := by rw [inR_not]; omega
          rw [this]; rfl
        rw [hh]
        rfl

theorem s_validK {p : den tPacket} (h : SmB 68719476736 tPacket p) : s_ValidPacket p = some (validK p) := by
  have l1 := h.2.2.2.1.1
  unfold s_ValidPacket validK
  rw [loop_scan (l := p.2.2.2.1) (fun _ x => if full x then none else some false) (Nat.le_trans h.2.2.2.1.1 (by decide)) (fun k x hi hd hw hm hk => by
    simp only [hd, hi, hw, cond_true, obind_some]
    unfold full
    cases (x.2.2.2.length : Int) == 0 <;> rfl) (by simp), scanA full]
  simp only [s_in, wr_len l1, s_encP h.2.2.2.1, s_resid, obind_some]
  unfold hasHop
  cases inR p.1 1 3
  · rfl
  · cases he : encP p.2.2.2.1
    · rfl
    · cases c1 : inR p.2.2.2.2.1 0 ((p.2.2.2.1.length : Int) - 1)
      · rfl
      · rw [inR_iff] at c1
        obtain ⟨x, hx⟩ := get_some c1.1 c1.2
        have l2 := (h.2.2.2.1.2 _ (List.mem_of_getElem? hx)).2.2.2.1
        rw [idx_of c1.1 hx, hx]
        simp only [Bool.not_true, cond_false, obind_some, Option.getD_some, wr_len l2, Bool.true_and]
        cases resid p.2.2.2.2.2.2.1 <;> cases inR p.2.2.2.2.2.1 0 ((x.2.2.2.length : Int) - 1) <;> cases p.2.2.2.1.all full <;> cases inR p.2.1 0 7 <;> cases inR p.2.2.1 0 7 <;> cases inR p.2.2.2.2.2.2.2.1 0 100000 <;> cases inR p.2.2.2.2.2.2.2.2.1 0 100000 <;> rfl

def between (a b : Int) (f : den tFlow) : Bool := (f.1 == a && f.2.1 == b) || (f.1 == b && f.2.1 == a)

def evPk (e : den tEvent) : den tPacket := e.2.2.2.2.2

noncomputable def harm (w : den tNetwork) (e : den tEvent) : Bool :=
  cond (!(e.1 == 7) || (!validK (evPk e) || (evPk e).1 == 3)) true (cond (w.2.2.2.2.2.1.all fun x => !sameK x.2.2 (evPk e)) (w.2.2.2.2.2.2.1.all fun f => !between (evPk e).2.1 (evPk e).2.2.1 f) true)

theorem i_harm {w : den tNetwork} {e : den tEvent} (hw : SmB 68719476736 tNetwork w) (he : SmB 68719476736 tEvent e) : i_Harmless w e = some (harm w e) := by
  have hp : SmB 68719476736 tPacket (evPk e) := he.2.2.2.2.2
  unfold i_Harmless harm
  rw [loop_scan (l := w.2.2.2.2.2.1) (fun _ x => if !sameK x.2.2 (evPk e) then none else some true) (Nat.le_trans hw.2.2.2.2.2.1.1 (by decide)) (fun k x hi hd hw2 hm hk => by
    have hs : i_EqualPackets x.2.2 e.2.2.2.2.2 = some (sameK x.2.2 (evPk e)) := i_sameK (hw.2.2.2.2.2.1.2 x hm).2.2 hp
    simp only [hd, hi, hw2, cond_true, obind_some, peta, hs]
    cases sameK x.2.2 (evPk e) <;> rfl) (by simp), scanA (fun x : den tPacketInFlight => !sameK x.2.2 (evPk e))]
  rw [loop_scan (l := w.2.2.2.2.2.2.1) (fun _ f => if !between (evPk e).2.1 (evPk e).2.2.1 f then none else some false) (Nat.le_trans hw.2.2.2.2.2.2.1.1 (by decide)) (fun k x hi hd hw hm hk => by
    simp only [hd, hi, hw, cond_true, obind_some]
    show @Option.bind Bool _ (cond (x.1 == (evPk e).2.1) (cond (x.2.1 == (evPk e).2.2.1) (some true) (cond (x.1 == (evPk e).2.2.1) (some (x.2.1 == (evPk e).2.1)) (some false))) (cond (x.1 == (evPk e).2.2.1) (some (x.2.1 == (evPk e).2.1)) (some false))) _ = _
    unfold between
    cases x.1 == (evPk e).2.1 <;> cases x.2.1 == (evPk e).2.2.1 <;> cases x.1 == (evPk e).2.2.1 <;> cases x.2.1 == (evPk e).2.1 <;> rfl) (by simp), scanA (fun f : den tFlow => !between (evPk e).2.1 (evPk e).2.2.1 f)]
  have hv : i_ValidPacket e.2.2.2.2.2 = some (validK (evPk e)) := i_validK hp
  simp only [peta, hv, obind_some, bne]
  show @Option.bind Bool Bool (cond (!(e.1 == 7)) (some true) (cond (!validK (evPk e)) (some true) (some ((evPk e).1 == 3)))) _ = _
  cases e.1 == 7
  · rfl
  · cases validK (evPk e)
    · rfl
    · cases (evPk e).1 == 3
      · cases w.2.2.2.2.2.1.all (fun x => !sameK x.2.2 (evPk e)) <;> cases w.2.2.2.2.2.2.1.all (fun f => !between (evPk e).2.1 (evPk e).2.2.1 f) <;> rfl
      · rfl

theorem s_flowing {w : den tNetwork} {a b : Int} (hw : SmB 68719476736 tNetwork w) : s_l38Flowing w a b = some (!(w.2.2.2.2.2.2.1.all fun f => !between a b f)) := by
  unfold s_l38Flowing
  rw [loop_scan (l := w.2.2.2.2.2.2.1) (fun _ f => if !between a b f then none else some true) (Nat.le_trans hw.2.2.2.2.2.2.1.1 (by decide)) (fun k x hi hd hw hm hk => by
    simp only [hd, hi, hw, cond_true, obind_some]
    unfold between
    cases x.1 == a <;> cases x.2.1 == b <;> cases x.1 == b <;> cases x.2.1 == a <;> rfl) (by simp), scanA (fun f : den tFlow => !between a b f)]
  cases w.2.2.2.2.2.2.1.all (fun f => !between a b f) <;> rfl

theorem s_harm {w : den tNetwork} {e : den tEvent} (hw : SmB 68719476736 tNetwork w) (he : SmB 68719476736 tEvent e) : s_Harmless w e = some (harm w e) := by
  have hp : SmB 68719476736 tPacket (evPk e) := he.2.2.2.2.2
  unfold s_Harmless harm
  rw [loop_scan (l := w.2.2.2.2.2.1) (fun _ x => if !sameK x.2.2 (evPk e) then none else some true) (Nat.le_trans hw.2.2.2.2.2.1.1 (by decide)) (fun k x hi hd hw2 hm hk => by
    have hs : s_EqualPackets x.2.2 e.2.2.2.2.2 = some (sameK x.2.2 (evPk e)) := s_sameK (hw.2.2.2.2.2.1.2 x hm).2.2 hp
    simp only [hd, hi, hw2, cond_true, obind_some, peta, hs]
    cases sameK x.2.2 (evPk e) <;> rfl) (by simp), scanA (fun x : den tPacketInFlight => !sameK x.2.2 (evPk e))]
  have hv : s_ValidPacket e.2.2.2.2.2 = some (validK (evPk e)) := s_validK hp
  have hf : s_l38Flowing w e.2.2.2.2.2.2.1 e.2.2.2.2.2.2.2.1 = some (!(w.2.2.2.2.2.2.1.all fun f => !between (evPk e).2.1 (evPk e).2.2.1 f)) := s_flowing hw
  simp only [peta, hv, hf, obind_some, bne]
  show @Option.bind Bool Bool (cond (!(e.1 == 7)) (some true) (cond (!validK (evPk e)) (some true) (cond ((evPk e).1 == 3) (some true) _))) _ = _
  cases e.1 == 7
  · rfl
  · cases validK (evPk e)
    · rfl
    · cases (evPk e).1 == 3
      · cases w.2.2.2.2.2.1.all (fun x => !sameK x.2.2 (evPk e)) <;> cases w.2.2.2.2.2.2.1.all (fun f => !between (evPk e).2.1 (evPk e).2.2.1 f) <;> rfl
      · rfl

end Go.Proofs.YtmnjhbhppkploaaGreat
