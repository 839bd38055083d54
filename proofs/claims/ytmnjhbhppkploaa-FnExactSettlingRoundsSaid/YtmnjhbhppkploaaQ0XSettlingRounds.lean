/-
  Facts and plain laws: what the functions compute, in plain words. Conditions: as each says.
-/
import Derived.Test.YtmnjhbhppkploaaT0XSettlingRounds
set_option linter.unusedVariables false
set_option linter.unusedSimpArgs false
set_option maxRecDepth 100000
namespace Go.Proofs.Ytmnjhbhppkploaa
open Go.Ab Go.V
theorem sz_ASS {l : den (.sl tAS)} {left : Int} (w : Wf (.sl tAS) l) (h0 : 0 ≤ left) (h1 : left ≤ 1048576) : SzT (l_szASS l left) left (tot (.sl tAS) l) := szF_ok (t := tAS) rfl w.1 h0 h1

theorem sz_LinkS {l : den (.sl tLink)} {left : Int} (w : Wf (.sl tLink) l) (h0 : 0 ≤ left) (h1 : left ≤ 1048576) : SzT (l_szLinkS l left) left (tot (.sl tLink) l) := szF_ok (t := tLink) rfl w.1 h0 h1

theorem sz_Topology {x : den tTopology} {left : Int} (w : Wf tTopology x) (h0 : 0 ≤ left) (h1 : left ≤ 1048576) : SzT (l_szTopology x left) left (tot tTopology x) := SzT.eq (sz_field (sz_ASS w.1 h0 h1) h1 fun r0 a0 b0 => sz_field (sz_LinkS w.2 a0 b0) b0 fun r1 a1 b1 => sz_done a1) (by simp [tot, tot_flat] <;> omega)

theorem sz_HopS {l : den (.sl tHop)} {left : Int} (w : Wf (.sl tHop) l) (h0 : 0 ≤ left) (h1 : left ≤ 1048576) : SzT (l_szHopS l left) left (tot (.sl tHop) l) := szF_ok (t := tHop) rfl w.1 h0 h1

theorem sz_Segment {x : den tSegment} {left : Int} (w : Wf tSegment x) (h0 : 0 ≤ left) (h1 : left ≤ 1048576) : SzT (l_szSegment x left) left (tot tSegment x) := SzT.eq (sz_field (sz_HopS w.2.2 h0 h1) h1 fun r0 a0 b0 => sz_done a0) (by simp [tot, tot_flat])

theorem sz_SegmentS {l : den (.sl tSegment)} {left : Int} (w : Wf (.sl tSegment) l) (h0 : 0 ≤ left) (h1 : left ≤ 1048576) : SzT (l_szSegmentS l left) left (tot (.sl tSegment) l) := szL_ok (t := tSegment) (szE := l_szSegment) w.1 h0 h1 fun x hx k k0 k1 => sz_Segment (w.2 x hx) k0 k1

theorem sz_SegmentDatabase {x : den tSegmentDatabase} {left : Int} (w : Wf tSegmentDatabase x) (h0 : 0 ≤ left) (h1 : left ≤ 1048576) : SzT (l_szSegmentDatabase x left) left (tot tSegmentDatabase x) := SzT.eq (sz_field (sz_SegmentS w.1 h0 h1) h1 fun r0 a0 b0 => sz_field (sz_SegmentS w.2 a0 b0) b0 fun r1 a1 b1 => sz_done a1) (by simp [tot, tot_flat] <;> omega)

theorem sz_ReservationS {l : den (.sl tReservation)} {left : Int} (w : Wf (.sl tReservation) l) (h0 : 0 ≤ left) (h1 : left ≤ 1048576) : SzT (l_szReservationS l left) left (tot (.sl tReservation) l) := szF_ok (t := tReservation) rfl w.1 h0 h1

theorem sz_UsageS {l : den (.sl tUsage)} {left : Int} (w : Wf (.sl tUsage) l) (h0 : 0 ≤ left) (h1 : left ≤ 1048576) : SzT (l_szUsageS l left) left (tot (.sl tUsage) l) := szF_ok (t := tUsage) rfl w.1 h0 h1

theorem sz_Scheduler {x : den tScheduler} {left : Int} (w : Wf tScheduler x) (h0 : 0 ≤ left) (h1 : left ≤ 1048576) : SzT (l_szScheduler x left) left (tot tScheduler x) := SzT.eq (sz_field (sz_ReservationS w.2.1 h0 h1) h1 fun r0 a0 b0 => sz_field (sz_UsageS w.2.2 a0 b0) b0 fun r1 a1 b1 => sz_done a1) (by simp [tot, tot_flat] <;> omega)

theorem sz_IntS {l : den (.sl ti)} {left : Int} (w : Wf (.sl ti) l) (h0 : 0 ≤ left) (h1 : left ≤ 1048576) : SzT (l_szIntS l left) left (tot (.sl ti) l) := szF_ok (t := ti) rfl w.1 h0 h1

theorem sz_PathPart {x : den tPathPart} {left : Int} (w : Wf tPathPart x) (h0 : 0 ≤ left) (h1 : left ≤ 1048576) : SzT (l_szPathPart x left) left (tot tPathPart x) := SzT.eq (sz_field (sz_HopS w.2.2.2 h0 h1) h1 fun r0 a0 b0 => sz_done a0) (by simp [tot, tot_flat])

theorem sz_PathPartS {l : den (.sl tPathPart)} {left : Int} (w : Wf (.sl tPathPart) l) (h0 : 0 ≤ left) (h1 : left ≤ 1048576) : SzT (l_szPathPartS l left) left (tot (.sl tPathPart) l) := szL_ok (t := tPathPart) (szE := l_szPathPart) w.1 h0 h1 fun x hx k k0 k1 => sz_PathPart (w.2 x hx) k0 k1

theorem sz_Path {x : den tPath} {left : Int} (w : Wf tPath x) (h0 : 0 ≤ left) (h1 : left ≤ 1048576) : SzT (l_szPath x left) left (tot tPath x) := SzT.eq (sz_field (sz_PathPartS w h0 h1) h1 fun r0 a0 b0 => sz_done a0) (by simp [tot, tot_flat])

theorem sz_ByteS {l : den (.sl tb)} {left : Int} (w : Wf (.sl tb) l) (h0 : 0 ≤ left) (h1 : left ≤ 1048576) : SzT (l_szByteS l left) left (tot (.sl tb) l) := szF_ok (t := tb) rfl w.1 h0 h1

theorem sz_Packet {x : den tPacket} {left : Int} (w : Wf tPacket x) (h0 : 0 ≤ left) (h1 : left ≤ 1048576) : SzT (l_szPacket x left) left (tot tPacket x) := SzT.eq (sz_field (sz_Path w.2.2.2.1 h0 h1) h1 fun r0 a0 b0 => sz_field (sz_ByteS w.2.2.2.2.2.2.2.2.2 a0 b0) b0 fun r1 a1 b1 => sz_done a1) (by simp [tot, tot_flat] <;> omega)

theorem sz_PacketInFlight {x : den tPacketInFlight} {left : Int} (w : Wf tPacketInFlight x) (h0 : 0 ≤ left) (h1 : left ≤ 1048576) : SzT (l_szPacketInFlight x left) left (tot tPacketInFlight x) := SzT.eq (sz_field (sz_Packet w.2.2 h0 h1) h1 fun r0 a0 b0 => sz_done a0) (by simp [tot, tot_flat])

theorem sz_PacketInFlightS {l : den (.sl tPacketInFlight)} {left : Int} (w : Wf (.sl tPacketInFlight) l) (h0 : 0 ≤ left) (h1 : left ≤ 1048576) : SzT (l_szPacketInFlightS l left) left (tot (.sl tPacketInFlight) l) := szL_ok (t := tPacketInFlight) (szE := l_szPacketInFlight) w.1 h0 h1 fun x hx k k0 k1 => sz_PacketInFlight (w.2 x hx) k0 k1

theorem sz_Message {x : den tMessage} {left : Int} (w : Wf tMessage x) (h0 : 0 ≤ left) (h1 : left ≤ 1048576) : SzT (l_szMessage x left) left (tot tMessage x) := SzT.eq (sz_field (sz_ByteS w h0 h1) h1 fun r0 a0 b0 => sz_done a0) (by simp [tot, tot_flat])

theorem sz_MessageS {l : den (.sl tMessage)} {left : Int} (w : Wf (.sl tMessage) l) (h0 : 0 ≤ left) (h1 : left ≤ 1048576) : SzT (l_szMessageS l left) left (tot (.sl tMessage) l) := szL_ok (t := tMessage) (szE := l_szMessage) w.1 h0 h1 fun x hx k k0 k1 => sz_Message (w.2 x hx) k0 k1

theorem sz_PathS {l : den (.sl tPath)} {left : Int} (w : Wf (.sl tPath) l) (h0 : 0 ≤ left) (h1 : left ≤ 1048576) : SzT (l_szPathS l left) left (tot (.sl tPath) l) := szL_ok (t := tPath) (szE := l_szPath) w.1 h0 h1 fun x hx k k0 k1 => sz_Path (w.2 x hx) k0 k1

theorem sz_RevocationS {l : den (.sl tRevocation)} {left : Int} (w : Wf (.sl tRevocation) l) (h0 : 0 ≤ left) (h1 : left ≤ 1048576) : SzT (l_szRevocationS l left) left (tot (.sl tRevocation) l) := szF_ok (t := tRevocation) rfl w.1 h0 h1

theorem sz_Flow {x : den tFlow} {left : Int} (w : Wf tFlow x) (h0 : 0 ≤ left) (h1 : left ≤ 1048576) : SzT (l_szFlow x left) left (tot tFlow x) := SzT.eq (sz_field (sz_MessageS w.2.2.2.2.1 h0 h1) h1 fun r0 a0 b0 => sz_field (sz_PathS w.2.2.2.2.2.1 a0 b0) b0 fun r1 a1 b1 => sz_field (sz_RevocationS w.2.2.2.2.2.2.2.2 a1 b1) b1 fun r2 a2 b2 => sz_done a2) (by simp [tot, tot_flat] <;> omega)

theorem sz_FlowS {l : den (.sl tFlow)} {left : Int} (w : Wf (.sl tFlow) l) (h0 : 0 ≤ left) (h1 : left ≤ 1048576) : SzT (l_szFlowS l left) left (tot (.sl tFlow) l) := szL_ok (t := tFlow) (szE := l_szFlow) w.1 h0 h1 fun x hx k k0 k1 => sz_Flow (w.2 x hx) k0 k1

theorem sz_Inbox {x : den tInbox} {left : Int} (w : Wf tInbox x) (h0 : 0 ≤ left) (h1 : left ≤ 1048576) : SzT (l_szInbox x left) left (tot tInbox x) := SzT.eq (sz_field (sz_MessageS w.2.2.2 h0 h1) h1 fun r0 a0 b0 => sz_done a0) (by simp [tot, tot_flat])

theorem sz_InboxS {l : den (.sl tInbox)} {left : Int} (w : Wf (.sl tInbox) l) (h0 : 0 ≤ left) (h1 : left ≤ 1048576) : SzT (l_szInboxS l left) left (tot (.sl tInbox) l) := szL_ok (t := tInbox) (szE := l_szInbox) w.1 h0 h1 fun x hx k k0 k1 => sz_Inbox (w.2 x hx) k0 k1

theorem sz_Network {x : den tNetwork} {left : Int} (w : Wf tNetwork x) (h0 : 0 ≤ left) (h1 : left ≤ 1048576) : SzT (l_szNetwork x left) left (tot tNetwork x) := SzT.eq (sz_field (sz_Topology w.1 h0 h1) h1 fun r0 a0 b0 => sz_field (sz_SegmentDatabase w.2.1 a0 b0) b0 fun r1 a1 b1 => sz_field (sz_Scheduler w.2.2.1 a1 b1) b1 fun r2 a2 b2 => sz_field (sz_IntS w.2.2.2.2.1 a2 b2) b2 fun r3 a3 b3 => sz_field (sz_PacketInFlightS w.2.2.2.2.2.1 a3 b3) b3 fun r4 a4 b4 => sz_field (sz_FlowS w.2.2.2.2.2.2.1 a4 b4) b4 fun r5 a5 b5 => sz_field (sz_InboxS w.2.2.2.2.2.2.2.1 a5 b5) b5 fun r6 a6 b6 => sz_done a6) (by simp [tot, tot_flat] <;> omega)

theorem to_AS {x : den tAS} (h : Sm tAS x) : l_toAS x = some x := by
  unfold l_toAS
  rfl

theorem to_ASS {l : den (.sl tAS)} (h : Sm (.sl tAS) l) : l_toASS l = some l := by
  have : l_toASS l = some (l.map id) := toL_eq (toE := l_toAS) (g := id) h.1 (by decide) fun x hx => to_AS (h.2 x hx)
  simpa using this

theorem to_Link {x : den tLink} (h : Sm tLink x) : l_toLink x = some x := by
  unfold l_toLink
  rfl

theorem to_LinkS {l : den (.sl tLink)} (h : Sm (.sl tLink) l) : l_toLinkS l = some l := by
  have : l_toLinkS l = some (l.map id) := toL_eq (toE := l_toLink) (g := id) h.1 (by decide) fun x hx => to_Link (h.2 x hx)
  simpa using this

theorem to_Topology {x : den tTopology} (h : Sm tTopology x) : l_toTopology x = some x := by
  unfold l_toTopology
  simp [to_ASS h.1, to_LinkS h.2]

theorem to_Hop {x : den tHop} (h : Sm tHop x) : l_toHop x = some x := by
  unfold l_toHop
  rfl

theorem to_HopS {l : den (.sl tHop)} (h : Sm (.sl tHop) l) : l_toHopS l = some l := by
  have : l_toHopS l = some (l.map id) := toL_eq (toE := l_toHop) (g := id) h.1 (by decide) fun x hx => to_Hop (h.2 x hx)
  simpa using this

theorem to_Segment {x : den tSegment} (h : Sm tSegment x) : l_toSegment x = some x := by
  unfold l_toSegment
  simp [to_HopS h.2.2]

theorem to_SegmentS {l : den (.sl tSegment)} (h : Sm (.sl tSegment) l) : l_toSegmentS l = some l := by
  have : l_toSegmentS l = some (l.map id) := toL_eq (toE := l_toSegment) (g := id) h.1 (by decide) fun x hx => to_Segment (h.2 x hx)
  simpa using this

theorem to_SegmentDatabase {x : den tSegmentDatabase} (h : Sm tSegmentDatabase x) : l_toSegmentDatabase x = some x := by
  unfold l_toSegmentDatabase
  simp [to_SegmentS h.1, to_SegmentS h.2]

theorem to_Reservation {x : den tReservation} (h : Sm tReservation x) : l_toReservation x = some x := by
  unfold l_toReservation
  rfl

theorem to_ReservationS {l : den (.sl tReservation)} (h : Sm (.sl tReservation) l) : l_toReservationS l = some l := by
  have : l_toReservationS l = some (l.map id) := toL_eq (toE := l_toReservation) (g := id) h.1 (by decide) fun x hx => to_Reservation (h.2 x hx)
  simpa using this

theorem to_Usage {x : den tUsage} (h : Sm tUsage x) : l_toUsage x = some x := by
  unfold l_toUsage
  rfl

theorem to_UsageS {l : den (.sl tUsage)} (h : Sm (.sl tUsage) l) : l_toUsageS l = some l := by
  have : l_toUsageS l = some (l.map id) := toL_eq (toE := l_toUsage) (g := id) h.1 (by decide) fun x hx => to_Usage (h.2 x hx)
  simpa using this

theorem to_Scheduler {x : den tScheduler} (h : Sm tScheduler x) : l_toScheduler x = some x := by
  unfold l_toScheduler
  simp [to_ReservationS h.2.1, to_UsageS h.2.2]

theorem to_IntS {l : den (.sl ti)} (h : Sm (.sl ti) l) : l_toIntS l = some l := by
  have : l_toIntS l = some (l.map id) := toL_eq (toE := some) (g := id) h.1 (by decide) fun x hx => rfl
  simpa using this

theorem to_PathPart {x : den tPathPart} (h : Sm tPathPart x) : l_toPathPart x = some x := by
  unfold l_toPathPart
  simp [to_HopS h.2.2.2]

theorem to_PathPartS {l : den (.sl tPathPart)} (h : Sm (.sl tPathPart) l) : l_toPathPartS l = some l := by
  have : l_toPathPartS l = some (l.map id) := toL_eq (toE := l_toPathPart) (g := id) h.1 (by decide) fun x hx => to_PathPart (h.2 x hx)
  simpa using this

theorem to_Path {x : den tPath} (h : Sm tPath x) : l_toPath x = some x := by
  unfold l_toPath
  simp [to_PathPartS h]

theorem to_ByteS {l : den (.sl tb)} (h : Sm (.sl tb) l) : l_toByteS l = some l := by
  have : l_toByteS l = some (l.map id) := toL_eq (toE := some) (g := id) h.1 (by decide) fun x hx => rfl
  simpa using this

theorem to_Packet {x : den tPacket} (h : Sm tPacket x) : l_toPacket x = some (x.1, x.2.1, x.2.2.1, x.2.2.2.2.1, x.2.2.2.2.2.1, x.2.2.2.2.2.2.1, x.2.2.2.2.2.2.2.1, x.2.2.2.2.2.2.2.2.1, x.2.2.2.1, x.2.2.2.2.2.2.2.2.2) := by
  unfold l_toPacket
  simp only [to_Path h.2.2.2.1, to_ByteS h.2.2.2.2.2.2.2.2.2, obind_some, peta]

theorem to_PacketInFlight {x : den tPacketInFlight} (h : Sm tPacketInFlight x) : l_toPacketInFlight x = some (x.1, x.2.1, x.2.2.1, x.2.2.2.1, x.2.2.2.2.1, x.2.2.2.2.2.2.1, x.2.2.2.2.2.2.2.1, x.2.2.2.2.2.2.2.2.1, x.2.2.2.2.2.2.2.2.2.1, x.2.2.2.2.2.2.2.2.2.2.1, x.2.2.2.2.2.1, x.2.2.2.2.2.2.2.2.2.2.2) := by
  unfold l_toPacketInFlight
  simp only [to_Packet h.2.2, obind_some, peta]

theorem to_PacketInFlightS {l : den (.sl tPacketInFlight)} (h : Sm (.sl tPacketInFlight) l) : l_toPacketInFlightS l = some l := by
  unfold l_toPacketInFlightS
  exact toL_run' h.1 (by decide) (fun k L x hi hm h1 h2 h3 h4 hw => by simp only [h1, h2, h3, h4, hi, to_PacketInFlight (h.2 x hm), obind_some, cond_true, Int.toNat_natCast, hw, peta]) (fun L => by simp)

theorem to_Message {x : den tMessage} (h : Sm tMessage x) : l_toMessage x = some x := by
  unfold l_toMessage
  simp [to_ByteS h]

theorem to_MessageS {l : den (.sl tMessage)} (h : Sm (.sl tMessage) l) : l_toMessageS l = some l := by
  have : l_toMessageS l = some (l.map id) := toL_eq (toE := l_toMessage) (g := id) h.1 (by decide) fun x hx => to_Message (h.2 x hx)
  simpa using this

theorem to_PathS {l : den (.sl tPath)} (h : Sm (.sl tPath) l) : l_toPathS l = some l := by
  have : l_toPathS l = some (l.map id) := toL_eq (toE := l_toPath) (g := id) h.1 (by decide) fun x hx => to_Path (h.2 x hx)
  simpa using this

theorem to_Revocation {x : den tRevocation} (h : Sm tRevocation x) : l_toRevocation x = some x := by
  unfold l_toRevocation
  rfl

theorem to_RevocationS {l : den (.sl tRevocation)} (h : Sm (.sl tRevocation) l) : l_toRevocationS l = some l := by
  have : l_toRevocationS l = some (l.map id) := toL_eq (toE := l_toRevocation) (g := id) h.1 (by decide) fun x hx => to_Revocation (h.2 x hx)
  simpa using this

theorem to_Flow {x : den tFlow} (h : Sm tFlow x) : l_toFlow x = some (x.1, x.2.1, x.2.2.1, x.2.2.2.1, x.2.2.2.2.2.2.1, x.2.2.2.2.2.2.2.1, x.2.2.2.2.1, x.2.2.2.2.2.1, x.2.2.2.2.2.2.2.2) := by
  unfold l_toFlow
  simp only [to_MessageS h.2.2.2.2.1, to_PathS h.2.2.2.2.2.1, to_RevocationS h.2.2.2.2.2.2.2.2, obind_some, peta]

theorem to_FlowS {l : den (.sl tFlow)} (h : Sm (.sl tFlow) l) : l_toFlowS l = some l := by
  unfold l_toFlowS
  exact toL_run h.1 (by decide) (fun k L x hi hm h1 h2 h3 h4 hw => by simp only [h1, h2, h3, h4, hi, to_Flow (h.2 x hm), obind_some, cond_true, Int.toNat_natCast, hw, peta]) (fun L => by simp)

theorem to_Inbox {x : den tInbox} (h : Sm tInbox x) : l_toInbox x = some x := by
  unfold l_toInbox
  simp [to_MessageS h.2.2.2]

theorem to_InboxS {l : den (.sl tInbox)} (h : Sm (.sl tInbox) l) : l_toInboxS l = some l := by
  have : l_toInboxS l = some (l.map id) := toL_eq (toE := l_toInbox) (g := id) h.1 (by decide) fun x hx => to_Inbox (h.2 x hx)
  simpa using this

theorem to_Network {x : den tNetwork} (h : Sm tNetwork x) : l_toNetwork x = some (x.2.2.1.1, x.2.2.2.1, x.2.2.2.2.2.2.2.2, x.1.1, x.1.2, x.2.1.1, x.2.1.2, x.2.2.1.2.1, x.2.2.1.2.2, x.2.2.2.2.1, x.2.2.2.2.2.1, x.2.2.2.2.2.2.1, x.2.2.2.2.2.2.2.1) := by
  unfold l_toNetwork
  simp only [to_Topology h.1, to_SegmentDatabase h.2.1, to_Scheduler h.2.2.1, to_IntS h.2.2.2.2.1, to_PacketInFlightS h.2.2.2.2.2.1, to_FlowS h.2.2.2.2.2.2.1, to_InboxS h.2.2.2.2.2.2.2.1, obind_some, peta]

theorem eq_AS {x : den tAS} (h : SmB 4611686018427387904 tAS x) : l_eqAS x x = some true := by
  unfold l_eqAS
  simp

theorem eq_ASS {l : den (.sl tAS)} (h : SmB 4611686018427387904 (.sl tAS) l) : l_eqASS l l = some true := eqL_refl (eqE := l_eqAS) h.1 fun x hx => eq_AS (h.2 x hx)

theorem eq_Link {x : den tLink} (h : SmB 4611686018427387904 tLink x) : l_eqLink x x = some true := by
  unfold l_eqLink
  simp

theorem eq_LinkS {l : den (.sl tLink)} (h : SmB 4611686018427387904 (.sl tLink) l) : l_eqLinkS l l = some true := eqL_refl (eqE := l_eqLink) h.1 fun x hx => eq_Link (h.2 x hx)

theorem eq_Topology {x : den tTopology} (h : SmB 4611686018427387904 tTopology x) : l_eqTopology x x = some true := by
  unfold l_eqTopology
  simp [eq_ASS h.1, eq_LinkS h.2]

theorem eq_Hop {x : den tHop} (h : SmB 4611686018427387904 tHop x) : l_eqHop x x = some true := by
  unfold l_eqHop
  simp

theorem eq_HopS {l : den (.sl tHop)} (h : SmB 4611686018427387904 (.sl tHop) l) : l_eqHopS l l = some true := eqL_refl (eqE := l_eqHop) h.1 fun x hx => eq_Hop (h.2 x hx)

theorem eq_Segment {x : den tSegment} (h : SmB 4611686018427387904 tSegment x) : l_eqSegment x x = some true := by
  unfold l_eqSegment
  simp [eq_HopS h.2.2]

theorem eq_SegmentS {l : den (.sl tSegment)} (h : SmB 4611686018427387904 (.sl tSegment) l) : l_eqSegmentS l l = some true := eqL_refl (eqE := l_eqSegment) h.1 fun x hx => eq_Segment (h.2 x hx)

theorem eq_SegmentDatabase {x : den tSegmentDatabase} (h : SmB 4611686018427387904 tSegmentDatabase x) : l_eqSegmentDatabase x x = some true := by
  unfold l_eqSegmentDatabase
  simp [eq_SegmentS h.1, eq_SegmentS h.2]

theorem eq_Reservation {x : den tReservation} (h : SmB 4611686018427387904 tReservation x) : l_eqReservation x x = some true := by
  unfold l_eqReservation
  simp

theorem eq_ReservationS {l : den (.sl tReservation)} (h : SmB 4611686018427387904 (.sl tReservation) l) : l_eqReservationS l l = some true := eqL_refl (eqE := l_eqReservation) h.1 fun x hx => eq_Reservation (h.2 x hx)

theorem eq_Usage {x : den tUsage} (h : SmB 4611686018427387904 tUsage x) : l_eqUsage x x = some true := by
  unfold l_eqUsage
  simp

theorem eq_UsageS {l : den (.sl tUsage)} (h : SmB 4611686018427387904 (.sl tUsage) l) : l_eqUsageS l l = some true := eqL_refl (eqE := l_eqUsage) h.1 fun x hx => eq_Usage (h.2 x hx)

theorem eq_Scheduler {x : den tScheduler} (h : SmB 4611686018427387904 tScheduler x) : l_eqScheduler x x = some true := by
  unfold l_eqScheduler
  simp [eq_ReservationS h.2.1, eq_UsageS h.2.2]

theorem eq_IntS {l : den (.sl ti)} (h : SmB 4611686018427387904 (.sl ti) l) : l_eqIntS l l = some true := eqL_refl (eqE := (fun x y => some (x == y))) h.1 fun x hx => by simp

theorem eq_PathPart {x : den tPathPart} (h : SmB 4611686018427387904 tPathPart x) : l_eqPathPart x x = some true := by
  unfold l_eqPathPart
  simp [eq_HopS h.2.2.2]

theorem eq_PathPartS {l : den (.sl tPathPart)} (h : SmB 4611686018427387904 (.sl tPathPart) l) : l_eqPathPartS l l = some true := eqL_refl (eqE := l_eqPathPart) h.1 fun x hx => eq_PathPart (h.2 x hx)

theorem eq_Path {x : den tPath} (h : SmB 4611686018427387904 tPath x) : l_eqPath x x = some true := by
  unfold l_eqPath
  simp [eq_PathPartS h]

theorem eq_ByteS {l : den (.sl tb)} (h : SmB 4611686018427387904 (.sl tb) l) : l_eqByteS l l = some true := eqL_refl (eqE := (fun x y => some (x == y))) h.1 fun x hx => by simp

theorem eq_Packet {x : den tPacket} (h : SmB 4611686018427387904 tPacket x) : l_eqPacket x x = some true := by
  unfold l_eqPacket
  simp [eq_Path h.2.2.2.1, eq_ByteS h.2.2.2.2.2.2.2.2.2]

theorem eq_PacketInFlight {x : den tPacketInFlight} (h : SmB 4611686018427387904 tPacketInFlight x) : l_eqPacketInFlight x x = some true := by
  unfold l_eqPacketInFlight
  simp [eq_Packet h.2.2]

theorem eq_PacketInFlightS {l : den (.sl tPacketInFlight)} (h : SmB 4611686018427387904 (.sl tPacketInFlight) l) : l_eqPacketInFlightS l l = some true := eqL_refl (eqE := l_eqPacketInFlight) h.1 fun x hx => eq_PacketInFlight (h.2 x hx)

theorem eq_Message {x : den tMessage} (h : SmB 4611686018427387904 tMessage x) : l_eqMessage x x = some true := by
  unfold l_eqMessage
  simp [eq_ByteS h]

theorem eq_MessageS {l : den (.sl tMessage)} (h : SmB 4611686018427387904 (.sl tMessage) l) : l_eqMessageS l l = some true := eqL_refl (eqE := l_eqMessage) h.1 fun x hx => eq_Message (h.2 x hx)

theorem eq_PathS {l : den (.sl tPath)} (h : SmB 4611686018427387904 (.sl tPath) l) : l_eqPathS l l = some true := eqL_refl (eqE := l_eqPath) h.1 fun x hx => eq_Path (h.2 x hx)

theorem eq_Revocation {x : den tRevocation} (h : SmB 4611686018427387904 tRevocation x) : l_eqRevocation x x = some true := by
  unfold l_eqRevocation
  simp

theorem eq_RevocationS {l : den (.sl tRevocation)} (h : SmB 4611686018427387904 (.sl tRevocation) l) : l_eqRevocationS l l = some true := eqL_refl (eqE := l_eqRevocation) h.1 fun x hx => eq_Revocation (h.2 x hx)

theorem eq_Flow {x : den tFlow} (h : SmB 4611686018427387904 tFlow x) : l_eqFlow x x = some true := by
  unfold l_eqFlow
  simp [eq_MessageS h.2.2.2.2.1, eq_PathS h.2.2.2.2.2.1, eq_RevocationS h.2.2.2.2.2.2.2.2]

theorem eq_FlowS {l : den (.sl tFlow)} (h : SmB 4611686018427387904 (.sl tFlow) l) : l_eqFlowS l l = some true := eqL_refl (eqE := l_eqFlow) h.1 fun x hx => eq_Flow (h.2 x hx)

theorem eq_Inbox {x : den tInbox} (h : SmB 4611686018427387904 tInbox x) : l_eqInbox x x = some true := by
  unfold l_eqInbox
  simp [eq_MessageS h.2.2.2]

theorem eq_InboxS {l : den (.sl tInbox)} (h : SmB 4611686018427387904 (.sl tInbox) l) : l_eqInboxS l l = some true := eqL_refl (eqE := l_eqInbox) h.1 fun x hx => eq_Inbox (h.2 x hx)

theorem eq_Network {x : den tNetwork} (h : SmB 4611686018427387904 tNetwork x) : l_eqNetwork x x = some true := by
  unfold l_eqNetwork
  simp [eq_Topology h.1, eq_SegmentDatabase h.2.1, eq_Scheduler h.2.2.1, eq_IntS h.2.2.2.2.1, eq_PacketInFlightS h.2.2.2.2.2.1, eq_FlowS h.2.2.2.2.2.2.1, eq_InboxS h.2.2.2.2.2.2.2.1]

theorem i_max (a b : Int) : i_Max a b = some (if b > a then b else a) := rfl

theorem s_max (a b : Int) : s_Max a b = some (if b > a then b else a) := by
  unfold s_Max
  by_cases h : b > a <;> simp [h]

def settleF (f : den tFlow) : Int := wr ((wr ((wr ((f.2.2.2.2.2.1.length : Int) + (2 : Int))) * (21 : Int))) + (wr ((2 : Int) * (f.2.2.2.2.1.length : Int))))

def settleW (w : den tNetwork) : Int := foldI (fun _ f a => if settleF f > a then settleF f else a) 0 w.2.2.2.2.2.2.1 0

theorem i_settle {w : den tNetwork} (h : w.2.2.2.2.2.2.1.length ≤ 1048576) : i_SettlingRounds w = some (wr (8 + settleW w)) := by
  unfold i_SettlingRounds settleW
  rw [loopG (fun k (a : Int) => (a, (k : Int))) ((0 : Int), (0 : Int)) 0 w.2.2.2.2.2.2.1 (fun _ f a => if settleF f > a then settleF f else a) (fun _ => 0) (fun _ => 0) 1 id rfl (by omega) (by rw [sum_nil]; omega) (fun k x a => by omega) (fun k x a hi hx hd hw hk hb => by
    simp only [hd, hi, hw, cond_true, obind_some, i_max]
    rfl) (fun a => by simp)]
  rfl

theorem s_settle {w : den tNetwork} (h : w.2.2.2.2.2.2.1.length ≤ 1048576) : s_SettlingRounds w = some (wr (8 + settleW w)) := by
  unfold s_SettlingRounds settleW
  rw [loopG (fun k (a : Int) => (a, (k : Int))) ((0 : Int), (0 : Int)) 0 w.2.2.2.2.2.2.1 (fun _ f a => if settleF f > a then settleF f else a) (fun _ => 0) (fun _ => 0) 1 id rfl (by omega) (by rw [sum_nil]; omega) (fun k x a => by omega) (fun k x a hi hx hd hw hk hb => by
    simp only [hd, hi, hw, cond_true, obind_some, s_max]
    rfl) (fun a => by simp)]
  rw [obind_some, Int.add_comm]
  rfl

end Go.Proofs.Ytmnjhbhppkploaa
