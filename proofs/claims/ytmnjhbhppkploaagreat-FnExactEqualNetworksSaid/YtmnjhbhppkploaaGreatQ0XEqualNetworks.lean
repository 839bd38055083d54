/-
  Facts and plain laws: what the functions compute, in plain words. Conditions: as each says.
-/
import Derived.Test.YtmnjhbhppkploaaGreatT0XEqualNetworks
set_option linter.unusedVariables false
set_option linter.unusedSimpArgs false
set_option maxRecDepth 100000
namespace Go.Proofs.YtmnjhbhppkploaaGreat
open Go.Ab Go.V
theorem sz_ASS {l : den (.sl tAS)} {left : Int} (w : Wf (.sl tAS) l) (h0 : 0 ≤ left) (h1 : left ≤ 1048576) : SzT (l_szASS l left) left (tot (.sl tAS) l) := szF_ok (t := tAS) rfl w.1 h0 h1

theorem sz_LinkS {l : den (.sl tLink)} {left : Int} (w : Wf (.sl tLink) l) (h0 : 0 ≤ left) (h1 : left ≤ 1048576) : SzT (l_szLinkS l left) left (tot (.sl tLink) l) := szF_ok (t := tLink) rfl w.1 h0 h1

theorem sz_Topology {x : den tTopology} {left : Int} (w : Wf tTopology x) (h0 : 0 ≤ left) (h1 : left ≤ 1048576) : SzT (l_szTopology x left) left (tot tTopology x) := SzT.eq (sz_field (sz_ASS w.1 h0 h1) h1 fun r0 a0 b0 => sz_field (sz_LinkS w.2 a0 b0) b0 fun r1 a1 b1 => sz_done a1) (by simp [tot, tot_flat] <;> omega)

theorem sz_HopS {l : den (.sl tHop)} {left : Int} (w : Wf (.sl tHop) l) (h0 : 0 ≤ left) (h1 : left ≤ 1048576) : SzT (l_szHopS l left) left (tot (.sl tHop) l) := szF_ok (t := tHop) rfl w.1 h0 h1

theorem sz_Segment {x : den tSegment} {left : Int} (w : Wf tSegment x) (h0 : 0 ≤ left) (h1 : left ≤ 1048576) : SzT (l_szSegment x left) left (tot tSegment x) := SzT.eq (sz_field (sz_HopS w.2.2 h0 h1) h1 fun r0 a0 b0 => sz_done a0) (by simp [tot, tot_flat])

theorem sz_SegmentS {l : den (.sl tSegment)} {left : Int} (w : Wf (.sl tSegment) l) (h0 : 0 ≤ left) (h1 : left ≤ 1048576) : SzT (l_szSegmentS l left) left (tot (.sl tSegment) l) := szL_ok (t := tSegment) (szE := l_szSegment) w.1 h0 h1 fun x hx k k0 k1 => sz_Segment (w.2 x hx) k0 k1

theorem sz_SegmentDatabase {x : den tSegmentDatabase} {left : Int} (w : Wf tSegmentDatabase x) (h0 : 0 ≤ left) (h1 : left ≤ 1048576) : SzT (l_szSegmentDatabase x left) left (tot tSegmentDatabase x) := SzT.eq (sz_field (sz_SegmentS w.1 h0 h1) h1 fun r0 a0 b0 => sz_field (sz_SegmentS w.2 a0 b0) b0 fun r1 a1 b1 => sz_done a1) (by simp [tot, tot_flat] <;> omega)

theorem sz_ReservationS {l : den (.sl tReservation)} {left : Int} (w : Wf (.sl tReservation) l) (h0 : 0 ≤ left) (h1 : left ≤ 1048576) : SzT (l_szReservationS l left) left (tot (.sl tReservation) l) := szF_ok (t := tReservation) rfl w.1 h0 h1

theorem sz_UsageS {l : den (.sl tUsage)} {left : Int} (w : Wf (.sl tUsage) l) (h0 : 0 ≤ left) (h1 : left ≤ 1048576) : SzT (l_szUsageS l left) left (tot (.sl tUsage) l) := szF_ok (t := tUsage) rfl w.1 h0 h1

theorem sz_Scheduler {x : den tScheduler} {left : Int} (w : Wf tScheduler x) (h0 : 0 ≤ left) (h1 : left ≤ 1048576) : SzT (l_szScheduler x left) left (tot tScheduler x) := SzT.eq (sz_field (sz_ReservationS w.2.1 h0 h1) h1 fun r0 a0 b0 => sz_field (sz_UsageS w.2.2 a0 b0) b0 fun r1 a1 b1 => sz_done a1) (by simp [tot, tot_flat] <;> omega)

theorem sz_IntS {l : den (.sl ti)} {left : Int} (w : Wf (.sl ti) l) (h0 : 0 ≤ left) (h1 : left ≤ 1048576) : SzT (l_szIntS l left) left (tot (.sl ti) l) := szF_ok (t := ti) rfl w.1 h0 h1

theorem sz_PathPart {x : den tPathPart} {left : Int} (w : Wf tPathPart x) (h0 : 0 ≤ left) (h1 : left ≤ 1048576) : SzT (l_szPathPart x left) left (tot tPathPart x) := SzT.eq (sz_field (sz_HopS w.2.2.2 h0 h1) h1 fun r0 a0 b0 => sz_done a0) (by simp [tot, tot_flat])

theorem sz_PathPartS {l : den (.sl tPathPart)} {left : Int} (w : Wf (.sl tPathPart) l) (h0 : 0 ≤ left) (h1 : left ≤ 1048576) : SzT (l_szPathPartS l left) left (tot (.sl tPathPart) l) := szL_ok (t := tPathPart) (szE := l_szPathPart) w.1 h0 h1 fun x hx k k0 k1 => sz_PathPart (w.2 x hx) k0 k1

theorem sz_Path {x : den tPath} {left : Int} (w : Wf tPath x) (h0 : 0 ≤ left) (h1 : left ≤ 1048576) : SzT (l_szPath x left) left (tot tPath x) := SzT.eq (sz_field (sz_PathPartS w h0 h1) h1 fun r0 a0 b0 => sz_done a0) (by simp [tot, tot_flat])

theorem sz_ByteS {l : den (.sl tb)} {left : Int} (w : Wf (.sl tb) l) (h0 : 0 ≤ left) (h1 : left ≤ 1048576) : SzT (l_szByteS l left) left (tot (.sl tb) l) := szF_ok (t := tb) rfl w.1 h0 h1

theorem sz_Packet {x : den tPacket} {left : Int} (w : Wf tPacket x) (h0 : 0 ≤ left) (h1 : left ≤ 1048576) : SzT (l_szPacket x left) left (tot tPacket x) := SzT.eq (sz_field (sz_Path w.2.2.2.1 h0 h1) h1 fun r0 a0 b0 => sz_field (sz_ByteS w.2.2.2.2.2.2.2.2.2 a0 b0) b0 fun r1 a1 b1 => sz_done a1) (by simp [tot, tot_flat] <;> omega)

theorem sz_PacketInFlight {x : den tPacketInFlight} {left : Int} (w : Wf tPacketInFlight x) (h0 : 0 ≤ left) (h1 : left ≤ 1048576) : SzT (l_szPacketInFlight x left) left (tot tPacketInFlight x) := SzT.eq (sz_field (sz_Packet w.2.2 h0 h1) h1 fun r0 a0 b0 => sz_done a0) (by simp [tot, tot_flat])

theorem sz_PacketInFlightS {l : den (.sl tPacketInFlight)} {left : Int} (w : Wf (.sl tPacketInFlight) l) (h0 : 0 ≤ left) (h1 : left ≤ 1048576) : SzT (l_szPacketInFlightS l left) left (tot (.sl tPacketInFlight) l) := szL_ok (t := tPacketInFlight) (szE := l_szPacketInFlight) w.1 h0 h1 fun x hx k k0 k1 => sz_PacketInFlight (w.2 x hx) k0 k1

theorem sz_Message {x : den tMessage} {left : Int} (w : Wf tMessage x) (h0 : 0 ≤ left) (h1 : left ≤ 1048576) : SzT (l_szMessage x left) left (tot tMessage x) := SzT.eq (sz_field (sz_ByteS w h0 h1) h1 fun r0 a0 b0 => sz_done a0) (by simp [tot, tot_flat])

theorem sz_MessageS {l : den (.sl tMessage)} {left : Int} (w : Wf (.sl tMessage) l) (h0 : 0 ≤ left) (h1 : left ≤ 1048576) : SzT (l_szMessageS l left) left (tot (.sl tMessage) l) := szL_ok (t := tMessage) (szE := l_szMessage) w.1 h0 h1 fun x hx k k0 k1 => sz_Message (w.2 x hx) k0 k1

theorem sz_PathS {l : den (.sl tPath)} {left : Int} (w : Wf (.sl tPath) l) (h0 : 0 ≤ left) (h1 : left ≤ 1048576) : SzT (l_szPathS l left) left (tot (.sl tPath) l) := szL_ok (t := tPath) (szE := l_szPath) w.1 h0 h1 fun x hx k k0 k1 => sz_Path (w.2 x hx) k0 k1

theorem sz_RevocationS {l : den (.sl tRevocation)} {left : Int} (w : Wf (.sl tRevocation) l) (h0 : 0 ≤ left) (h1 : left ≤ 1048576) : SzT (l_szRevocationS l left) left (tot (.sl tRevocation) l) := szF_ok (t := tRevocation) rfl w.1 h0 h1

theorem sz_Flow {x : den tFlow} {left : Int} (w : Wf tFlow x) (h0 : 0 ≤ left) (h1 : left ≤ 1048576) : SzT (l_szFlow x left) left (tot tFlow x) := SzT.eq (sz_field (sz_MessageS w.2.2.2.2.1 h0 h1) h1 fun r0 a0 b0 => sz_field (sz_PathS w.2.2.2.2.2.1 a0 b0) b0 fun r1 a1 b1 => sz_field (sz_RevocationS w.2.2.2.2.2.2.2.2 a1 b1) b1 fun r2 a2 b2 => sz_done a2) (by simp [tot, tot_flat] <;> omega)

theorem sz_FlowS {l : den (.sl tFlow)} {left : Int} (w : Wf (.sl tFlow) l) (h0 : 0 ≤ left) (h1 : left ≤ 1048576) : SzT (l_szFlowS l left) left (tot (.sl tFlow) l) := szL_ok (t := tFlow) (szE := l_szFlow) w.1 h0 h1 fun x hx k k0 k1 => sz_Flow (w.2 x hx) k0 k1

theorem sz_Inbox {x : den tInbox} {left : Int} (w : Wf tInbox x) (h0 : 0 ≤ left) (h1 : left ≤ 1048576) : SzT (l_szInbox x left) left (tot tInbox x) := SzT.eq (sz_field (sz_MessageS w.2.2.2 h0 h1) h1 fun r0 a0 b0 => sz_done a0) (by simp [tot, tot_flat])

theorem sz_InboxS {l : den (.sl tInbox)} {left : Int} (w : Wf (.sl tInbox) l) (h0 : 0 ≤ left) (h1 : left ≤ 1048576) : SzT (l_szInboxS l left) left (tot (.sl tInbox) l) := szL_ok (t := tInbox) (szE := l_szInbox) w.1 h0 h1 fun x hx k k0 k1 => sz_Inbox (w.2 x hx) k0 k1

theorem sz_Network {x : den tNetwork} {left : Int} (w : Wf tNetwork x) (h0 : 0 ≤ left) (h1 : left ≤ 1048576) : SzT (l_szNetwork x left) left (tot tNetwork x) := SzT.eq (sz_field (sz_Topology w.1 h0 h1) h1 fun r0 a0 b0 => sz_field (sz_SegmentDatabase w.2.1 a0 b0) b0 fun r1 a1 b1 => sz_field (sz_Scheduler w.2.2.1 a1 b1) b1 fun r2 a2 b2 => sz_field (sz_IntS w.2.2.2.2.1 a2 b2) b2 fun r3 a3 b3 => sz_field (sz_PacketInFlightS w.2.2.2.2.2.1 a3 b3) b3 fun r4 a4 b4 => sz_field (sz_FlowS w.2.2.2.2.2.2.1 a4 b4) b4 fun r5 a5 b5 => sz_field (sz_InboxS w.2.2.2.2.2.2.2.1 a5 b5) b5 fun r6 a6 b6 => sz_done a6) (by simp [tot, tot_flat] <;> omega)

theorem to_AS {x : den tAS} (h : Sm tAS x) : l_toAS x = some x := by
  unfold l_toAS
  rfl

theorem to_ASS {l : den (.sl tAS)} (h : Sm (.sl tAS) l) : l_toASS l = some l := by
  have : l_toASS l = some (l.map id) := toL_eq (toE := l_toAS) (g := id) h.1 (by decide) fun x hx => to_AS (h.2 x hx)
  simpa using this

theorem to_Link {x : den tLink} (h : Sm tLink x) : l_toLink x = some x := by
  unfold l_toLink
  rfl

theorem to_LinkS {l : den (.sl tLink)} (h : Sm (.sl tLink) l) : l_toLinkS l = some l := by
  have : l_toLinkS l = some (l.map id) := toL_eq (toE := l_toLink) (g := id) h.1 (by decide) fun x hx => to_Link (h.2 x hx)
  simpa using this

theorem to_Topology {x : den tTopology} (h : Sm tTopology x) : l_toTopology x = some x := by
  unfold l_toTopology
  simp [to_ASS h.1, to_LinkS h.2]

theorem to_Hop {x : den tHop} (h : Sm tHop x) : l_toHop x = some x := by
  unfold l_toHop
  rfl

theorem to_HopS {l : den (.sl tHop)} (h : Sm (.sl tHop) l) : l_toHopS l = some l := by
  have : l_toHopS l = some (l.map id) := toL_eq (toE := l_toHop) (g := id) h.1 (by decide) fun x hx => to_Hop (h.2 x hx)
  simpa using this

theorem to_Segment {x : den tSegment} (h : Sm tSegment x) : l_toSegment x = some x := by
  unfold l_toSegment
  simp [to_HopS h.2.2]

theorem to_SegmentS {l : den (.sl tSegment)} (h : Sm (.sl tSegment) l) : l_toSegmentS l = some l := by
  have : l_toSegmentS l = some (l.map id) := toL_eq (toE := l_toSegment) (g := id) h.1 (by decide) fun x hx => to_Segment (h.2 x hx)
  simpa using this

theorem to_SegmentDatabase {x : den tSegmentDatabase} (h : Sm tSegmentDatabase x) : l_toSegmentDatabase x = some x := by
  unfold l_toSegmentDatabase
  simp [to_SegmentS h.1, to_SegmentS h.2]

theorem to_Reservation {x : den tReservation} (h : Sm tReservation x) : l_toReservation x = some x := by
  unfold l_toReservation
  rfl

theorem to_ReservationS {l : den (.sl tReservation)} (h : Sm (.sl tReservation) l) : l_toReservationS l = some l := by
  have : l_toReservationS l = some (l.map id) := toL_eq (toE := l_toReservation) (g := id) h.1 (by decide) fun x hx => to_Reservation (h.2 x hx)
  simpa using this

theorem to_Usage {x : den tUsage} (h : Sm tUsage x) : l_toUsage x = some x := by
  unfold l_toUsage
  rfl

theorem to_UsageS {l : den (.sl tUsage)} (h : Sm (.sl tUsage) l) : l_toUsageS l = some l := by
  have : l_toUsageS l = some (l.map id) := toL_eq (toE := l_toUsage) (g := id) h.1 (by decide) fun x hx => to_Usage (h.2 x hx)
  simpa using this

theorem to_Scheduler {x : den tScheduler} (h : Sm tScheduler x) : l_toScheduler x = some x := by
  unfold l_toScheduler
  simp [to_ReservationS h.2.1, to_UsageS h.2.2]

theorem to_IntS {l : den (.sl ti)} (h : Sm (.sl ti) l) : l_toIntS l = some l := by
  have : l_toIntS l = some (l.map id) := toL_eq (toE := some) (g := id) h.1 (by decide) fun x hx => rfl
  simpa using this

theorem to_PathPart {x : den tPathPart} (h : Sm tPathPart x) : l_toPathPart x = some x := by
  unfold l_toPathPart
  simp [to_HopS h.2.2.2]

theorem to_PathPartS {l : den (.sl tPathPart)} (h : Sm (.sl tPathPart) l) : l_toPathPartS l = some l := by
  have : l_toPathPartS l = some (l.map id) := toL_eq (toE := l_toPathPart) (g := id) h.1 (by decide) fun x hx => to_PathPart (h.2 x hx)
  simpa using this

theorem to_Path {x : den tPath} (h : Sm tPath x) : l_toPath x = some x := by
  unfold l_toPath
  simp [to_PathPartS h]

theorem to_ByteS {l : den (.sl tb)} (h : Sm (.sl tb) l) : l_toByteS l = some l := by
  have : l_toByteS l = some (l.map id) := toL_eq (toE := some) (g := id) h.1 (by decide) fun x hx => rfl
  simpa using this

theorem to_Packet {x : den tPacket} (h : Sm tPacket x) : l_toPacket x = some (x.1, x.2.1, x.2.2.1, x.2.2.2.2.1, x.2.2.2.2.2.1, x.2.2.2.2.2.2.1, x.2.2.2.2.2.2.2.1, x.2.2.2.2.2.2.2.2.1, x.2.2.2.1, x.2.2.2.2.2.2.2.2.2) := by
  unfold l_toPacket
  simp only [to_Path h.2.2.2.1, to_ByteS h.2.2.2.2.2.2.2.2.2, obind_some, peta]

theorem to_PacketInFlight {x : den tPacketInFlight} (h : Sm tPacketInFlight x) : l_toPacketInFlight x = some (x.1, x.2.1, x.2.2.1, x.2.2.2.1, x.2.2.2.2.1, x.2.2.2.2.2.2.1, x.2.2.2.2.2.2.2.1, x.2.2.2.2.2.2.2.2.1, x.2.2.2.2.2.2.2.2.2.1, x.2.2.2.2.2.2.2.2.2.2.1, x.2.2.2.2.2.1, x.2.2.2.2.2.2.2.2.2.2.2) := by
  unfold l_toPacketInFlight
  simp only [to_Packet h.2.2, obind_some, peta]

theorem to_PacketInFlightS {l : den (.sl tPacketInFlight)} (h : Sm (.sl tPacketInFlight) l) : l_toPacketInFlightS l = some l := by
  unfold l_toPacketInFlightS
  exact toL_run' h.1 (by decide) (fun k L x hi hm h1 h2 h3 h4 hw => by simp only [h1, h2, h3, h4, hi, to_PacketInFlight (h.2 x hm), obind_some, cond_true, Int.toNat_natCast, hw, peta]) (fun L => by simp)

theorem to_Message {x : den tMessage} (h : Sm tMessage x) : l_toMessage x = some x := by
  unfold l_toMessage
  simp [to_ByteS h]

theorem to_MessageS {l : den (.sl tMessage)} (h : Sm (.sl tMessage) l) : l_toMessageS l = some l := by
  have : l_toMessageS l = some (l.map id) := toL_eq (toE := l_toMessage) (g := id) h.1 (by decide) fun x hx => to_Message (h.2 x hx)
  simpa using this

theorem to_PathS {l : den (.sl tPath)} (h : Sm (.sl tPath) l) : l_toPathS l = some l := by
  have : l_toPathS l = some (l.map id) := toL_eq (toE := l_toPath) (g := id) h.1 (by decide) fun x hx => to_Path (h.2 x hx)
  simpa using this

theorem to_Revocation {x : den tRevocation} (h : Sm tRevocation x) : l_toRevocation x = some x := by
  unfold l_toRevocation
  rfl

theorem to_RevocationS {l : den (.sl tRevocation)} (h : Sm (.sl tRevocation) l) : l_toRevocationS l = some l := by
  have : l_toRevocationS l = some (l.map id) := toL_eq (toE := l_toRevocation) (g := id) h.1 (by decide) fun x hx => to_Revocation (h.2 x hx)
  simpa using this

theorem to_Flow {x : den tFlow} (h : Sm tFlow x) : l_toFlow x = some (x.1, x.2.1, x.2.2.1, x.2.2.2.1, x.2.2.2.2.2.2.1, x.2.2.2.2.2.2.2.1, x.2.2.2.2.1, x.2.2.2.2.2.1, x.2.2.2.2.2.2.2.2) := by
  unfold l_toFlow
  simp only [to_MessageS h.2.2.2.2.1, to_PathS h.2.2.2.2.2.1, to_RevocationS h.2.2.2.2.2.2.2.2, obind_some, peta]

theorem to_FlowS {l : den (.sl tFlow)} (h : Sm (.sl tFlow) l) : l_toFlowS l = some l := by
  unfold l_toFlowS
  exact toL_run h.1 (by decide) (fun k L x hi hm h1 h2 h3 h4 hw => by simp only [h1, h2, h3, h4, hi, to_Flow (h.2 x hm), obind_some, cond_true, Int.toNat_natCast, hw, peta]) (fun L => by simp)

theorem to_Inbox {x : den tInbox} (h : Sm tInbox x) : l_toInbox x = some x := by
  unfold l_toInbox
  simp [to_MessageS h.2.2.2]

theorem to_InboxS {l : den (.sl tInbox)} (h : Sm (.sl tInbox) l) : l_toInboxS l = some l := by
  have : l_toInboxS l = some (l.map id) := toL_eq (toE := l_toInbox) (g := id) h.1 (by decide) fun x hx => to_Inbox (h.2 x hx)
  simpa using this

theorem to_Network {x : den tNetwork} (h : Sm tNetwork x) : l_toNetwork x = some (x.2.2.1.1, x.2.2.2.1, x.2.2.2.2.2.2.2.2, x.1.1, x.1.2, x.2.1.1, x.2.1.2, x.2.2.1.2.1, x.2.2.1.2.2, x.2.2.2.2.1, x.2.2.2.2.2.1, x.2.2.2.2.2.2.1, x.2.2.2.2.2.2.2.1) := by
  unfold l_toNetwork
  simp only [to_Topology h.1, to_SegmentDatabase h.2.1, to_Scheduler h.2.2.1, to_IntS h.2.2.2.2.1, to_PacketInFlightS h.2.2.2.2.2.1, to_FlowS h.2.2.2.2.2.2.1, to_InboxS h.2.2.2.2.2.2.2.1, obind_some, peta]

theorem eq_AS {x : den tAS} (h : SmB 4611686018427387904 tAS x) : l_eqAS x x = some true := by
  unfold l_eqAS
  simp

theorem eq_ASS {l : den (.sl tAS)} (h : SmB 4611686018427387904 (.sl tAS) l) : l_eqASS l l = some true := eqL_refl (eqE := l_eqAS) h.1 fun x hx => eq_AS (h.2 x hx)

theorem eq_Link {x : den tLink} (h : SmB 4611686018427387904 tLink x) : l_eqLink x x = some true := by
  unfold l_eqLink
  simp

theorem eq_LinkS {l : den (.sl tLink)} (h : SmB 4611686018427387904 (.sl tLink) l) : l_eqLinkS l l = some true := eqL_refl (eqE := l_eqLink) h.1 fun x hx => eq_Link (h.2 x hx)

theorem eq_Topology {x : den tTopology} (h : SmB 4611686018427387904 tTopology x) : l_eqTopology x x = some true := by
  unfold l_eqTopology
  simp [eq_ASS h.1, eq_LinkS h.2]

theorem eq_Hop {x : den tHop} (h : SmB 4611686018427387904 tHop x) : l_eqHop x x = some true := by
  unfold l_eqHop
  simp

theorem eq_HopS {l : den (.sl tHop)} (h : SmB 4611686018427387904 (.sl tHop) l) : l_eqHopS l l = some true := eqL_refl (eqE := l_eqHop) h.1 fun x hx => eq_Hop (h.2 x hx)

theorem eq_Segment {x : den tSegment} (h : SmB 4611686018427387904 tSegment x) : l_eqSegment x x = some true := by
  unfold l_eqSegment
  simp [eq_HopS h.2.2]

theorem eq_SegmentS {l : den (.sl tSegment)} (h : SmB 4611686018427387904 (.sl tSegment) l) : l_eqSegmentS l l = some true := eqL_refl (eqE := l_eqSegment) h.1 fun x hx => eq_Segment (h.2 x hx)

theorem eq_SegmentDatabase {x : den tSegmentDatabase} (h : SmB 4611686018427387904 tSegmentDatabase x) : l_eqSegmentDatabase x x = some true := by
  unfold l_eqSegmentDatabase
  simp [eq_SegmentS h.1, eq_SegmentS h.2]

theorem eq_Reservation {x : den tReservation} (h : SmB 4611686018427387904 tReservation x) : l_eqReservation x x = some true := by
  unfold l_eqReservation
  simp

theorem eq_ReservationS {l : den (.sl tReservation)} (h : SmB 4611686018427387904 (.sl tReservation) l) : l_eqReservationS l l = some true := eqL_refl (eqE := l_eqReservation) h.1 fun x hx => eq_Reservation (h.2 x hx)

theorem eq_Usage {x : den tUsage} (h : SmB 4611686018427387904 tUsage x) : l_eqUsage x x = some true := by
  unfold l_eqUsage
  simp

theorem eq_UsageS {l : den (.sl tUsage)} (h : SmB 4611686018427387904 (.sl tUsage) l) : l_eqUsageS l l = some true := eqL_refl (eqE := l_eqUsage) h.1 fun x hx => eq_Usage (h.2 x hx)

theorem eq_Scheduler {x : den tScheduler} (h : SmB 4611686018427387904 tScheduler x) : l_eqScheduler x x = some true := by
  unfold l_eqScheduler
  simp [eq_ReservationS h.2.1, eq_UsageS h.2.2]

theorem eq_IntS {l : den (.sl ti)} (h : SmB 4611686018427387904 (.sl ti) l) : l_eqIntS l l = some true := eqL_refl (eqE := (fun x y => some (x == y))) h.1 fun x hx => by simp

theorem eq_PathPart {x : den tPathPart} (h : SmB 4611686018427387904 tPathPart x) : l_eqPathPart x x = some true := by
  unfold l_eqPathPart
  simp [eq_HopS h.2.2.2]

theorem eq_PathPartS {l : den (.sl tPathPart)} (h : SmB 4611686018427387904 (.sl tPathPart) l) : l_eqPathPartS l l = some true := eqL_refl (eqE := l_eqPathPart) h.1 fun x hx => eq_PathPart (h.2 x hx)

theorem eq_Path {x : den tPath} (h : SmB 4611686018427387904 tPath x) : l_eqPath x x = some true := by
  unfold l_eqPath
  simp [eq_PathPartS h]

theorem eq_ByteS {l : den (.sl tb)} (h : SmB 4611686018427387904 (.sl tb) l) : l_eqByteS l l = some true := eqL_refl (eqE := (fun x y => some (x == y))) h.1 fun x hx => by simp

theorem eq_Packet {x : den tPacket} (h : SmB 4611686018427387904 tPacket x) : l_eqPacket x x = some true := by
  unfold l_eqPacket
  simp [eq_Path h.2.2.2.1, eq_ByteS h.2.2.2.2.2.2.2.2.2]

theorem eq_PacketInFlight {x : den tPacketInFlight} (h : SmB 4611686018427387904 tPacketInFlight x) : l_eqPacketInFlight x x = some true := by
  unfold l_eqPacketInFlight
  simp [eq_Packet h.2.2]

theorem eq_PacketInFlightS {l : den (.sl tPacketInFlight)} (h : SmB 4611686018427387904 (.sl tPacketInFlight) l) : l_eqPacketInFlightS l l = some true := eqL_refl (eqE := l_eqPacketInFlight) h.1 fun x hx => eq_PacketInFlight (h.2 x hx)

theorem eq_Message {x : den tMessage} (h : SmB 4611686018427387904 tMessage x) : l_eqMessage x x = some true := by
  unfold l_eqMessage
  simp [eq_ByteS h]

theorem eq_MessageS {l : den (.sl tMessage)} (h : SmB 4611686018427387904 (.sl tMessage) l) : l_eqMessageS l l = some true := eqL_refl (eqE := l_eqMessage) h.1 fun x hx => eq_Message (h.2 x hx)

theorem eq_PathS {l : den (.sl tPath)} (h : SmB 4611686018427387904 (.sl tPath) l) : l_eqPathS l l = some true := eqL_refl (eqE := l_eqPath) h.1 fun x hx => eq_Path (h.2 x hx)

theorem eq_Revocation {x : den tRevocation} (h : SmB 4611686018427387904 tRevocation x) : l_eqRevocation x x = some true := by
  unfold l_eqRevocation
  simp

theorem eq_RevocationS {l : den (.sl tRevocation)} (h : SmB 4611686018427387904 (.sl tRevocation) l) : l_eqRevocationS l l = some true := eqL_refl (eqE := l_eqRevocation) h.1 fun x hx => eq_Revocation (h.2 x hx)

theorem eq_Flow {x : den tFlow} (h : SmB 4611686018427387904 tFlow x) : l_eqFlow x x = some true := by
  unfold l_eqFlow
  simp [eq_MessageS h.2.2.2.2.1, eq_PathS h.2.2.2.2.2.1, eq_RevocationS h.2.2.2.2.2.2.2.2]

theorem eq_FlowS {l : den (.sl tFlow)} (h : SmB 4611686018427387904 (.sl tFlow) l) : l_eqFlowS l l = some true := eqL_refl (eqE := l_eqFlow) h.1 fun x hx => eq_Flow (h.2 x hx)

theorem eq_Inbox {x : den tInbox} (h : SmB 4611686018427387904 tInbox x) : l_eqInbox x x = some true := by
  unfold l_eqInbox
  simp [eq_MessageS h.2.2.2]

theorem eq_InboxS {l : den (.sl tInbox)} (h : SmB 4611686018427387904 (.sl tInbox) l) : l_eqInboxS l l = some true := eqL_refl (eqE := l_eqInbox) h.1 fun x hx => eq_Inbox (h.2 x hx)

theorem eq_Network {x : den tNetwork} (h : SmB 4611686018427387904 tNetwork x) : l_eqNetwork x x = some true := by
  unfold l_eqNetwork
  simp [eq_Topology h.1, eq_SegmentDatabase h.2.1, eq_Scheduler h.2.2.1, eq_IntS h.2.2.2.2.1, eq_PacketInFlightS h.2.2.2.2.2.1, eq_FlowS h.2.2.2.2.2.2.1, eq_InboxS h.2.2.2.2.2.2.2.1]

def all2 {α β : Type} (p : α → β → Bool) : List α → List β → Bool
  | x :: xs, y :: ys => p x y && all2 p xs ys
  | _, _ => true

theorem loop_two {α β R : Type} {a : List α} {b : List β} (p : α → β → Bool) {step : Int → Option (Int ⊕ (Unit ⊕ R))} (ρ : R) (hlen : a.length = b.length) (hl : a.length ≤ 4611686018427387904)
    (h : ∀ (k : Nat) (x : α) (y : β), x ∈ a → y ∈ b → idx a (k : Int) = some x → idx b (k : Int) = some y → decide ((k : Int) < (a.length : Int)) = true → IntKind.i64.wrap ((k : Int) + 1) = ((k + 1 : Nat) : Int) → step (k : Int) = some (cond (p x y) (.inl ((k + 1 : Nat) : Int)) (.inr (.inr ρ))))
    (he : step (a.length : Int) = some (.inr (.inl ()))) : loopM step (0 : Int) = some (cond (all2 p a b) (.inl ()) (.inr ρ)) := by
  have key : ∀ (ra pa : List α) (rb pb : List β), pa ++ ra = a → pb ++ rb = b → pa.length = pb.length → loopM step (pa.length : Int) = some (cond (all2 p ra rb) (.inl ()) (.inr ρ)) := by
    intro ra
    induction ra with
    | nil => intro pa rb pb h1 _ _; rw [List.append_nil] at h1; subst h1; exact loopM_done he
    | cons x ra ih =>
      intro pa rb pb h1 h2 h3
      cases rb with
      | nil => exfalso; have e1 := congrArg List.length h1; have e2 := congrArg List.length h2; simp at e1 e2; omega
      | cons y rb =>
        have hx : a[pa.length]? = some x := by rw [← h1]; simp
        have hy : b[pa.length]? = some y := by rw [← h2, h3]; simp
        have hlt : pa.length < a.length := by rw [← h1]; simp
        have hs := h pa.length x y (List.mem_of_getElem? hx) (List.mem_of_getElem? hy) (by rw [idx_nat]; exact hx) (by rw [idx_nat]; exact hy) (by simpa using hlt) (by rw [wrap_in (by omega) (by omega)]; omega)
        simp only [all2]
        cases hp : p x y with
        | true => rw [hp] at hs; rw [loopM_next hs]; have := ih (pa ++ [x]) rb (pb ++ [y]) (by simpa using h1) (by simpa using h2) (by simp [h3]); simpa using this
        | false => rw [hp] at hs; exact loopM_done hs
  exact key a [] b [] rfl rfl rfl

theorem cond_sb {α : Type} (b : Bool) (x y : α) : cond b (some x) (some y) = some (cond b x y) := by cases b <;> rfl

theorem elim_c {β : Type} (c : Bool) (f : Unit → Option β) (r : β) : Sum.elim f some (cond c (Sum.inl ()) (Sum.inr r)) = cond c (f ()) (some r) := by cases c <;> rfl

theorem ne_len {α β : Type} (a : List α) (b : List β) : ((a.length : Int) != (b.length : Int)) = !decide (a.length = b.length) := by
  rw [Bool.eq_iff_iff]; simp; omega

theorem cond_nd {α : Type} {p : Prop} [Decidable p] {x y z : α} (h : p → y = z) : cond (!decide p) x y = cond (!decide p) x z := by
  by_cases hp : p
  · rw [h hp]
  · simp [hp]

noncomputable def sameH (a b : List (den tHop)) : Bool := cond (!decide (a.length = b.length)) false (cond (all2 (fun x y => (x.1 == y.1) && ((x.2.1 == y.2.1) && ((x.2.2.1 == y.2.2.1) && ((x.2.2.2.1 == y.2.2.2.1) && ((x.2.2.2.2 == y.2.2.2.2) && true))))) a b) true false)

theorem i_sameH {a b : List (den tHop)} (ha : a.length ≤ 68719476736) : i_equalHopLists a b = some (sameH a b) := by
  unfold i_equalHopLists sameH
  rw [ne_len]
  rw [cond_nd (z := some (cond (all2 (fun x y => (x.1 == y.1) && ((x.2.1 == y.2.1) && ((x.2.2.1 == y.2.2.1) && ((x.2.2.2.1 == y.2.2.2.1) && ((x.2.2.2.2 == y.2.2.2.2) && true))))) a b) true false)) (fun hlen => by
    rw [loop_two (a := a) (b := b) (fun x y => (x.1 == y.1) && ((x.2.1 == y.2.1) && ((x.2.2.1 == y.2.2.1) && ((x.2.2.2.1 == y.2.2.2.1) && ((x.2.2.2.2 == y.2.2.2.2) && true))))) false hlen (Nat.le_trans ha (by decide)) (fun k x y mx my ix iy hd hw => by
      simp only [hd, ix, iy, hw, cond_true, obind_some, peta, bne]
      generalize ((x.1 == y.1) && ((x.2.1 == y.2.1) && ((x.2.2.1 == y.2.2.1) && ((x.2.2.2.1 == y.2.2.2.1) && ((x.2.2.2.2 == y.2.2.2.2) && true))))) = c
      cases c <;> rfl) (by simp)]
    simp only [obind_some, elim_c, cond_sb]), cond_sb]

theorem s_sameH {a b : List (den tHop)} (ha : a.length ≤ 68719476736) : s_l9SameHops a b = some (sameH a b) := by
  unfold s_l9SameHops sameH
  rw [ne_len]
  rw [cond_nd (z := some (cond (all2 (fun x y => (x.1 == y.1) && ((x.2.1 == y.2.1) && ((x.2.2.1 == y.2.2.1) && ((x.2.2.2.1 == y.2.2.2.1) && ((x.2.2.2.2 == y.2.2.2.2) && true))))) a b) true false)) (fun hlen => by
    rw [loop_two (a := a) (b := b) (fun x y => (x.1 == y.1) && ((x.2.1 == y.2.1) && ((x.2.2.1 == y.2.2.1) && ((x.2.2.2.1 == y.2.2.2.1) && ((x.2.2.2.2 == y.2.2.2.2) && true))))) false hlen (Nat.le_trans ha (by decide)) (fun k x y mx my ix iy hd hw => by
      simp only [hd, ix, iy, hw, cond_true, obind_some, peta, bne]
      generalize ((x.1 == y.1) && ((x.2.1 == y.2.1) && ((x.2.2.1 == y.2.2.1) && ((x.2.2.2.1 == y.2.2.2.1) && ((x.2.2.2.2 == y.2.2.2.2) && true))))) = c
      cases c <;> rfl) (by simp)]
    simp only [obind_some, elim_c, cond_sb]), cond_sb]

noncomputable def samePt (a b : den tPathPart) : Bool := cond (a.1 == b.1) (cond (a.2.1 == b.2.1) (cond (a.2.2.1 == b.2.2.1) (sameH a.2.2.2 b.2.2.2) false) false) false

theorem i_samePt {a b : den tPathPart} (ha : SmB 68719476736 tPathPart a) (hb : SmB 68719476736 tPathPart b) : i_EqualParts a b = some (samePt a b) := by
  unfold i_EqualParts samePt
  simp only [obind_some, cond_sb, peta, i_sameH ha.2.2.2.1]

theorem s_samePt {a b : den tPathPart} (ha : SmB 68719476736 tPathPart a) (hb : SmB 68719476736 tPathPart b) : s_EqualParts a b = some (samePt a b) := by
  unfold s_EqualParts samePt
  simp only [obind_some, cond_sb, peta, s_sameH ha.2.2.2.1]

noncomputable def sameP (a b : List (den tPathPart)) : Bool := cond (!decide (a.length = b.length)) false (cond (all2 (fun x y => samePt x y) a b) true false)

theorem i_sameP {a b : List (den tPathPart)} (ha : SmB 68719476736 (.sl tPathPart) a) (hb : SmB 68719476736 (.sl tPathPart) b) : i_EqualPaths a b = some (sameP a b) := by
  unfold i_EqualPaths sameP
  rw [ne_len]
  rw [cond_nd (z := some (cond (all2 (fun x y => samePt x y) a b) true false)) (fun hlen => by
    rw [loop_two (a := a) (b := b) (fun x y => samePt x y) false hlen (Nat.le_trans ha.1 (by decide)) (fun k x y mx my ix iy hd hw => by
      simp only [hd, ix, iy, hw, cond_true, obind_some, peta, i_samePt (ha.2 x mx) (hb.2 y my)]
      generalize (samePt x y) = c
      cases c <;> rfl) (by simp)]
    simp only [obind_some, elim_c, cond_sb]), cond_sb]

theorem s_sameP {a b : List (den tPathPart)} (ha : SmB 68719476736 (.sl tPathPart) a) (hb : SmB 68719476736 (.sl tPathPart) b) : s_EqualPaths a b = some (sameP a b) := by
  unfold s_EqualPaths sameP
  rw [ne_len]
  rw [cond_nd (z := some (cond (all2 (fun x y => samePt x y) a b) true false)) (fun hlen => by
    rw [loop_two (a := a) (b := b) (fun x y => samePt x y) false hlen (Nat.le_trans ha.1 (by decide)) (fun k x y mx my ix iy hd hw => by
      simp only [hd, ix, iy, hw, cond_true, obind_some, peta, s_samePt (ha.2 x mx) (hb.2 y my)]
      generalize (samePt x y) = c
      cases c <;> rfl) (by simp)]
    simp only [obind_some, elim_c, cond_sb]), cond_sb]

noncomputable def samePs (a b : List (den tPath)) : Bool := cond (!decide (a.length = b.length)) false (cond (all2 (fun x y => sameP x y) a b) true false)

theorem i_samePs {a b : List (den tPath)} (ha : SmB 68719476736 (.sl tPath) a) (hb : SmB 68719476736 (.sl tPath) b) : i_EqualPathLists a b = some (samePs a b) := by
  unfold i_EqualPathLists samePs
  rw [ne_len]
  rw [cond_nd (z := some (cond (all2 (fun x y => sameP x y) a b) true false)) (fun hlen => by
    rw [loop_two (a := a) (b := b) (fun x y => sameP x y) false hlen (Nat.le_trans ha.1 (by decide)) (fun k x y mx my ix iy hd hw => by
      simp only [hd, ix, iy, hw, cond_true, obind_some, peta, i_sameP (ha.2 x mx) (hb.2 y my)]
      generalize (sameP x y) = c
      cases c <;> rfl) (by simp)]
    simp only [obind_some, elim_c, cond_sb]), cond_sb]

theorem s_samePs {a b : List (den tPath)} (ha : SmB 68719476736 (.sl tPath) a) (hb : SmB 68719476736 (.sl tPath) b) : s_EqualPathLists a b = some (samePs a b) := by
  unfold s_EqualPathLists samePs
  rw [ne_len]
  rw [cond_nd (z := some (cond (all2 (fun x y => sameP x y) a b) true false)) (fun hlen => by
    rw [loop_two (a := a) (b := b) (fun x y => sameP x y) false hlen (Nat.le_trans ha.1 (by decide)) (fun k x y mx my ix iy hd hw => by
      simp only [hd, ix, iy, hw, cond_true, obind_some, peta, s_sameP (ha.2 x mx) (hb.2 y my)]
      generalize (sameP x y) = c
      cases c <;> rfl) (by simp)]
    simp only [obind_some, elim_c, cond_sb]), cond_sb]

noncomputable def sameW (a b : List Int) : Bool := (strOf a).toList == (strOf b).toList

theorem i_sameW (a b : List Int) : i_EqualBytes a b = some (sameW a b) := rfl

theorem s_sameW (a b : List Int) : s_EqualBytes a b = some (sameW a b) := rfl

noncomputable def sameK (a b : den tPacket) : Bool := cond (a.1 == b.1) (cond (a.2.1 == b.2.1) (cond (a.2.2.1 == b.2.2.1) (cond (sameP a.2.2.2.1 b.2.2.2.1) (cond (a.2.2.2.2.1 == b.2.2.2.2.1) (cond (a.2.2.2.2.2.1 == b.2.2.2.2.2.1) (cond (a.2.2.2.2.2.2.1 == b.2.2.2.2.2.2.1) (cond (a.2.2.2.2.2.2.2.1 == b.2.2.2.2.2.2.2.1) (cond (a.2.2.2.2.2.2.2.2.1 == b.2.2.2.2.2.2.2.2.1) (sameW a.2.2.2.2.2.2.2.2.2 b.2.2.2.2.2.2.2.2.2) false) false) false) false) false) false) false) false) false

theorem i_sameK {a b : den tPacket} (ha : SmB 68719476736 tPacket a) (hb : SmB 68719476736 tPacket b) : i_EqualPackets a b = some (sameK a b) := by
  unfold i_EqualPackets sameK
  simp only [obind_some, cond_sb, peta, i_sameW, i_sameP ha.2.2.2.1 hb.2.2.2.1]

theorem s_sameK {a b : den tPacket} (ha : SmB 68719476736 tPacket a) (hb : SmB 68719476736 tPacket b) : s_EqualPackets a b = some (sameK a b) := by
  unfold s_EqualPackets sameK
  simp only [obind_some, cond_sb, peta, s_sameW, s_sameP ha.2.2.2.1 hb.2.2.2.1]

noncomputable def sameG (a b : den tSegment) : Bool := cond (a.1 == b.1) (cond (a.2.1 == b.2.1) (sameH a.2.2 b.2.2) false) false

theorem i_sameG {a b : den tSegment} (ha : SmB 68719476736 tSegment a) (hb : SmB 68719476736 tSegment b) : i_EqualSegments a b = some (sameG a b) := by
  unfold i_EqualSegments sameG
  simp only [obind_some, cond_sb, peta, i_sameH ha.2.2.1]

theorem s_sameG {a b : den tSegment} (ha : SmB 68719476736 tSegment a) (hb : SmB 68719476736 tSegment b) : s_EqualSegments a b = some (sameG a b) := by
  unfold s_EqualSegments sameG
  simp only [obind_some, cond_sb, peta, s_sameH ha.2.2.1]

noncomputable def sameGs (a b : List (den tSegment)) : Bool := cond (!decide (a.length = b.length)) false (cond (all2 (fun x y => sameG x y) a b) true false)

theorem i_sameGs {a b : List (den tSegment)} (ha : SmB 68719476736 (.sl tSegment) a) (hb : SmB 68719476736 (.sl tSegment) b) : i_equalSegmentLists a b = some (sameGs a b) := by
  unfold i_equalSegmentLists sameGs
  rw [ne_len]
  rw [cond_nd (z := some (cond (all2 (fun x y => sameG x y) a b) true false)) (fun hlen => by
    rw [loop_two (a := a) (b := b) (fun x y => sameG x y) false hlen (Nat.le_trans ha.1 (by decide)) (fun k x y mx my ix iy hd hw => by
      simp only [hd, ix, iy, hw, cond_true, obind_some, peta, i_sameG (ha.2 x mx) (hb.2 y my)]
      generalize (sameG x y) = c
      cases c <;> rfl) (by simp)]
    simp only [obind_some, elim_c, cond_sb]), cond_sb]

theorem s_sameGs {a b : List (den tSegment)} (ha : SmB 68719476736 (.sl tSegment) a) (hb : SmB 68719476736 (.sl tSegment) b) : s_l37SameSegs a b = some (sameGs a b) := by
  unfold s_l37SameSegs sameGs
  rw [ne_len]
  rw [cond_nd (z := some (cond (all2 (fun x y => sameG x y) a b) true false)) (fun hlen => by
    rw [loop_two (a := a) (b := b) (fun x y => sameG x y) false hlen (Nat.le_trans ha.1 (by decide)) (fun k x y mx my ix iy hd hw => by
      simp only [hd, ix, iy, hw, cond_true, obind_some, peta, s_sameG (ha.2 x mx) (hb.2 y my)]
      generalize (sameG x y) = c
      cases c <;> rfl) (by simp)]
    simp only [obind_some, elim_c, cond_sb]), cond_sb]

noncomputable def sameRs (a b : List (den tReservation)) : Bool := cond (!decide (a.length = b.length)) false (cond (all2 (fun x y => (x.1 == y.1) && ((x.2.1 == y.2.1) && ((x.2.2.1 == y.2.2.1) && ((x.2.2.2.1 == y.2.2.2.1) && ((x.2.2.2.2 == y.2.2.2.2) && true))))) a b) true false)

theorem i_sameRs {a b : List (den tReservation)} (ha : a.length ≤ 68719476736) : i_EqualReservations a b = some (sameRs a b) := by
  unfold i_EqualReservations sameRs
  rw [ne_len]
  rw [cond_nd (z := some (cond (all2 (fun x y => (x.1 == y.1) && ((x.2.1 == y.2.1) && ((x.2.2.1 == y.2.2.1) && ((x.2.2.2.1 == y.2.2.2.1) && ((x.2.2.2.2 == y.2.2.2.2) && true))))) a b) true false)) (fun hlen => by
    rw [loop_two (a := a) (b := b) (fun x y => (x.1 == y.1) && ((x.2.1 == y.2.1) && ((x.2.2.1 == y.2.2.1) && ((x.2.2.2.1 == y.2.2.2.1) && ((x.2.2.2.2 == y.2.2.2.2) && true))))) false hlen (Nat.le_trans ha (by decide)) (fun k x y mx my ix iy hd hw => by
      simp only [hd, ix, iy, hw, cond_true, obind_some, peta, bne]
      generalize ((x.1 == y.1) && ((x.2.1 == y.2.1) && ((x.2.2.1 == y.2.2.1) && ((x.2.2.2.1 == y.2.2.2.1) && ((x.2.2.2.2 == y.2.2.2.2) && true))))) = c
      cases c <;> rfl) (by simp)]
    simp only [obind_some, elim_c, cond_sb]), cond_sb]

theorem s_sameRs {a b : List (den tReservation)} (ha : a.length ≤ 68719476736) : s_EqualReservations a b = some (sameRs a b) := by
  unfold s_EqualReservations sameRs
  rw [ne_len]
  rw [cond_nd (z := some (cond (all2 (fun x y => (x.1 == y.1) && ((x.2.1 == y.2.1) && ((x.2.2.1 == y.2.2.1) && ((x.2.2.2.1 == y.2.2.2.1) && ((x.2.2.2.2 == y.2.2.2.2) && true))))) a b) true false)) (fun hlen => by
    rw [loop_two (a := a) (b := b) (fun x y => (x.1 == y.1) && ((x.2.1 == y.2.1) && ((x.2.2.1 == y.2.2.1) && ((x.2.2.2.1 == y.2.2.2.1) && ((x.2.2.2.2 == y.2.2.2.2) && true))))) false hlen (Nat.le_trans ha (by decide)) (fun k x y mx my ix iy hd hw => by
      simp only [hd, ix, iy, hw, cond_true, obind_some, peta, bne]
      generalize ((x.1 == y.1) && ((x.2.1 == y.2.1) && ((x.2.2.1 == y.2.2.1) && ((x.2.2.2.1 == y.2.2.2.1) && ((x.2.2.2.2 == y.2.2.2.2) && true))))) = c
      cases c <;> rfl) (by simp)]
    simp only [obind_some, elim_c, cond_sb]), cond_sb]

noncomputable def sameN (a b : List Int) : Bool := cond (!decide (a.length = b.length)) false (cond (all2 (fun x y => x == y) a b) true false)

theorem i_sameN {a b : List Int} (ha : a.length ≤ 68719476736) : i_EqualInts a b = some (sameN a b) := by
  unfold i_EqualInts sameN
  rw [ne_len]
  rw [cond_nd (z := some (cond (all2 (fun x y => x == y) a b) true false)) (fun hlen => by
    rw [loop_two (a := a) (b := b) (fun x y => x == y) false hlen (Nat.le_trans ha (by decide)) (fun k x y mx my ix iy hd hw => by
      simp only [hd, ix, iy, hw, cond_true, obind_some, peta, bne]
      generalize (x == y) = c
      cases c <;> rfl) (by simp)]
    simp only [obind_some, elim_c, cond_sb]), cond_sb]

theorem s_sameN {a b : List Int} (ha : a.length ≤ 68719476736) : s_EqualInts a b = some (sameN a b) := by
  unfold s_EqualInts sameN
  rw [ne_len]
  rw [cond_nd (z := some (cond (all2 (fun x y => x == y) a b) true false)) (fun hlen => by
    rw [loop_two (a := a) (b := b) (fun x y => x == y) false hlen (Nat.le_trans ha (by decide)) (fun k x y mx my ix iy hd hw => by
      simp only [hd, ix, iy, hw, cond_true, obind_some, peta, bne]
      generalize (x == y) = c
      cases c <;> rfl) (by simp)]
    simp only [obind_some, elim_c, cond_sb]), cond_sb]

noncomputable def sameM (a b : List (den tMessage)) : Bool := cond (!decide (a.length = b.length)) false (cond (all2 (fun x y => sameW x y) a b) true false)

theorem i_sameM {a b : List (den tMessage)} (ha : a.length ≤ 68719476736) : i_equalMessages a b = some (sameM a b) := by
  unfold i_equalMessages sameM
  rw [ne_len]
  rw [cond_nd (z := some (cond (all2 (fun x y => sameW x y) a b) true false)) (fun hlen => by
    rw [loop_two (a := a) (b := b) (fun x y => sameW x y) false hlen (Nat.le_trans ha (by decide)) (fun k x y mx my ix iy hd hw => by
      simp only [hd, ix, iy, hw, cond_true, obind_some, peta, i_sameW]
      generalize (sameW x y) = c
      cases c <;> rfl) (by simp)]
    simp only [obind_some, elim_c, cond_sb]), cond_sb]

noncomputable def sameT (a b : den tTopology) : Bool := (decide (a.1.length = b.1.length)) && ((decide (a.2.length = b.2.length)) && ((all2 (fun x y => (x.1 == y.1) && ((x.2.1 == y.2.1) && ((x.2.2 == y.2.2) && true))) a.1 b.1) && ((all2 (fun x y => (x.1 == y.1) && ((x.2.1 == y.2.1) && ((x.2.2.1 == y.2.2.1) && ((x.2.2.2.1 == y.2.2.2.1) && ((x.2.2.2.2 == y.2.2.2.2) && true))))) a.2 b.2))))

theorem i_sameT {a b : den tTopology} (ha : SmB 68719476736 tTopology a) (hb : SmB 68719476736 tTopology b) : i_equalTopologies a b = some (sameT a b) := by
  unfold i_equalTopologies sameT
  simp only [ne_len]
  try simp only [bne]
  by_cases h0 : a.1.length = b.1.length
  · rw [loop_two (a := a.1) (b := b.1) (fun x y => (x.1 == y.1) && ((x.2.1 == y.2.1) && ((x.2.2 == y.2.2) && true))) false h0 (Nat.le_trans ha.1.1 (by decide)) (fun k x y mx my ix iy hd hw => by
      simp only [hd, ix, iy, hw, cond_true, obind_some, peta, bne]
      generalize ((x.1 == y.1) && ((x.2.1 == y.2.1) && ((x.2.2 == y.2.2) && true))) = c; cases c <;> rfl) (by simp)]
    by_cases h1 : a.2.length = b.2.length
    · rw [loop_two (a := a.2) (b := b.2) (fun x y => (x.1 == y.1) && ((x.2.1 == y.2.1) && ((x.2.2.1 == y.2.2.1) && ((x.2.2.2.1 == y.2.2.2.1) && ((x.2.2.2.2 == y.2.2.2.2) && true))))) false h1 (Nat.le_trans ha.2.1 (by decide)) (fun k x y mx my ix iy hd hw => by
        simp only [hd, ix, iy, hw, cond_true, obind_some, peta, bne]
        generalize ((x.1 == y.1) && ((x.2.1 == y.2.1) && ((x.2.2.1 == y.2.2.1) && ((x.2.2.2.1 == y.2.2.2.1) && ((x.2.2.2.2 == y.2.2.2.2) && true))))) = c; cases c <;> rfl) (by simp)]
      simp only [obind_some, elim_c]
      all_goals (cases (decide (a.1.length = b.1.length)) <;> try simp only [Bool.not_true, Bool.not_false, cond_true, cond_false, obind_some, cond_sb, Bool.false_and, Bool.true_and, Sum.elim_inl, Sum.elim_inr])
      all_goals (cases (decide (a.2.length = b.2.length)) <;> try simp only [Bool.not_true, Bool.not_false, cond_true, cond_false, obind_some, cond_sb, Bool.false_and, Bool.true_and, Sum.elim_inl, Sum.elim_inr])
      all_goals (cases (all2 (fun x y => (x.1 == y.1) && ((x.2.1 == y.2.1) && ((x.2.2 == y.2.2) && true))) a.1 b.1) <;> try simp only [Bool.not_true, Bool.not_false, cond_true, cond_false, obind_some, cond_sb, Bool.false_and, Bool.true_and, Sum.elim_inl, Sum.elim_inr])
      all_goals (cases (all2 (fun x y => (x.1 == y.1) && ((x.2.1 == y.2.1) && ((x.2.2.1 == y.2.2.1) && ((x.2.2.2.1 == y.2.2.2.1) && ((x.2.2.2.2 == y.2.2.2.2) && true))))) a.2 b.2) <;> rfl)
    · have e1 : decide (a.2.length = b.2.length) = false := by simpa using h1
      simp only [e1]
      all_goals (cases (decide (a.1.length = b.1.length)) <;> try simp only [Bool.not_true, Bool.not_false, cond_true, cond_false, obind_some, cond_sb, Bool.false_and, Bool.true_and, Sum.elim_inl, Sum.elim_inr])
      all_goals rfl
  · have e0 : decide (a.1.length = b.1.length) = false := by simpa using h0
    simp only [e0]
    all_goals (cases (decide (a.2.length = b.2.length)) <;> try simp only [Bool.not_true, Bool.not_false, cond_true, cond_false, obind_some, cond_sb, Bool.false_and, Bool.true_and, Sum.elim_inl, Sum.elim_inr])
    all_goals rfl

theorem s_sameT {a b : den tTopology} (ha : SmB 68719476736 tTopology a) (hb : SmB 68719476736 tTopology b) : s_l37SameTopo a b = some (sameT a b) := by
  unfold s_l37SameTopo sameT
  simp only [ne_len]
  try simp only [bne]
  by_cases h0 : a.1.length = b.1.length
  · rw [loop_two (a := a.1) (b := b.1) (fun x y => (x.1 == y.1) && ((x.2.1 == y.2.1) && ((x.2.2 == y.2.2) && true))) false h0 (Nat.le_trans ha.1.1 (by decide)) (fun k x y mx my ix iy hd hw => by
      simp only [hd, ix, iy, hw, cond_true, obind_some, peta, bne]
      generalize ((x.1 == y.1) && ((x.2.1 == y.2.1) && ((x.2.2 == y.2.2) && true))) = c; cases c <;> rfl) (by simp)]
    by_cases h1 : a.2.length = b.2.length
    · rw [loop_two (a := a.2) (b := b.2) (fun x y => (x.1 == y.1) && ((x.2.1 == y.2.1) && ((x.2.2.1 == y.2.2.1) && ((x.2.2.2.1 == y.2.2.2.1) && ((x.2.2.2.2 == y.2.2.2.2) && true))))) false h1 (Nat.le_trans ha.2.1 (by decide)) (fun k x y mx my ix iy hd hw => by
        simp only [hd, ix, iy, hw, cond_true, obind_some, peta, bne]
        generalize ((x.1 == y.1) && ((x.2.1 == y.2.1) && ((x.2.2.1 == y.2.2.1) && ((x.2.2.2.1 == y.2.2.2.1) && ((x.2.2.2.2 == y.2.2.2.2) && true))))) = c; cases c <;> rfl) (by simp)]
      simp only [obind_some, elim_c]
      all_goals (cases (decide (a.1.length = b.1.length)) <;> try simp only [Bool.not_true, Bool.not_false, cond_true, cond_false, obind_some, cond_sb, Bool.false_and, Bool.true_and, Sum.elim_inl, Sum.elim_inr])
      all_goals (cases (decide (a.2.length = b.2.length)) <;> try simp only [Bool.not_true, Bool.not_false, cond_true, cond_false, obind_some, cond_sb, Bool.false_and, Bool.true_and, Sum.elim_inl, Sum.elim_inr])
      all_goals (cases (all2 (fun x y => (x.1 == y.1) && ((x.2.1 == y.2.1) && ((x.2.2 == y.2.2) && true))) a.1 b.1) <;> try simp only [Bool.not_true, Bool.not_false, cond_true, cond_false, obind_some, cond_sb, Bool.false_and, Bool.true_and, Sum.elim_inl, Sum.elim_inr])
      all_goals (cases (all2 (fun x y => (x.1 == y.1) && ((x.2.1 == y.2.1) && ((x.2.2.1 == y.2.2.1) && ((x.2.2.2.1 == y.2.2.2.1) && ((x.2.2.2.2 == y.2.2.2.2) && true))))) a.2 b.2) <;> rfl)
    · have e1 : decide (a.2.length = b.2.length) = false := by simpa using h1
      simp only [e1]
      all_goals (cases (decide (a.1.length = b.1.length)) <;> try simp only [Bool.not_true, Bool.not_false, cond_true, cond_false, obind_some, cond_sb, Bool.false_and, Bool.true_and, Sum.elim_inl, Sum.elim_inr])
      all_goals rfl
  · have e0 : decide (a.1.length = b.1.length) = false := by simpa using h0
    simp only [e0]
    all_goals (cases (decide (a.2.length = b.2.length)) <;> try simp only [Bool.not_true, Bool.not_false, cond_true, cond_false, obind_some, cond_sb, Bool.false_and, Bool.true_and, Sum.elim_inl, Sum.elim_inr])
    all_goals rfl

noncomputable def sameS (a b : den tScheduler) : Bool := (a.1 == b.1) && ((sameRs a.2.1 b.2.1) && ((decide (a.2.2.length = b.2.2.length)) && ((all2 (fun x y => (x.1 == y.1) && ((x.2.1 == y.2.1) && ((x.2.2.1 == y.2.2.1) && ((x.2.2.2 == y.2.2.2) && true)))) a.2.2 b.2.2))))

theorem i_sameS {a b : den tScheduler} (ha : SmB 68719476736 tScheduler a) (hb : SmB 68719476736 tScheduler b) : i_EqualSchedulers a b = some (sameS a b) := by
  unfold i_EqualSchedulers sameS
  simp only [ne_len]
  try simp only [bne, i_sameRs ha.2.1.1]
  by_cases h0 : a.2.2.length = b.2.2.length
  · rw [loop_two (a := a.2.2) (b := b.2.2) (fun x y => (x.1 == y.1) && ((x.2.1 == y.2.1) && ((x.2.2.1 == y.2.2.1) && ((x.2.2.2 == y.2.2.2) && true)))) false h0 (Nat.le_trans ha.2.2.1 (by decide)) (fun k x y mx my ix iy hd hw => by
      simp only [hd, ix, iy, hw, cond_true, obind_some, peta, bne]
      generalize ((x.1 == y.1) && ((x.2.1 == y.2.1) && ((x.2.2.1 == y.2.2.1) && ((x.2.2.2 == y.2.2.2) && true)))) = c; cases c <;> rfl) (by simp)]
    simp only [obind_some, elim_c]
    all_goals (cases (a.1 == b.1) <;> try simp only [Bool.not_true, Bool.not_false, cond_true, cond_false, obind_some, cond_sb, Bool.false_and, Bool.true_and, Sum.elim_inl, Sum.elim_inr])
    all_goals (cases (sameRs a.2.1 b.2.1) <;> try simp only [Bool.not_true, Bool.not_false, cond_true, cond_false, obind_some, cond_sb, Bool.false_and, Bool.true_and, Sum.elim_inl, Sum.elim_inr])
    all_goals (cases (decide (a.2.2.length = b.2.2.length)) <;> try simp only [Bool.not_true, Bool.not_false, cond_true, cond_false, obind_some, cond_sb, Bool.false_and, Bool.true_and, Sum.elim_inl, Sum.elim_inr])
    all_goals (cases (all2 (fun x y => (x.1 == y.1) && ((x.2.1 == y.2.1) && ((x.2.2.1 == y.2.2.1) && ((x.2.2.2 == y.2.2.2) && true)))) a.2.2 b.2.2) <;> rfl)
  · have e0 : decide (a.2.2.length = b.2.2.length) = false := by simpa using h0
    simp only [e0]
    all_goals (cases (a.1 == b.1) <;> try simp only [Bool.not_true, Bool.not_false, cond_true, cond_false, obind_some, cond_sb, Bool.false_and, Bool.true_and, Sum.elim_inl, Sum.elim_inr])
    all_goals (cases (sameRs a.2.1 b.2.1) <;> try simp only [Bool.not_true, Bool.not_false, cond_true, cond_false, obind_some, cond_sb, Bool.false_and, Bool.true_and, Sum.elim_inl, Sum.elim_inr])
    all_goals rfl

theorem s_sameS {a b : den tScheduler} (ha : SmB 68719476736 tScheduler a) (hb : SmB 68719476736 tScheduler b) : s_EqualSchedulers a b = some (sameS a b) := by
  unfold s_EqualSchedulers sameS
  simp only [ne_len]
  try simp only [bne, s_sameRs ha.2.1.1]
  by_cases h0 : a.2.2.length = b.2.2.length
  · rw [loop_two (a := a.2.2) (b := b.2.2) (fun x y => (x.1 == y.1) && ((x.2.1 == y.2.1) && ((x.2.2.1 == y.2.2.1) && ((x.2.2.2 == y.2.2.2) && true)))) false h0 (Nat.le_trans ha.2.2.1 (by decide)) (fun k x y mx my ix iy hd hw => by
      simp only [hd, ix, iy, hw, cond_true, obind_some, peta, bne]
      generalize ((x.1 == y.1) && ((x.2.1 == y.2.1) && ((x.2.2.1 == y.2.2.1) && ((x.2.2.2 == y.2.2.2) && true)))) = c; cases c <;> rfl) (by simp)]
    simp only [obind_some, elim_c]
    all_goals (cases (a.1 == b.1) <;> try simp only [Bool.not_true, Bool.not_false, cond_true, cond_false, obind_some, cond_sb, Bool.false_and, Bool.true_and, Sum.elim_inl, Sum.elim_inr])
    all_goals (cases (sameRs a.2.1 b.2.1) <;> try simp only [Bool.not_true, Bool.not_false, cond_true, cond_false, obind_some, cond_sb, Bool.false_and, Bool.true_and, Sum.elim_inl, Sum.elim_inr])
    all_goals (cases (decide (a.2.2.length = b.2.2.length)) <;> try simp only [Bool.not_true, Bool.not_false, cond_true, cond_false, obind_some, cond_sb, Bool.false_and, Bool.true_and, Sum.elim_inl, Sum.elim_inr])
    all_goals (cases (all2 (fun x y => (x.1 == y.1) && ((x.2.1 == y.2.1) && ((x.2.2.1 == y.2.2.1) && ((x.2.2.2 == y.2.2.2) && true)))) a.2.2 b.2.2) <;> rfl)
  · have e0 : decide (a.2.2.length = b.2.2.length) = false := by simpa using h0
    simp only [e0]
    all_goals (cases (a.1 == b.1) <;> try simp only [Bool.not_true, Bool.not_false, cond_true, cond_false, obind_some, cond_sb, Bool.false_and, Bool.true_and, Sum.elim_inl, Sum.elim_inr])
    all_goals (cases (sameRs a.2.1 b.2.1) <;> try simp only [Bool.not_true, Bool.not_false, cond_true, cond_false, obind_some, cond_sb, Bool.false_and, Bool.true_and, Sum.elim_inl, Sum.elim_inr])
    all_goals rfl

noncomputable def sameX (a b : den tInbox) : Bool := (a.1 == b.1) && ((a.2.1 == b.2.1) && ((a.2.2.1 == b.2.2.1) && sameM a.2.2.2 b.2.2.2))

theorem i_sameX {a b : den tInbox} (ha : SmB 68719476736 tInbox a) (hb : SmB 68719476736 tInbox b) : i_EqualInboxes a b = some (sameX a b) := by
  unfold i_EqualInboxes sameX
  simp only [i_sameM ha.2.2.2.1, obind_some]
  cases (a.1 == b.1) <;> simp only [cond_true, cond_false, obind_some, Bool.false_and, Bool.true_and]
  cases (a.2.1 == b.2.1) <;> simp only [cond_true, cond_false, obind_some, Bool.false_and, Bool.true_and]
  cases (a.2.2.1 == b.2.2.1) <;> simp only [cond_true, cond_false, obind_some, Bool.false_and, Bool.true_and]

theorem s_sameX {a b : den tInbox} (ha : SmB 68719476736 tInbox a) (hb : SmB 68719476736 tInbox b) : s_EqualInboxes a b = some (sameX a b) := by
  unfold s_EqualInboxes sameX sameM
  simp only [ne_len]
  simp only [bne]
  by_cases h0 : a.2.2.2.length = b.2.2.2.length
  · rw [loop_two (a := a.2.2.2) (b := b.2.2.2) (fun x y => sameW x y) false h0 (Nat.le_trans ha.2.2.2.1 (by decide)) (fun k x y mx my ix iy hd hw => by
      simp only [hd, ix, iy, hw, cond_true, obind_some, s_sameW]
      cases sameW x y <;> rfl) (by simp)]
    simp only [obind_some, elim_c]
    cases (a.1 == b.1) <;> simp only [Bool.not_true, Bool.not_false, cond_true, cond_false, obind_some, Bool.false_and, Bool.true_and]
    cases (a.2.1 == b.2.1) <;> simp only [Bool.not_true, Bool.not_false, cond_true, cond_false, obind_some, Bool.false_and, Bool.true_and]
    cases (a.2.2.1 == b.2.2.1) <;> simp only [Bool.not_true, Bool.not_false, cond_true, cond_false, obind_some, Bool.false_and, Bool.true_and]
    cases decide (a.2.2.2.length = b.2.2.2.length) <;> simp only [Bool.not_true, Bool.not_false, cond_true, cond_false, cond_sb]
  · have e : decide (a.2.2.2.length = b.2.2.2.length) = false := by simpa using h0
    simp only [e]
    cases (a.1 == b.1) <;> simp only [Bool.not_true, Bool.not_false, cond_true, cond_false, obind_some, Bool.false_and, Bool.true_and]
    cases (a.2.1 == b.2.1) <;> simp only [Bool.not_true, Bool.not_false, cond_true, cond_false, obind_some, Bool.false_and, Bool.true_and]
    cases (a.2.2.1 == b.2.2.1) <;> simp only [Bool.not_true, Bool.not_false, cond_true, cond_false, obind_some, Bool.false_and, Bool.true_and]

noncomputable def sameF (a b : den tFlow) : Bool := (a.1 == b.1) && ((a.2.1 == b.2.1) && ((a.2.2.1 == b.2.2.1) && ((a.2.2.2.1 == b.2.2.2.1) && ((a.2.2.2.2.2.2.1 == b.2.2.2.2.2.2.1) && ((a.2.2.2.2.2.2.2.1 == b.2.2.2.2.2.2.2.1) && ((decide (a.2.2.2.2.1.length = b.2.2.2.2.1.length)) && ((all2 (fun x y => sameW x y) a.2.2.2.2.1 b.2.2.2.2.1) && ((samePs a.2.2.2.2.2.1 b.2.2.2.2.2.1) && ((decide (a.2.2.2.2.2.2.2.2.length = b.2.2.2.2.2.2.2.2.length)) && ((all2 (fun x y => (x.1 == y.1) && ((x.2.1 == y.2.1) && ((x.2.2 == y.2.2) && true))) a.2.2.2.2.2.2.2.2 b.2.2.2.2.2.2.2.2)))))))))))

theorem i_sameF {a b : den tFlow} (ha : SmB 68719476736 tFlow a) (hb : SmB 68719476736 tFlow b) : i_equalFlows a b = some (sameF a b) := by
  unfold i_equalFlows sameF
  simp only [ne_len]
  try simp only [bne, i_sameM ha.2.2.2.2.1.1, sameM, i_samePs ha.2.2.2.2.2.1 hb.2.2.2.2.2.1]
  by_cases h0 : a.2.2.2.2.2.2.2.2.length = b.2.2.2.2.2.2.2.2.length
  · rw [loop_two (a := a.2.2.2.2.2.2.2.2) (b := b.2.2.2.2.2.2.2.2) (fun x y => (x.1 == y.1) && ((x.2.1 == y.2.1) && ((x.2.2 == y.2.2) && true))) false h0 (Nat.le_trans ha.2.2.2.2.2.2.2.2.1 (by decide)) (fun k x y mx my ix iy hd hw => by
      simp only [hd, ix, iy, hw, cond_true, obind_some, peta, bne]
      generalize ((x.1 == y.1) && ((x.2.1 == y.2.1) && ((x.2.2 == y.2.2) && true))) = c; cases c <;> rfl) (by simp)]
    simp only [obind_some, elim_c]
    all_goals (cases (a.1 == b.1) <;> try simp only [Bool.not_true, Bool.not_false, cond_true, cond_false, obind_some, cond_sb, Bool.false_and, Bool.true_and, Sum.elim_inl, Sum.elim_inr])
    all_goals (cases (a.2.1 == b.2.1) <;> try simp only [Bool.not_true, Bool.not_false, cond_true, cond_false, obind_some, cond_sb, Bool.false_and, Bool.true_and, Sum.elim_inl, Sum.elim_inr])
    all_goals (cases (a.2.2.1 == b.2.2.1) <;> try simp only [Bool.not_true, Bool.not_false, cond_true, cond_false, obind_some, cond_sb, Bool.false_and, Bool.true_and, Sum.elim_inl, Sum.elim_inr])
    all_goals (cases (a.2.2.2.1 == b.2.2.2.1) <;> try simp only [Bool.not_true, Bool.not_false, cond_true, cond_false, obind_some, cond_sb, Bool.false_and, Bool.true_and, Sum.elim_inl, Sum.elim_inr])
    all_goals (cases (a.2.2.2.2.2.2.1 == b.2.2.2.2.2.2.1) <;> try simp only [Bool.not_true, Bool.not_false, cond_true, cond_false, obind_some, cond_sb, Bool.false_and, Bool.true_and, Sum.elim_inl, Sum.elim_inr])
    all_goals (cases (a.2.2.2.2.2.2.2.1 == b.2.2.2.2.2.2.2.1) <;> try simp only [Bool.not_true, Bool.not_false, cond_true, cond_false, obind_some, cond_sb, Bool.false_and, Bool.true_and, Sum.elim_inl, Sum.elim_inr])
    all_goals (cases (decide (a.2.2.2.2.1.length = b.2.2.2.2.1.length)) <;> try simp only [Bool.not_true, Bool.not_false, cond_true, cond_false, obind_some, cond_sb, Bool.false_and, Bool.true_and, Sum.elim_inl, Sum.elim_inr])
    all_goals (cases (all2 (fun x y => sameW x y) a.2.2.2.2.1 b.2.2.2.2.1) <;> try simp only [Bool.not_true, Bool.not_false, cond_true, cond_false, obind_some, cond_sb, Bool.false_and, Bool.true_and, Sum.elim_inl, Sum.elim_inr])
    all_goals (cases (samePs a.2.2.2.2.2.1 b.2.2.2.2.2.1) <;> try simp only [Bool.not_true, Bool.not_false, cond_true, cond_false, obind_some, cond_sb, Bool.false_and, Bool.true_and, Sum.elim_inl, Sum.elim_inr])
    all_goals (cases (decide (a.2.2.2.2.2.2.2.2.length = b.2.2.2.2.2.2.2.2.length)) <;> try simp only [Bool.not_true, Bool.not_false, cond_true, cond_false, obind_some, cond_sb, Bool.false_and, Bool.true_and, Sum.elim_inl, Sum.elim_inr])
    all_goals (cases (all2 (fun x y => (x.1 == y.1) && ((x.2.1 == y.2.1) && ((x.2.2 == y.2.2) && true))) a.2.2.2.2.2.2.2.2 b.2.2.2.2.2.2.2.2) <;> rfl)
  · have e0 : decide (a.2.2.2.2.2.2.2.2.length = b.2.2.2.2.2.2.2.2.length) = false := by simpa using h0
    simp only [e0]
    all_goals (cases (a.1 == b.1) <;> try simp only [Bool.not_true, Bool.not_false, cond_true, cond_false, obind_some, cond_sb, Bool.false_and, Bool.true_and, Sum.elim_inl, Sum.elim_inr])
    all_goals (cases (a.2.1 == b.2.1) <;> try simp only [Bool.not_true, Bool.not_false, cond_true, cond_false, obind_some, cond_sb, Bool.false_and, Bool.true_and, Sum.elim_inl, Sum.elim_inr])
    all_goals (cases (a.2.2.1 == b.2.2.1) <;> try simp only [Bool.not_true, Bool.not_false, cond_true, cond_false, obind_some, cond_sb, Bool.false_and, Bool.true_and, Sum.elim_inl, Sum.elim_inr])
    all_goals (cases (a.2.2.2.1 == b.2.2.2.1) <;> try simp only [Bool.not_true, Bool.not_false, cond_true, cond_false, obind_some, cond_sb, Bool.false_and, Bool.true_and, Sum.elim_inl, Sum.elim_inr])
    all_goals (cases (a.2.2.2.2.2.2.1 == b.2.2.2.2.2.2.1) <;> try simp only [Bool.not_true, Bool.not_false, cond_true, cond_false, obind_some, cond_sb, Bool.false_and, Bool.true_and, Sum.elim_inl, Sum.elim_inr])
    all_goals (cases (a.2.2.2.2.2.2.2.1 == b.2.2.2.2.2.2.2.1) <;> try simp only [Bool.not_true, Bool.not_false, cond_true, cond_false, obind_some, cond_sb, Bool.false_and, Bool.true_and, Sum.elim_inl, Sum.elim_inr])
    all_goals (cases (decide (a.2.2.2.2.1.length = b.2.2.2.2.1.length)) <;> try simp only [Bool.not_true, Bool.not_false, cond_true, cond_false, obind_some, cond_sb, Bool.false_and, Bool.true_and, Sum.elim_inl, Sum.elim_inr])
    all_goals (cases (all2 (fun x y => sameW x y) a.2.2.2.2.1 b.2.2.2.2.1) <;> try simp only [Bool.not_true, Bool.not_false, cond_true, cond_false, obind_some, cond_sb, Bool.false_and, Bool.true_and, Sum.elim_inl, Sum.elim_inr])
    all_goals (cases (samePs a.2.2.2.2.2.1 b.2.2.2.2.2.1) <;> try simp only [Bool.not_true, Bool.not_false, cond_true, cond_false, obind_some, cond_sb, Bool.false_and, Bool.true_and, Sum.elim_inl, Sum.elim_inr])
    all_goals rfl

theorem s_sameF {a b : den tFlow} (ha : SmB 68719476736 tFlow a) (hb : SmB 68719476736 tFlow b) : s_l37SameFlow a b = some (sameF a b) := by
  unfold s_l37SameFlow sameF
  simp only [ne_len]
  try simp only [bne, s_samePs ha.2.2.2.2.2.1 hb.2.2.2.2.2.1]
  by_cases h0 : a.2.2.2.2.1.length = b.2.2.2.2.1.length
  · rw [loop_two (a := a.2.2.2.2.1) (b := b.2.2.2.2.1) (fun x y => sameW x y) false h0 (Nat.le_trans ha.2.2.2.2.1.1 (by decide)) (fun k x y mx my ix iy hd hw => by
      simp only [hd, ix, iy, hw, cond_true, obind_some, peta, bne, s_sameW]
      cases sameW x y <;> rfl) (by simp)]
    by_cases h1 : a.2.2.2.2.2.2.2.2.length = b.2.2.2.2.2.2.2.2.length
    · rw [loop_two (a := a.2.2.2.2.2.2.2.2) (b := b.2.2.2.2.2.2.2.2) (fun x y => (x.1 == y.1) && ((x.2.1 == y.2.1) && ((x.2.2 == y.2.2) && true))) false h1 (Nat.le_trans ha.2.2.2.2.2.2.2.2.1 (by decide)) (fun k x y mx my ix iy hd hw => by
        simp only [hd, ix, iy, hw, cond_true, obind_some, peta, bne]
        generalize ((x.1 == y.1) && ((x.2.1 == y.2.1) && ((x.2.2 == y.2.2) && true))) = c; cases c <;> rfl) (by simp)]
      simp only [obind_some, elim_c]
      all_goals (cases (a.1 == b.1) <;> try simp only [Bool.not_true, Bool.not_false, cond_true, cond_false, obind_some, cond_sb, Bool.false_and, Bool.true_and, Sum.elim_inl, Sum.elim_inr])
      all_goals (cases (a.2.1 == b.2.1) <;> try simp only [Bool.not_true, Bool.not_false, cond_true, cond_false, obind_some, cond_sb, Bool.false_and, Bool.true_and, Sum.elim_inl, Sum.elim_inr])
      all_goals (cases (a.2.2.1 == b.2.2.1) <;> try simp only [Bool.not_true, Bool.not_false, cond_true, cond_false, obind_some, cond_sb, Bool.false_and, Bool.true_and, Sum.elim_inl, Sum.elim_inr])
      all_goals (cases (a.2.2.2.1 == b.2.2.2.1) <;> try simp only [Bool.not_true, Bool.not_false, cond_true, cond_false, obind_some, cond_sb, Bool.false_and, Bool.true_and, Sum.elim_inl, Sum.elim_inr])
      all_goals (cases (a.2.2.2.2.2.2.1 == b.2.2.2.2.2.2.1) <;> try simp only [Bool.not_true, Bool.not_false, cond_true, cond_false, obind_some, cond_sb, Bool.false_and, Bool.true_and, Sum.elim_inl, Sum.elim_inr])
      all_goals (cases (a.2.2.2.2.2.2.2.1 == b.2.2.2.2.2.2.2.1) <;> try simp only [Bool.not_true, Bool.not_false, cond_true, cond_false, obind_some, cond_sb, Bool.false_and, Bool.true_and, Sum.elim_inl, Sum.elim_inr])
      all_goals (cases (decide (a.2.2.2.2.1.length = b.2.2.2.2.1.length)) <;> try simp only [Bool.not_true, Bool.not_false, cond_true, cond_false, obind_some, cond_sb, Bool.false_and, Bool.true_and, Sum.elim_inl, Sum.elim_inr])
      all_goals (cases (all2 (fun x y => sameW x y) a.2.2.2.2.1 b.2.2.2.2.1) <;> try simp only [Bool.not_true, Bool.not_false, cond_true, cond_false, obind_some, cond_sb, Bool.false_and, Bool.true_and, Sum.elim_inl, Sum.elim_inr])
      all_goals (cases (samePs a.2.2.2.2.2.1 b.2.2.2.2.2.1) <;> try simp only [Bool.not_true, Bool.not_false, cond_true, cond_false, obind_some, cond_sb, Bool.false_and, Bool.true_and, Sum.elim_inl, Sum.elim_inr])
      all_goals (cases (decide (a.2.2.2.2.2.2.2.2.length = b.2.2.2.2.2.2.2.2.length)) <;> try simp only [Bool.not_true, Bool.not_false, cond_true, cond_false, obind_some, cond_sb, Bool.false_and, Bool.true_and, Sum.elim_inl, Sum.elim_inr])
      all_goals (cases (all2 (fun x y => (x.1 == y.1) && ((x.2.1 == y.2.1) && ((x.2.2 == y.2.2) && true))) a.2.2.2.2.2.2.2.2 b.2.2.2.2.2.2.2.2) <;> rfl)
    · have e1 : decide (a.2.2.2.2.2.2.2.2.length = b.2.2.2.2.2.2.2.2.length) = false := by simpa using h1
      simp only [e1]
      all_goals (cases (a.1 == b.1) <;> try simp only [Bool.not_true, Bool.not_false, cond_true, cond_false, obind_some, cond_sb, Bool.false_and, Bool.true_and, Sum.elim_inl, Sum.elim_inr])
      all_goals (cases (a.2.1 == b.2.1) <;> try simp only [Bool.not_true, Bool.not_false, cond_true, cond_false, obind_some, cond_sb, Bool.false_and, Bool.true_and, Sum.elim_inl, Sum.elim_inr])
      all_goals (cases (a.2.2.1 == b.2.2.1) <;> try simp only [Bool.not_true, Bool.not_false, cond_true, cond_false, obind_some, cond_sb, Bool.false_and, Bool.true_and, Sum.elim_inl, Sum.elim_inr])
      all_goals (cases (a.2.2.2.1 == b.2.2.2.1) <;> try simp only [Bool.not_true, Bool.not_false, cond_true, cond_false, obind_some, cond_sb, Bool.false_and, Bool.true_and, Sum.elim_inl, Sum.elim_inr])
      all_goals (cases (a.2.2.2.2.2.2.1 == b.2.2.2.2.2.2.1) <;> try simp only [Bool.not_true, Bool.not_false, cond_true, cond_false, obind_some, cond_sb, Bool.false_and, Bool.true_and, Sum.elim_inl, Sum.elim_inr])
      all_goals (cases (a.2.2.2.2.2.2.2.1 == b.2.2.2.2.2.2.2.1) <;> try simp only [Bool.not_true, Bool.not_false, cond_true, cond_false, obind_some, cond_sb, Bool.false_and, Bool.true_and, Sum.elim_inl, Sum.elim_inr])
      all_goals (cases (decide (a.2.2.2.2.1.length = b.2.2.2.2.1.length)) <;> try simp only [Bool.not_true, Bool.not_false, cond_true, cond_false, obind_some, cond_sb, Bool.false_and, Bool.true_and, Sum.elim_inl, Sum.elim_inr])
      all_goals (cases (all2 (fun x y => sameW x y) a.2.2.2.2.1 b.2.2.2.2.1) <;> try simp only [Bool.not_true, Bool.not_false, cond_true, cond_false, obind_some, cond_sb, Bool.false_and, Bool.true_and, Sum.elim_inl, Sum.elim_inr])
      all_goals (cases (samePs a.2.2.2.2.2.1 b.2.2.2.2.2.1) <;> try simp only [Bool.not_true, Bool.not_false, cond_true, cond_false, obind_some, cond_sb, Bool.false_and, Bool.true_and, Sum.elim_inl, Sum.elim_inr])
      all_goals rfl
  · have e0 : decide (a.2.2.2.2.1.length = b.2.2.2.2.1.length) = false := by simpa using h0
    simp only [e0]
    all_goals (cases (a.1 == b.1) <;> try simp only [Bool.not_true, Bool.not_false, cond_true, cond_false, obind_some, cond_sb, Bool.false_and, Bool.true_and, Sum.elim_inl, Sum.elim_inr])
    all_goals (cases (a.2.1 == b.2.1) <;> try simp only [Bool.not_true, Bool.not_false, cond_true, cond_false, obind_some, cond_sb, Bool.false_and, Bool.true_and, Sum.elim_inl, Sum.elim_inr])
    all_goals (cases (a.2.2.1 == b.2.2.1) <;> try simp only [Bool.not_true, Bool.not_false, cond_true, cond_false, obind_some, cond_sb, Bool.false_and, Bool.true_and, Sum.elim_inl, Sum.elim_inr])
    all_goals (cases (a.2.2.2.1 == b.2.2.2.1) <;> try simp only [Bool.not_true, Bool.not_false, cond_true, cond_false, obind_some, cond_sb, Bool.false_and, Bool.true_and, Sum.elim_inl, Sum.elim_inr])
    all_goals (cases (a.2.2.2.2.2.2.1 == b.2.2.2.2.2.2.1) <;> try simp only [Bool.not_true, Bool.not_false, cond_true, cond_false, obind_some, cond_sb, Bool.false_and, Bool.true_and, Sum.elim_inl, Sum.elim_inr])
    all_goals (cases (a.2.2.2.2.2.2.2.1 == b.2.2.2.2.2.2.2.1) <;> try simp only [Bool.not_true, Bool.not_false, cond_true, cond_false, obind_some, cond_sb, Bool.false_and, Bool.true_and, Sum.elim_inl, Sum.elim_inr])
    all_goals (cases (all2 (fun x y => sameW x y) a.2.2.2.2.1 b.2.2.2.2.1) <;> try simp only [Bool.not_true, Bool.not_false, cond_true, cond_false, obind_some, cond_sb, Bool.false_and, Bool.true_and, Sum.elim_inl, Sum.elim_inr])
    all_goals (cases (samePs a.2.2.2.2.2.1 b.2.2.2.2.2.1) <;> try simp only [Bool.not_true, Bool.not_false, cond_true, cond_false, obind_some, cond_sb, Bool.false_and, Bool.true_and, Sum.elim_inl, Sum.elim_inr])
    all_goals (cases (decide (a.2.2.2.2.2.2.2.2.length = b.2.2.2.2.2.2.2.2.length)) <;> try simp only [Bool.not_true, Bool.not_false, cond_true, cond_false, obind_some, cond_sb, Bool.false_and, Bool.true_and, Sum.elim_inl, Sum.elim_inr])
    all_goals rfl

noncomputable def sameNet (a b : den tNetwork) : Bool := (sameT a.1 b.1) && ((sameGs a.2.1.1 b.2.1.1) && ((sameGs a.2.1.2 b.2.1.2) && ((sameS a.2.2.1 b.2.2.1) && ((a.2.2.2.1 == b.2.2.2.1) && ((sameN a.2.2.2.2.1 b.2.2.2.2.1) && ((a.2.2.2.2.2.2.2.2 == b.2.2.2.2.2.2.2.2) && ((decide (a.2.2.2.2.2.1.length = b.2.2.2.2.2.1.length)) && ((decide (a.2.2.2.2.2.2.1.length = b.2.2.2.2.2.2.1.length)) && ((decide (a.2.2.2.2.2.2.2.1.length = b.2.2.2.2.2.2.2.1.length)) && ((all2 (fun x y => (cond (x.1 == y.1) (cond (x.2.1 == y.2.1) (sameK x.2.2 y.2.2) false) false)) a.2.2.2.2.2.1 b.2.2.2.2.2.1) && ((all2 (fun x y => sameF x y) a.2.2.2.2.2.2.1 b.2.2.2.2.2.2.1) && ((all2 (fun x y => sameX x y) a.2.2.2.2.2.2.2.1 b.2.2.2.2.2.2.2.1)))))))))))))

theorem i_sameNet {a b : den tNetwork} (ha : SmB 68719476736 tNetwork a) (hb : SmB 68719476736 tNetwork b) : i_EqualNetworks a b = some (sameNet a b) := by
  unfold i_EqualNetworks sameNet
  simp only [ne_len]
  try simp only [bne, peta, i_sameT ha.1 hb.1, i_sameGs ha.2.1.1 hb.2.1.1, i_sameGs ha.2.1.2 hb.2.1.2, i_sameS ha.2.2.1 hb.2.2.1, i_sameN ha.2.2.2.2.1.1]
  by_cases h0 : a.2.2.2.2.2.1.length = b.2.2.2.2.2.1.length
  · rw [loop_two (a := a.2.2.2.2.2.1) (b := b.2.2.2.2.2.1) (fun x y => (cond (x.1 == y.1) (cond (x.2.1 == y.2.1) (sameK x.2.2 y.2.2) false) false)) false h0 (Nat.le_trans ha.2.2.2.2.2.1.1 (by decide)) (fun k x y mx my ix iy hd hw => by
      simp only [hd, ix, iy, hw, cond_true, obind_some, peta, bne, i_sameK (ha.2.2.2.2.2.1.2 x mx).2.2 (hb.2.2.2.2.2.1.2 y my).2.2]
      cases (x.1 == y.1) <;> cases (x.2.1 == y.2.1) <;> cases sameK x.2.2 y.2.2 <;> rfl) (by simp)]
    by_cases h1 : a.2.2.2.2.2.2.1.length = b.2.2.2.2.2.2.1.length
    · rw [loop_two (a := a.2.2.2.2.2.2.1) (b := b.2.2.2.2.2.2.1) (fun x y => sameF x y) false h1 (Nat.le_trans ha.2.2.2.2.2.2.1.1 (by decide)) (fun k x y mx my ix iy hd hw => by
        simp only [hd, ix, iy, hw, cond_true, obind_some, peta, bne, i_sameF (ha.2.2.2.2.2.2.1.2 x mx) (hb.2.2.2.2.2.2.1.2 y my)]
        cases sameF x y <;> rfl) (by simp)]
      by_cases h2 : a.2.2.2.2.2.2.2.1.length = b.2.2.2.2.2.2.2.1.length
      · rw [loop_two (a := a.2.2.2.2.2.2.2.1) (b := b.2.2.2.2.2.2.2.1) (fun x y => sameX x y) false h2 (Nat.le_trans ha.2.2.2.2.2.2.2.1.1 (by decide)) (fun k x y mx my ix iy hd hw => by
          simp only [hd, ix, iy, hw, cond_true, obind_some, peta, bne, i_sameX (ha.2.2.2.2.2.2.2.1.2 x mx) (hb.2.2.2.2.2.2.2.1.2 y my)]
          cases sameX x y <;> rfl) (by simp)]
        simp only [obind_some, elim_c]
        all_goals (cases (sameT a.1 b.1) <;> try simp only [Bool.not_true, Bool.not_false, cond_true, cond_false, obind_some, cond_sb, Bool.false_and, Bool.true_and, Sum.elim_inl, Sum.elim_inr])
        all_goals (cases (sameGs a.2.1.1 b.2.1.1) <;> try simp only [Bool.not_true, Bool.not_false, cond_true, cond_false, obind_some, cond_sb, Bool.false_and, Bool.true_and, Sum.elim_inl, Sum.elim_inr])
        all_goals (cases (sameGs a.2.1.2 b.2.1.2) <;> try simp only [Bool.not_true, Bool.not_false, cond_true, cond_false, obind_some, cond_sb, Bool.false_and, Bool.true_and, Sum.elim_inl, Sum.elim_inr])
        all_goals (cases (sameS a.2.2.1 b.2.2.1) <;> try simp only [Bool.not_true, Bool.not_false, cond_true, cond_false, obind_some, cond_sb, Bool.false_and, Bool.true_and, Sum.elim_inl, Sum.elim_inr])
        all_goals (cases (a.2.2.2.1 == b.2.2.2.1) <;> try simp only [Bool.not_true, Bool.not_false, cond_true, cond_false, obind_some, cond_sb, Bool.false_and, Bool.true_and, Sum.elim_inl, Sum.elim_inr])
        all_goals (cases (sameN a.2.2.2.2.1 b.2.2.2.2.1) <;> try simp only [Bool.not_true, Bool.not_false, cond_true, cond_false, obind_some, cond_sb, Bool.false_and, Bool.true_and, Sum.elim_inl, Sum.elim_inr])
        all_goals (cases (a.2.2.2.2.2.2.2.2 == b.2.2.2.2.2.2.2.2) <;> try simp only [Bool.not_true, Bool.not_false, cond_true, cond_false, obind_some, cond_sb, Bool.false_and, Bool.true_and, Sum.elim_inl, Sum.elim_inr])
        all_goals (cases (decide (a.2.2.2.2.2.1.length = b.2.2.2.2.2.1.length)) <;> try simp only [Bool.not_true, Bool.not_false, cond_true, cond_false, obind_some, cond_sb, Bool.false_and, Bool.true_and, Sum.elim_inl, Sum.elim_inr])
        all_goals (cases (decide (a.2.2.2.2.2.2.1.length = b.2.2.2.2.2.2.1.length)) <;> try simp only [Bool.not_true, Bool.not_false, cond_true, cond_false, obind_some, cond_sb, Bool.false_and, Bool.true_and, Sum.elim_inl, Sum.elim_inr])
        all_goals (cases (decide (a.2.2.2.2.2.2.2.1.length = b.2.2.2.2.2.2.2.1.length)) <;> try simp only [Bool.not_true, Bool.not_false, cond_true, cond_false, obind_some, cond_sb, Bool.false_and, Bool.true_and, Sum.elim_inl, Sum.elim_inr])
        all_goals (cases (all2 (fun x y => (cond (x.1 == y.1) (cond (x.2.1 == y.2.1) (sameK x.2.2 y.2.2) false) false)) a.2.2.2.2.2.1 b.2.2.2.2.2.1) <;> try simp only [Bool.not_true, Bool.not_false, cond_true, cond_false, obind_some, cond_sb, Bool.false_and, Bool.true_and, Sum.elim_inl, Sum.elim_inr])
        all_goals (cases (all2 (fun x y => sameF x y) a.2.2.2.2.2.2.1 b.2.2.2.2.2.2.1) <;> try simp only [Bool.not_true, Bool.not_false, cond_true, cond_false, obind_some, cond_sb, Bool.false_and, Bool.true_and, Sum.elim_inl, Sum.elim_inr])
        all_goals (cases (all2 (fun x y => sameX x y) a.2.2.2.2.2.2.2.1 b.2.2.2.2.2.2.2.1) <;> rfl)
      · have e2 : decide (a.2.2.2.2.2.2.2.1.length = b.2.2.2.2.2.2.2.1.length) = false := by simpa using h2
        simp only [e2]
        all_goals (cases (sameT a.1 b.1) <;> try simp only [Bool.not_true, Bool.not_false, cond_true, cond_false, obind_some, cond_sb, Bool.false_and, Bool.true_and, Sum.elim_inl, Sum.elim_inr])
        all_goals (cases (sameGs a.2.1.1 b.2.1.1) <;> try simp only [Bool.not_true, Bool.not_false, cond_true, cond_false, obind_some, cond_sb, Bool.false_and, Bool.true_and, Sum.elim_inl, Sum.elim_inr])
        all_goals (cases (sameGs a.2.1.2 b.2.1.2) <;> try simp only [Bool.not_true, Bool.not_false, cond_true, cond_false, obind_some, cond_sb, Bool.false_and, Bool.true_and, Sum.elim_inl, Sum.elim_inr])
        all_goals (cases (sameS a.2.2.1 b.2.2.1) <;> try simp only [Bool.not_true, Bool.not_false, cond_true, cond_false, obind_some, cond_sb, Bool.false_and, Bool.true_and, Sum.elim_inl, Sum.elim_inr])
        all_goals (cases (a.2.2.2.1 == b.2.2.2.1) <;> try simp only [Bool.not_true, Bool.not_false, cond_true, cond_false, obind_some, cond_sb, Bool.false_and, Bool.true_and, Sum.elim_inl, Sum.elim_inr])
        all_goals (cases (sameN a.2.2.2.2.1 b.2.2.2.2.1) <;> try simp only [Bool.not_true, Bool.not_false, cond_true, cond_false, obind_some, cond_sb, Bool.false_and, Bool.true_and, Sum.elim_inl, Sum.elim_inr])
        all_goals (cases (a.2.2.2.2.2.2.2.2 == b.2.2.2.2.2.2.2.2) <;> try simp only [Bool.not_true, Bool.not_false, cond_true, cond_false, obind_some, cond_sb, Bool.false_and, Bool.true_and, Sum.elim_inl, Sum.elim_inr])
        all_goals (cases (decide (a.2.2.2.2.2.1.length = b.2.2.2.2.2.1.length)) <;> try simp only [Bool.not_true, Bool.not_false, cond_true, cond_false, obind_some, cond_sb, Bool.false_and, Bool.true_and, Sum.elim_inl, Sum.elim_inr])
        all_goals (cases (decide (a.2.2.2.2.2.2.1.length = b.2.2.2.2.2.2.1.length)) <;> try simp only [Bool.not_true, Bool.not_false, cond_true, cond_false, obind_some, cond_sb, Bool.false_and, Bool.true_and, Sum.elim_inl, Sum.elim_inr])
        all_goals rfl
    · have e1 : decide (a.2.2.2.2.2.2.1.length = b.2.2.2.2.2.2.1.length) = false := by simpa using h1
      simp only [e1]
      all_goals (cases (sameT a.1 b.1) <;> try simp only [Bool.not_true, Bool.not_false, cond_true, cond_false, obind_some, cond_sb, Bool.false_and, Bool.true_and, Sum.elim_inl, Sum.elim_inr])
      all_goals (cases (sameGs a.2.1.1 b.2.1.1) <;> try simp only [Bool.not_true, Bool.not_false, cond_true, cond_false, obind_some, cond_sb, Bool.false_and, Bool.true_and, Sum.elim_inl, Sum.elim_inr])
      all_goals (cases (sameGs a.2.1.2 b.2.1.2) <;> try simp only [Bool.not_true, Bool.not_false, cond_true, cond_false, obind_some, cond_sb, Bool.false_and, Bool.true_and, Sum.elim_inl, Sum.elim_inr])
      all_goals (cases (sameS a.2.2.1 b.2.2.1) <;> try simp only [Bool.not_true, Bool.not_false, cond_true, cond_false, obind_some, cond_sb, Bool.false_and, Bool.true_and, Sum.elim_inl, Sum.elim_inr])
      all_goals (cases (a.2.2.2.1 == b.2.2.2.1) <;> try simp only [Bool.not_true, Bool.not_false, cond_true, cond_false, obind_some, cond_sb, Bool.false_and, Bool.true_and, Sum.elim_inl, Sum.elim_inr])
      all_goals (cases (sameN a.2.2.2.2.1 b.2.2.2.2.1) <;> try simp only [Bool.not_true, Bool.not_false, cond_true, cond_false, obind_some, cond_sb, Bool.false_and, Bool.true_and, Sum.elim_inl, Sum.elim_inr])
      all_goals (cases (a.2.2.2.2.2.2.2.2 == b.2.2.2.2.2.2.2.2) <;> try simp only [Bool.not_true, Bool.not_false, cond_true, cond_false, obind_some, cond_sb, Bool.false_and, Bool.true_and, Sum.elim_inl, Sum.elim_inr])
      all_goals (cases (decide (a.2.2.2.2.2.1.length = b.2.2.2.2.2.1.length)) <;> try simp only [Bool.not_true, Bool.not_false, cond_true, cond_false, obind_some, cond_sb, Bool.false_and, Bool.true_and, Sum.elim_inl, Sum.elim_inr])
      all_goals (cases (decide (a.2.2.2.2.2.2.2.1.length = b.2.2.2.2.2.2.2.1.length)) <;> try simp only [Bool.not_true, Bool.not_false, cond_true, cond_false, obind_some, cond_sb, Bool.false_and, Bool.true_and, Sum.elim_inl, Sum.elim_inr])
      all_goals rfl
  · have e0 : decide (a.2.2.2.2.2.1.length = b.2.2.2.2.2.1.length) = false := by simpa using h0
    simp only [e0]
    all_goals (cases (sameT a.1 b.1) <;> try simp only [Bool.not_true, Bool.not_false, cond_true, cond_false, obind_some, cond_sb, Bool.false_and, Bool.true_and, Sum.elim_inl, Sum.elim_inr])
    all_goals (cases (sameGs a.2.1.1 b.2.1.1) <;> try simp only [Bool.not_true, Bool.not_false, cond_true, cond_false, obind_some, cond_sb, Bool.false_and, Bool.true_and, Sum.elim_inl, Sum.elim_inr])
    all_goals (cases (sameGs a.2.1.2 b.2.1.2) <;> try simp only [Bool.not_true, Bool.not_false, cond_true, cond_false, obind_some, cond_sb, Bool.false_and, Bool.true_and, Sum.elim_inl, Sum.elim_inr])
    all_goals (cases (sameS a.2.2.1 b.2.2.1) <;> try simp only [Bool.not_true, Bool.not_false, cond_true, cond_false, obind_some, cond_sb, Bool.false_and, Bool.true_and, Sum.elim_inl, Sum.elim_inr])
    all_goals (cases (a.2.2.2.1 == b.2.2.2.1) <;> try simp only [Bool.not_true, Bool.not_false, cond_true, cond_false, obind_some, cond_sb, Bool.false_and, Bool.true_and, Sum.elim_inl, Sum.elim_inr])
    all_goals (cases (sameN a.2.2.2.2.1 b.2.2.2.2.1) <;> try simp only [Bool.not_true, Bool.not_false, cond_true, cond_false, obind_some, cond_sb, Bool.false_and, Bool.true_and, Sum.elim_inl, Sum.elim_inr])
    all_goals (cases (a.2.2.2.2.2.2.2.2 == b.2.2.2.2.2.2.2.2) <;> try simp only [Bool.not_true, Bool.not_false, cond_true, cond_false, obind_some, cond_sb, Bool.false_and, Bool.true_and, Sum.elim_inl, Sum.elim_inr])
    all_goals (cases (decide (a.2.2.2.2.2.2.1.length = b.2.2.2.2.2.2.1.length)) <;> try simp only [Bool.not_true, Bool.not_false, cond_true, cond_false, obind_some, cond_sb, Bool.false_and, Bool.true_and, Sum.elim_inl, Sum.elim_inr])
    all_goals (cases (decide (a.2.2.2.2.2.2.2.1.length = b.2.2.2.2.2.2.2.1.length)) <;> try simp only [Bool.not_true, Bool.not_false, cond_true, cond_false, obind_some, cond_sb, Bool.false_and, Bool.true_and, Sum.elim_inl, Sum.elim_inr])
    all_goals rfl

theorem s_sameNet {a b : den tNetwork} (ha : SmB 68719476736 tNetwork a) (hb : SmB 68719476736 tNetwork b) : s_EqualNetworks a b = some (sameNet a b) := by
  unfold s_EqualNetworks sameNet
  simp only [ne_len]
  try simp only [bne, peta, s_sameT ha.1 hb.1, s_sameGs ha.2.1.1 hb.2.1.1, s_sameGs ha.2.1.2 hb.2.1.2, s_sameS ha.2.2.1 hb.2.2.1, s_sameN ha.2.2.2.2.1.1]
  by_cases h0 : a.2.2.2.2.2.1.length = b.2.2.2.2.2.1.length
  · rw [loop_two (a := a.2.2.2.2.2.1) (b := b.2.2.2.2.2.1) (fun x y => (cond (x.1 == y.1) (cond (x.2.1 == y.2.1) (sameK x.2.2 y.2.2) false) false)) false h0 (Nat.le_trans ha.2.2.2.2.2.1.1 (by decide)) (fun k x y mx my ix iy hd hw => by
      simp only [hd, ix, iy, hw, cond_true, obind_some, peta, bne, s_sameK (ha.2.2.2.2.2.1.2 x mx).2.2 (hb.2.2.2.2.2.1.2 y my).2.2]
      cases (x.1 == y.1) <;> cases (x.2.1 == y.2.1) <;> cases sameK x.2.2 y.2.2 <;> rfl) (by simp)]
    by_cases h1 : a.2.2.2.2.2.2.1.length = b.2.2.2.2.2.2.1.length
    · rw [loop_two (a := a.2.2.2.2.2.2.1) (b := b.2.2.2.2.2.2.1) (fun x y => sameF x y) false h1 (Nat.le_trans ha.2.2.2.2.2.2.1.1 (by decide)) (fun k x y mx my ix iy hd hw => by
        simp only [hd, ix, iy, hw, cond_true, obind_some, peta, bne, s_sameF (ha.2.2.2.2.2.2.1.2 x mx) (hb.2.2.2.2.2.2.1.2 y my)]
        cases sameF x y <;> rfl) (by simp)]
      by_cases h2 : a.2.2.2.2.2.2.2.1.length = b.2.2.2.2.2.2.2.1.length
      · rw [loop_two (a := a.2.2.2.2.2.2.2.1) (b := b.2.2.2.2.2.2.2.1) (fun x y => sameX x y) false h2 (Nat.le_trans ha.2.2.2.2.2.2.2.1.1 (by decide)) (fun k x y mx my ix iy hd hw => by
          simp only [hd, ix, iy, hw, cond_true, obind_some, peta, bne, s_sameX (ha.2.2.2.2.2.2.2.1.2 x mx) (hb.2.2.2.2.2.2.2.1.2 y my)]
          cases sameX x y <;> rfl) (by simp)]
        simp only [obind_some, elim_c]
        all_goals (cases (sameT a.1 b.1) <;> try simp only [Bool.not_true, Bool.not_false, cond_true, cond_false, obind_some, cond_sb, Bool.false_and, Bool.true_and, Sum.elim_inl, Sum.elim_inr])
        all_goals (cases (sameGs a.2.1.1 b.2.1.1) <;> try simp only [Bool.not_true, Bool.not_false, cond_true, cond_false, obind_some, cond_sb, Bool.false_and, Bool.true_and, Sum.elim_inl, Sum.elim_inr])
        all_goals (cases (sameGs a.2.1.2 b.2.1.2) <;> try simp only [Bool.not_true, Bool.not_false, cond_true, cond_false, obind_some, cond_sb, Bool.false_and, Bool.true_and, Sum.elim_inl, Sum.elim_inr])
        all_goals (cases (sameS a.2.2.1 b.2.2.1) <;> try simp only [Bool.not_true, Bool.not_false, cond_true, cond_false, obind_some, cond_sb, Bool.false_and, Bool.true_and, Sum.elim_inl, Sum.elim_inr])
        all_goals (cases (a.2.2.2.1 == b.2.2.2.1) <;> try simp only [Bool.not_true, Bool.not_false, cond_true, cond_false, obind_some, cond_sb, Bool.false_and, Bool.true_and, Sum.elim_inl, Sum.elim_inr])
        all_goals (cases (sameN a.2.2.2.2.1 b.2.2.2.2.1) <;> try simp only [Bool.not_true, Bool.not_false, cond_true, cond_false, obind_some, cond_sb, Bool.false_and, Bool.true_and, Sum.elim_inl, Sum.elim_inr])
        all_goals (cases (a.2.2.2.2.2.2.2.2 == b.2.2.2.2.2.2.2.2) <;> try simp only [Bool.not_true, Bool.not_false, cond_true, cond_false, obind_some, cond_sb, Bool.false_and, Bool.true_and, Sum.elim_inl, Sum.elim_inr])
        all_goals (cases (decide (a.2.2.2.2.2.1.length = b.2.2.2.2.2.1.length)) <;> try simp only [Bool.not_true, Bool.not_false, cond_true, cond_false, obind_some, cond_sb, Bool.false_and, Bool.true_and, Sum.elim_inl, Sum.elim_inr])
        all_goals (cases (decide (a.2.2.2.2.2.2.1.length = b.2.2.2.2.2.2.1.length)) <;> try simp only [Bool.not_true, Bool.not_false, cond_true, cond_false, obind_some, cond_sb, Bool.false_and, Bool.true_and, Sum.elim_inl, Sum.elim_inr])
        all_goals (cases (decide (a.2.2.2.2.2.2.2.1.length = b.2.2.2.2.2.2.2.1.length)) <;> try simp only [Bool.not_true, Bool.not_false, cond_true, cond_false, obind_some, cond_sb, Bool.false_and, Bool.true_and, Sum.elim_inl, Sum.elim_inr])
        all_goals (cases (all2 (fun x y => (cond (x.1 == y.1) (cond (x.2.1 == y.2.1) (sameK x.2.2 y.2.2) false) false)) a.2.2.2.2.2.1 b.2.2.2.2.2.1) <;> try simp only [Bool.not_true, Bool.not_false, cond_true, cond_false, obind_some, cond_sb, Bool.false_and, Bool.true_and, Sum.elim_inl, Sum.elim_inr])
        all_goals (cases (all2 (fun x y => sameF x y) a.2.2.2.2.2.2.1 b.2.2.2.2.2.2.1) <;> try simp only [Bool.not_true, Bool.not_false, cond_true, cond_false, obind_some, cond_sb, Bool.false_and, Bool.true_and, Sum.elim_inl, Sum.elim_inr])
        all_goals (cases (all2 (fun x y => sameX x y) a.2.2.2.2.2.2.2.1 b.2.2.2.2.2.2.2.1) <;> rfl)
      · have e2 : decide (a.2.2.2.2.2.2.2.1.length = b.2.2.2.2.2.2.2.1.length) = false := by simpa using h2
        simp only [e2]
        all_goals (cases (sameT a.1 b.1) <;> try simp only [Bool.not_true, Bool.not_false, cond_true, cond_false, obind_some, cond_sb, Bool.false_and, Bool.true_and, Sum.elim_inl, Sum.elim_inr])
        all_goals (cases (sameGs a.2.1.1 b.2.1.1) <;> try simp only [Bool.not_true, Bool.not_false, cond_true, cond_false, obind_some, cond_sb, Bool.false_and, Bool.true_and, Sum.elim_inl, Sum.elim_inr])
        all_goals (cases (sameGs a.2.1.2 b.2.1.2) <;> try simp only [Bool.not_true, Bool.not_false, cond_true, cond_false, obind_some, cond_sb, Bool.false_and, Bool.true_and, Sum.elim_inl, Sum.elim_inr])
        all_goals (cases (sameS a.2.2.1 b.2.2.1) <;> try simp only [Bool.not_true, Bool.not_false, cond_true, cond_false, obind_some, cond_sb, Bool.false_and, Bool.true_and, Sum.elim_inl, Sum.elim_inr])
        all_goals (cases (a.2.2.2.1 == b.2.2.2.1) <;> try simp only [Bool.not_true, Bool.not_false, cond_true, cond_false, obind_some, cond_sb, Bool.false_and, Bool.true_and, Sum.elim_inl, Sum.elim_inr])
        all_goals (cases (sameN a.2.2.2.2.1 b.2.2.2.2.1) <;> try simp only [Bool.not_true, Bool.not_false, cond_true, cond_false, obind_some, cond_sb, Bool.false_and, Bool.true_and, Sum.elim_inl, Sum.elim_inr])
        all_goals (cases (a.2.2.2.2.2.2.2.2 == b.2.2.2.2.2.2.2.2) <;> try simp only [Bool.not_true, Bool.not_false, cond_true, cond_false, obind_some, cond_sb, Bool.false_and, Bool.true_and, Sum.elim_inl, Sum.elim_inr])
        all_goals (cases (decide (a.2.2.2.2.2.1.length = b.2.2.2.2.2.1.length)) <;> try simp only [Bool.not_true, Bool.not_false, cond_true, cond_false, obind_some, cond_sb, Bool.false_and, Bool.true_and, Sum.elim_inl, Sum.elim_inr])
        all_goals (cases (decide (a.2.2.2.2.2.2.1.length = b.2.2.2.2.2.2.1.length)) <;> try simp only [Bool.not_true, Bool.not_false, cond_true, cond_false, obind_some, cond_sb, Bool.false_and, Bool.true_and, Sum.elim_inl, Sum.elim_inr])
        all_goals rfl
    · have e1 : decide (a.2.2.2.2.2.2.1.length = b.2.2.2.2.2.2.1.length) = false := by simpa using h1
      simp only [e1]
      all_goals (cases (sameT a.1 b.1) <;> try simp only [Bool.not_true, Bool.not_false, cond_true, cond_false, obind_some, cond_sb, Bool.false_and, Bool.true_and, Sum.elim_inl, Sum.elim_inr])
      all_goals (cases (sameGs a.2.1.1 b.2.1.1) <;> try simp only [Bool.not_true, Bool.not_false, cond_true, cond_false, obind_some, cond_sb, Bool.false_and, Bool.true_and, Sum.elim_inl, Sum.elim_inr])
      all_goals (cases (sameGs a.2.1.2 b.2.1.2) <;> try simp only [Bool.not_true, Bool.not_false, cond_true, cond_false, obind_some, cond_sb, Bool.false_and, Bool.true_and, Sum.elim_inl, Sum.elim_inr])
      all_goals (cases (sameS a.2.2.1 b.2.2.1) <;> try simp only [Bool.not_true, Bool.not_false, cond_true, cond_false, obind_some, cond_sb, Bool.false_and, Bool.true_and, Sum.elim_inl, Sum.elim_inr])
      all_goals (cases (a.2.2.2.1 == b.2.2.2.1) <;> try simp only [Bool.not_true, Bool.not_false, cond_true, cond_false, obind_some, cond_sb, Bool.false_and, Bool.true_and, Sum.elim_inl, Sum.elim_inr])
      all_goals (cases (sameN a.2.2.2.2.1 b.2.2.2.2.1) <;> try simp only [Bool.not_true, Bool.not_false, cond_true, cond_false, obind_some, cond_sb, Bool.false_and, Bool.true_and, Sum.elim_inl, Sum.elim_inr])
      all_goals (cases (a.2.2.2.2.2.2.2.2 == b.2.2.2.2.2.2.2.2) <;> try simp only [Bool.not_true, Bool.not_false, cond_true, cond_false, obind_some, cond_sb, Bool.false_and, Bool.true_and, Sum.elim_inl, Sum.elim_inr])
      all_goals (cases (decide (a.2.2.2.2.2.1.length = b.2.2.2.2.2.1.length)) <;> try simp only [Bool.not_true, Bool.not_false, cond_true, cond_false, obind_some, cond_sb, Bool.false_and, Bool.true_and, Sum.elim_inl, Sum.elim_inr])
      all_goals (cases (decide (a.2.2.2.2.2.2.2.1.length = b.2.2.2.2.2.2.2.1.length)) <;> try simp only [Bool.not_true, Bool.not_false, cond_true, cond_false, obind_some, cond_sb, Bool.false_and, Bool.true_and, Sum.elim_inl, Sum.elim_inr])
      all_goals rfl
  · have e0 : decide (a.2.2.2.2.2.1.length = b.2.2.2.2.2.1.length) = false := by simpa using h0
    simp only [e0]
    all_goals (cases (sameT a.1 b.1) <;> try simp only [Bool.not_true, Bool.not_false, cond_true, cond_false, obind_some, cond_sb, Bool.false_and, Bool.true_and, Sum.elim_inl, Sum.elim_inr])
    all_goals (cases (sameGs a.2.1.1 b.2.1.1) <;> try simp only [Bool.not_true, Bool.not_false, cond_true, cond_false, obind_some, cond_sb, Bool.false_and, Bool.true_and, Sum.elim_inl, Sum.elim_inr])
    all_goals (cases (sameGs a.2.1.2 b.2.1.2) <;> try simp only [Bool.not_true, Bool.not_false, cond_true, cond_false, obind_some, cond_sb, Bool.false_and, Bool.true_and, Sum.elim_inl, Sum.elim_inr])
    all_goals (cases (sameS a.2.2.1 b.2.2.1) <;> try simp only [Bool.not_true, Bool.not_false, cond_true, cond_false, obind_some, cond_sb, Bool.false_and, Bool.true_and, Sum.elim_inl, Sum.elim_inr])
    all_goals (cases (a.2.2.2.1 == b.2.2.2.1) <;> try simp only [Bool.not_true, Bool.not_false, cond_true, cond_false, obind_some, cond_sb, Bool.false_and, Bool.true_and, Sum.elim_inl, Sum.elim_inr])
    all_goals (cases (sameN a.2.2.2.2.1 b.2.2.2.2.1) <;> try simp only [Bool.not_true, Bool.not_false, cond_true, cond_false, obind_some, cond_sb, Bool.false_and, Bool.true_and, Sum.elim_inl, Sum.elim_inr])
    all_goals (cases (a.2.2.2.2.2.2.2.2 == b.2.2.2.2.2.2.2.2) <;> try simp only [Bool.not_true, Bool.not_false, cond_true, cond_false, obind_some, cond_sb, Bool.false_and, Bool.true_and, Sum.elim_inl, Sum.elim_inr])
    all_goals (cases (decide (a.2.2.2.2.2.2.1.length = b.2.2.2.2.2.2.1.length)) <;> try simp only [Bool.not_true, Bool.not_false, cond_true, cond_false, obind_some, cond_sb, Bool.false_and, Bool.true_and, Sum.elim_inl, Sum.elim_inr])
    all_goals (cases (decide (a.2.2.2.2.2.2.2.1.length = b.2.2.2.2.2.2.2.1.length)) <;> try simp only [Bool.not_true, Bool.not_false, cond_true, cond_false, obind_some, cond_sb, Bool.false_and, Bool.true_and, Sum.elim_inl, Sum.elim_inr])
    all_goals rfl

end Go.Proofs.YtmnjhbhppkploaaGreat
