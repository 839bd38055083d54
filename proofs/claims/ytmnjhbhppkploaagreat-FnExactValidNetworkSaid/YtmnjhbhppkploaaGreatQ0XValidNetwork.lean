/-
  Facts and plain laws: what the functions compute, in plain words. Conditions: as each says.
-/
import Derived.Test.YtmnjhbhppkploaaGreatT0XValidNetwork
set_option linter.unusedVariables false
set_option linter.unusedSimpArgs false
set_option maxRecDepth 100000
namespace Go.Proofs.YtmnjhbhppkploaaGreat
open Go.Ab Go.V
theorem sz_ASS {l : den (.sl tAS)} {left : Int} (w : Wf (.sl tAS) l) (h0 : 0 ≤ left) (h1 : left ≤ 1048576) : SzT (l_szASS l left) left (tot (.sl tAS) l) := szF_ok (t := tAS) rfl w.1 h0 h1

theorem sz_LinkS {l : den (.sl tLink)} {left : Int} (w : Wf (.sl tLink) l) (h0 : 0 ≤ left) (h1 : left ≤ 1048576) : SzT (l_szLinkS l left) left (tot (.sl tLink) l) := szF_ok (t := tLink) rfl w.1 h0 h1

theorem sz_Topology {x : den tTopology} {left : Int} (w : Wf tTopology x) (h0 : 0 ≤ left) (h1 : left ≤ 1048576) : SzT (l_szTopology x left) left (tot tTopology x) := SzT.eq (sz_field (sz_ASS w.1 h0 h1) h1 fun r0 a0 b0 => sz_field (sz_LinkS w.2 a0 b0) b0 fun r1 a1 b1 => sz_done a1) (by simp [tot, tot_flat] <;> omega)

theorem sz_HopS {l : den (.sl tHop)} {left : Int} (w : Wf (.sl tHop) l) (h0 : 0 ≤ left) (h1 : left ≤ 1048576) : SzT (l_szHopS l left) left (tot (.sl tHop) l) := szF_ok (t := tHop) rfl w.1 h0 h1

theorem sz_Segment {x : den tSegment} {left : Int} (w : Wf tSegment x) (h0 : 0 ≤ left) (h1 : left ≤ 1048576) : SzT (l_szSegment x left) left (tot tSegment x) := SzT.eq (sz_field (sz_HopS w.2.2 h0 h1) h1 fun r0 a0 b0 => sz_done a0) (by simp [tot, tot_flat])

theorem sz_SegmentS {l : den (.sl tSegment)} {left : Int} (w : Wf (.sl tSegment) l) (h0 : 0 ≤ left) (h1 : left ≤ 1048576) : SzT (l_szSegmentS l left) left (tot (.sl tSegment) l) := szL_ok (t := tSegment) (szE := l_szSegment) w.1 h0 h1 fun x hx k k0 k1 => sz_Segment (w.2 x hx) k0 k1

theorem sz_SegmentDatabase {x : den tSegmentDatabase} {left : Int} (w : Wf tSegmentDatabase x) (h0 : 0 ≤ left) (h1 : left ≤ 1048576) : SzT (l_szSegmentDatabase x left) left (tot tSegmentDatabase x) := SzT.eq (sz_field (sz_SegmentS w.1 h0 h1) h1 fun r0 a0 b0 => sz_field (sz_SegmentS w.2 a0 b0) b0 fun r1 a1 b1 => sz_done a1) (by simp [tot, tot_flat] <;> omega)

theorem sz_ReservationS {l : den (.sl tReservation)} {left : Int} (w : Wf (.sl tReservation) l) (h0 : 0 ≤ left) (h1 : left ≤ 1048576) : SzT (l_szReservationS l left) left (tot (.sl tReservation) l) := szF_ok (t := tReservation) rfl w.1 h0 h1

theorem sz_UsageS {l : den (.sl tUsage)} {left : Int} (w : Wf (.sl tUsage) l) (h0 : 0 ≤ left) (h1 : left ≤ 1048576) : SzT (l_szUsageS l left) left (tot (.sl tUsage) l) := szF_ok (t := tUsage) rfl w.1 h0 h1

theorem sz_Scheduler {x : den tScheduler} {left : Int} (w : Wf tScheduler x) (h0 : 0 ≤ left) (h1 : left ≤ 1048576) : SzT (l_szScheduler x left) left (tot tScheduler x) := SzT.eq (sz_field (sz_ReservationS w.2.1 h0 h1) h1 fun r0 a0 b0 => sz_field (sz_UsageS w.2.2 a0 b0) b0 fun r1 a1 b1 => sz_done a1) (by simp [tot, tot_flat] <;> omega)

theorem sz_IntS {l : den (.sl ti)} {left : Int} (w : Wf (.sl ti) l) (h0 : 0 ≤ left) (h1 : left ≤ 1048576) : SzT (l_szIntS l left) left (tot (.sl ti) l) := szF_ok (t := ti) rfl w.1 h0 h1

theorem sz_PathPart {x : den tPathPart} {left : Int} (w : Wf tPathPart x) (h0 : 0 ≤ left) (h1 : left ≤ 1048576) : SzT (l_szPathPart x left) left (tot tPathPart x) := SzT.eq (sz_field (sz_HopS w.2.2.2 h0 h1) h1 fun r0 a0 b0 => sz_done a0) (by simp [tot, tot_flat])

theorem sz_PathPartS {l : den (.sl tPathPart)} {left : Int} (w : Wf (.sl tPathPart) l) (h0 : 0 ≤ left) (h1 : left ≤ 1048576) : SzT (l_szPathPartS l left) left (tot (.sl tPathPart) l) := szL_ok (t := tPathPart) (szE := l_szPathPart) w.1 h0 h1 fun x hx k k0 k1 => sz_PathPart (w.2 x hx) k0 k1

theorem sz_Path {x : den tPath} {left : Int} (w : Wf tPath x) (h0 : 0 ≤ left) (h1 : left ≤ 1048576) : SzT (l_szPath x left) left (tot tPath x) := SzT.eq (sz_field (sz_PathPartS w h0 h1) h1 fun r0 a0 b0 => sz_done a0) (by simp [tot, tot_flat])

theorem sz_ByteS {l : den (.sl tb)} {left : Int} (w : Wf (.sl tb) l) (h0 : 0 ≤ left) (h1 : left ≤ 1048576) : SzT (l_szByteS l left) left (tot (.sl tb) l) := szF_ok (t := tb) rfl w.1 h0 h1

theorem sz_Packet {x : den tPacket} {left : Int} (w : Wf tPacket x) (h0 : 0 ≤ left) (h1 : left ≤ 1048576) : SzT (l_szPacket x left) left (tot tPacket x) := SzT.eq (sz_field (sz_Path w.2.2.2.1 h0 h1) h1 fun r0 a0 b0 => sz_field (sz_ByteS w.2.2.2.2.2.2.2.2.2 a0 b0) b0 fun r1 a1 b1 => sz_done a1) (by simp [tot, tot_flat] <;> omega)

theorem sz_PacketInFlight {x : den tPacketInFlight} {left : Int} (w : Wf tPacketInFlight x) (h0 : 0 ≤ left) (h1 : left ≤ 1048576) : SzT (l_szPacketInFlight x left) left (tot tPacketInFlight x) := SzT.eq (sz_field (sz_Packet w.2.2 h0 h1) h1 fun r0 a0 b0 => sz_done a0) (by simp [tot, tot_flat])

theorem sz_PacketInFlightS {l : den (.sl tPacketInFlight)} {left : Int} (w : Wf (.sl tPacketInFlight) l) (h0 : 0 ≤ left) (h1 : left ≤ 1048576) : SzT (l_szPacketInFlightS l left) left (tot (.sl tPacketInFlight) l) := szL_ok (t := tPacketInFlight) (szE := l_szPacketInFlight) w.1 h0 h1 fun x hx k k0 k1 => sz_PacketInFlight (w.2 x hx) k0 k1

theorem sz_Message {x : den tMessage} {left : Int} (w : Wf tMessage x) (h0 : 0 ≤ left) (h1 : left ≤ 1048576) : SzT (l_szMessage x left) left (tot tMessage x) := SzT.eq (sz_field (sz_ByteS w h0 h1) h1 fun r0 a0 b0 => sz_done a0) (by simp [tot, tot_flat])

theorem sz_MessageS {l : den (.sl tMessage)} {left : Int} (w : Wf (.sl tMessage) l) (h0 : 0 ≤ left) (h1 : left ≤ 1048576) : SzT (l_szMessageS l left) left (tot (.sl tMessage) l) := szL_ok (t := tMessage) (szE := l_szMessage) w.1 h0 h1 fun x hx k k0 k1 => sz_Message (w.2 x hx) k0 k1

theorem sz_PathS {l : den (.sl tPath)} {left : Int} (w : Wf (.sl tPath) l) (h0 : 0 ≤ left) (h1 : left ≤ 1048576) : SzT (l_szPathS l left) left (tot (.sl tPath) l) := szL_ok (t := tPath) (szE := l_szPath) w.1 h0 h1 fun x hx k k0 k1 => sz_Path (w.2 x hx) k0 k1

theorem sz_RevocationS {l : den (.sl tRevocation)} {left : Int} (w : Wf (.sl tRevocation) l) (h0 : 0 ≤ left) (h1 : left ≤ 1048576) : SzT (l_szRevocationS l left) left (tot (.sl tRevocation) l) := szF_ok (t := tRevocation) rfl w.1 h0 h1

theorem sz_Flow {x : den tFlow} {left : Int} (w : Wf tFlow x) (h0 : 0 ≤ left) (h1 : left ≤ 1048576) : SzT (l_szFlow x left) left (tot tFlow x) := SzT.eq (sz_field (sz_MessageS w.2.2.2.2.1 h0 h1) h1 fun r0 a0 b0 => sz_field (sz_PathS w.2.2.2.2.2.1 a0 b0) b0 fun r1 a1 b1 => sz_field (sz_RevocationS w.2.2.2.2.2.2.2.2 a1 b1) b1 fun r2 a2 b2 => sz_done a2) (by simp [tot, tot_flat] <;> omega)

theorem sz_FlowS {l : den (.sl tFlow)} {left : Int} (w : Wf (.sl tFlow) l) (h0 : 0 ≤ left) (h1 : left ≤ 1048576) : SzT (l_szFlowS l left) left (tot (.sl tFlow) l) := szL_ok (t := tFlow) (szE := l_szFlow) w.1 h0 h1 fun x hx k k0 k1 => sz_Flow (w.2 x hx) k0 k1

theorem sz_Inbox {x : den tInbox} {left : Int} (w : Wf tInbox x) (h0 : 0 ≤ left) (h1 : left ≤ 1048576) : SzT (l_szInbox x left) left (tot tInbox x) := SzT.eq (sz_field (sz_MessageS w.2.2.2 h0 h1) h1 fun r0 a0 b0 => sz_done a0) (by simp [tot, tot_flat])

theorem sz_InboxS {l : den (.sl tInbox)} {left : Int} (w : Wf (.sl tInbox) l) (h0 : 0 ≤ left) (h1 : left ≤ 1048576) : SzT (l_szInboxS l left) left (tot (.sl tInbox) l) := szL_ok (t := tInbox) (szE := l_szInbox) w.1 h0 h1 fun x hx k k0 k1 => sz_Inbox (w.2 x hx) k0 k1

theorem sz_Network {x : den tNetwork} {left : Int} (w : Wf tNetwork x) (h0 : 0 ≤ left) (h1 : left ≤ 1048576) : SzT (l_szNetwork x left) left (tot tNetwork x) := SzT.eq (sz_field (sz_Topology w.1 h0 h1) h1 fun r0 a0 b0 => sz_field (sz_SegmentDatabase w.2.1 a0 b0) b0 fun r1 a1 b1 => sz_field (sz_Scheduler w.2.2.1 a1 b1) b1 fun r2 a2 b2 => sz_field (sz_IntS w.2.2.2.2.1 a2 b2) b2 fun r3 a3 b3 => sz_field (sz_PacketInFlightS w.2.2.2.2.2.1 a3 b3) b3 fun r4 a4 b4 => sz_field (sz_FlowS w.2.2.2.2.2.2.1 a4 b4) b4 fun r5 a5 b5 => sz_field (sz_InboxS w.2.2.2.2.2.2.2.1 a5 b5) b5 fun r6 a6 b6 => sz_done a6) (by simp [tot, tot_flat] <;> omega)

theorem to_AS {x : den tAS} (h : Sm tAS x) : l_toAS x = some x := by
  unfold l_toAS
  rfl

theorem to_ASS {l : den (.sl tAS)} (h : Sm (.sl tAS) l) : l_toASS l = some l := by
  have : l_toASS l = some (l.map id) := toL_eq (toE := l_toAS) (g := id) h.1 (by decide) fun x hx => to_AS (h.2 x hx)
  simpa using this

theorem to_Link {x : den tLink} (h : Sm tLink x) : l_toLink x = some x := by
  unfold l_toLink
  rfl

theorem to_LinkS {l : den (.sl tLink)} (h : Sm (.sl tLink) l) : l_toLinkS l = some l := by
  have : l_toLinkS l = some (l.map id) := toL_eq (toE := l_toLink) (g := id) h.1 (by decide) fun x hx => to_Link (h.2 x hx)
  simpa using this

theorem to_Topology {x : den tTopology} (h : Sm tTopology x) : l_toTopology x = some x := by
  unfold l_toTopology
  simp [to_ASS h.1, to_LinkS h.2]

theorem to_Hop {x : den tHop} (h : Sm tHop x) : l_toHop x = some x := by
  unfold l_toHop
  rfl

theorem to_HopS {l : den (.sl tHop)} (h : Sm (.sl tHop) l) : l_toHopS l = some l := by
  have : l_toHopS l = some (l.map id) := toL_eq (toE := l_toHop) (g := id) h.1 (by decide) fun x hx => to_Hop (h.2 x hx)
  simpa using this

theorem to_Segment {x : den tSegment} (h : Sm tSegment x) : l_toSegment x = some x := by
  unfold l_toSegment
  simp [to_HopS h.2.2]

theorem to_SegmentS {l : den (.sl tSegment)} (h : Sm (.sl tSegment) l) : l_toSegmentS l = some l := by
  have : l_toSegmentS l = some (l.map id) := toL_eq (toE := l_toSegment) (g := id) h.1 (by decide) fun x hx => to_Segment (h.2 x hx)
  simpa using this

theorem to_SegmentDatabase {x : den tSegmentDatabase} (h : Sm tSegmentDatabase x) : l_toSegmentDatabase x = some x := by
  unfold l_toSegmentDatabase
  simp [to_SegmentS h.1, to_SegmentS h.2]

theorem to_Reservation {x : den tReservation} (h : Sm tReservation x) : l_toReservation x = some x := by
  unfold l_toReservation
  rfl

theorem to_ReservationS {l : den (.sl tReservation)} (h : Sm (.sl tReservation) l) : l_toReservationS l = some l := by
  have : l_toReservationS l = some (l.map id) := toL_eq (toE := l_toReservation) (g := id) h.1 (by decide) fun x hx => to_Reservation (h.2 x hx)
  simpa using this

theorem to_Usage {x : den tUsage} (h : Sm tUsage x) : l_toUsage x = some x := by
  unfold l_toUsage
  rfl

theorem to_UsageS {l : den (.sl tUsage)} (h : Sm (.sl tUsage) l) : l_toUsageS l = some l := by
  have : l_toUsageS l = some (l.map id) := toL_eq (toE := l_toUsage) (g := id) h.1 (by decide) fun x hx => to_Usage (h.2 x hx)
  simpa using this

theorem to_Scheduler {x : den tScheduler} (h : Sm tScheduler x) : l_toScheduler x = some x := by
  unfold l_toScheduler
  simp [to_ReservationS h.2.1, to_UsageS h.2.2]

theorem to_IntS {l : den (.sl ti)} (h : Sm (.sl ti) l) : l_toIntS l = some l := by
  have : l_toIntS l = some (l.map id) := toL_eq (toE := some) (g := id) h.1 (by decide) fun x hx => rfl
  simpa using this

theorem to_PathPart {x : den tPathPart} (h : Sm tPathPart x) : l_toPathPart x = some x := by
  unfold l_toPathPart
  simp [to_HopS h.2.2.2]

theorem to_PathPartS {l : den (.sl tPathPart)} (h : Sm (.sl tPathPart) l) : l_toPathPartS l = some l := by
  have : l_toPathPartS l = some (l.map id) := toL_eq (toE := l_toPathPart) (g := id) h.1 (by decide) fun x hx => to_PathPart (h.2 x hx)
  simpa using this

theorem to_Path {x : den tPath} (h : Sm tPath x) : l_toPath x = some x := by
  unfold l_toPath
  simp [to_PathPartS h]

theorem to_ByteS {l : den (.sl tb)} (h : Sm (.sl tb) l) : l_toByteS l = some l := by
  have : l_toByteS l = some (l.map id) := toL_eq (toE := some) (g := id) h.1 (by decide) fun x hx => rfl
  simpa using this

theorem to_Packet {x : den tPacket} (h : Sm tPacket x) : l_toPacket x = some (x.1, x.2.1, x.2.2.1, x.2.2.2.2.1, x.2.2.2.2.2.1, x.2.2.2.2.2.2.1, x.2.2.2.2.2.2.2.1, x.2.2.2.2.2.2.2.2.1, x.2.2.2.1, x.2.2.2.2.2.2.2.2.2) := by
  unfold l_toPacket
  simp only [to_Path h.2.2.2.1, to_ByteS h.2.2.2.2.2.2.2.2.2, obind_some, peta]

theorem to_PacketInFlight {x : den tPacketInFlight} (h : Sm tPacketInFlight x) : l_toPacketInFlight x = some (x.1, x.2.1, x.2.2.1, x.2.2.2.1, x.2.2.2.2.1, x.2.2.2.2.2.2.1, x.2.2.2.2.2.2.2.1, x.2.2.2.2.2.2.2.2.1, x.2.2.2.2.2.2.2.2.2.1, x.2.2.2.2.2.2.2.2.2.2.1, x.2.2.2.2.2.1, x.2.2.2.2.2.2.2.2.2.2.2) := by
  unfold l_toPacketInFlight
  simp only [to_Packet h.2.2, obind_some, peta]

theorem to_PacketInFlightS {l : den (.sl tPacketInFlight)} (h : Sm (.sl tPacketInFlight) l) : l_toPacketInFlightS l = some l := by
  unfold l_toPacketInFlightS
  exact toL_run' h.1 (by decide) (fun k L x hi hm h1 h2 h3 h4 hw => by simp only [h1, h2, h3, h4, hi, to_PacketInFlight (h.2 x hm), obind_some, cond_true, Int.toNat_natCast, hw, peta]) (fun L => by simp)

theorem to_Message {x : den tMessage} (h : Sm tMessage x) : l_toMessage x = some x := by
  unfold l_toMessage
  simp [to_ByteS h]

theorem to_MessageS {l : den (.sl tMessage)} (h : Sm (.sl tMessage) l) : l_toMessageS l = some l := by
  have : l_toMessageS l = some (l.map id) := toL_eq (toE := l_toMessage) (g := id) h.1 (by decide) fun x hx => to_Message (h.2 x hx)
  simpa using this

theorem to_PathS {l : den (.sl tPath)} (h : Sm (.sl tPath) l) : l_toPathS l = some l := by
  have : l_toPathS l = some (l.map id) := toL_eq (toE := l_toPath) (g := id) h.1 (by decide) fun x hx => to_Path (h.2 x hx)
  simpa using this

theorem to_Revocation {x : den tRevocation} (h : Sm tRevocation x) : l_toRevocation x = some x := by
  unfold l_toRevocation
  rfl

theorem to_RevocationS {l : den (.sl tRevocation)} (h : Sm (.sl tRevocation) l) : l_toRevocationS l = some l := by
  have : l_toRevocationS l = some (l.map id) := toL_eq (toE := l_toRevocation) (g := id) h.1 (by decide) fun x hx => to_Revocation (h.2 x hx)
  simpa using this

theorem to_Flow {x : den tFlow} (h : Sm tFlow x) : l_toFlow x = some (x.1, x.2.1, x.2.2.1, x.2.2.2.1, x.2.2.2.2.2.2.1, x.2.2.2.2.2.2.2.1, x.2.2.2.2.1, x.2.2.2.2.2.1, x.2.2.2.2.2.2.2.2) := by
  unfold l_toFlow
  simp only [to_MessageS h.2.2.2.2.1, to_PathS h.2.2.2.2.2.1, to_RevocationS h.2.2.2.2.2.2.2.2, obind_some, peta]

theorem to_FlowS {l : den (.sl tFlow)} (h : Sm (.sl tFlow) l) : l_toFlowS l = some l := by
  unfold l_toFlowS
  exact toL_run h.1 (by decide) (fun k L x hi hm h1 h2 h3 h4 hw => by simp only [h1, h2, h3, h4, hi, to_Flow (h.2 x hm), obind_some, cond_true, Int.toNat_natCast, hw, peta]) (fun L => by simp)

theorem to_Inbox {x : den tInbox} (h : Sm tInbox x) : l_toInbox x = some x := by
  unfold l_toInbox
  simp [to_MessageS h.2.2.2]

theorem to_InboxS {l : den (.sl tInbox)} (h : Sm (.sl tInbox) l) : l_toInboxS l = some l := by
  have : l_toInboxS l = some (l.map id) := toL_eq (toE := l_toInbox) (g := id) h.1 (by decide) fun x hx => to_Inbox (h.2 x hx)
  simpa using this

theorem to_Network {x : den tNetwork} (h : Sm tNetwork x) : l_toNetwork x = some (x.2.2.1.1, x.2.2.2.1, x.2.2.2.2.2.2.2.2, x.1.1, x.1.2, x.2.1.1, x.2.1.2, x.2.2.1.2.1, x.2.2.1.2.2, x.2.2.2.2.1, x.2.2.2.2.2.1, x.2.2.2.2.2.2.1, x.2.2.2.2.2.2.2.1) := by
  unfold l_toNetwork
  simp only [to_Topology h.1, to_SegmentDatabase h.2.1, to_Scheduler h.2.2.1, to_IntS h.2.2.2.2.1, to_PacketInFlightS h.2.2.2.2.2.1, to_FlowS h.2.2.2.2.2.2.1, to_InboxS h.2.2.2.2.2.2.2.1, obind_some, peta]

theorem eq_AS {x : den tAS} (h : SmB 4611686018427387904 tAS x) : l_eqAS x x = some true := by
  unfold l_eqAS
  simp

theorem eq_ASS {l : den (.sl tAS)} (h : SmB 4611686018427387904 (.sl tAS) l) : l_eqASS l l = some true := eqL_refl (eqE := l_eqAS) h.1 fun x hx => eq_AS (h.2 x hx)

theorem eq_Link {x : den tLink} (h : SmB 4611686018427387904 tLink x) : l_eqLink x x = some true := by
  unfold l_eqLink
  simp

theorem eq_LinkS {l : den (.sl tLink)} (h : SmB 4611686018427387904 (.sl tLink) l) : l_eqLinkS l l = some true := eqL_refl (eqE := l_eqLink) h.1 fun x hx => eq_Link (h.2 x hx)

theorem eq_Topology {x : den tTopology} (h : SmB 4611686018427387904 tTopology x) : l_eqTopology x x = some true := by
  unfold l_eqTopology
  simp [eq_ASS h.1, eq_LinkS h.2]

theorem eq_Hop {x : den tHop} (h : SmB 4611686018427387904 tHop x) : l_eqHop x x = some true := by
  unfold l_eqHop
  simp

theorem eq_HopS {l : den (.sl tHop)} (h : SmB 4611686018427387904 (.sl tHop) l) : l_eqHopS l l = some true := eqL_refl (eqE := l_eqHop) h.1 fun x hx => eq_Hop (h.2 x hx)

theorem eq_Segment {x : den tSegment} (h : SmB 4611686018427387904 tSegment x) : l_eqSegment x x = some true := by
  unfold l_eqSegment
  simp [eq_HopS h.2.2]

theorem eq_SegmentS {l : den (.sl tSegment)} (h : SmB 4611686018427387904 (.sl tSegment) l) : l_eqSegmentS l l = some true := eqL_refl (eqE := l_eqSegment) h.1 fun x hx => eq_Segment (h.2 x hx)

theorem eq_SegmentDatabase {x : den tSegmentDatabase} (h : SmB 4611686018427387904 tSegmentDatabase x) : l_eqSegmentDatabase x x = some true := by
  unfold l_eqSegmentDatabase
  simp [eq_SegmentS h.1, eq_SegmentS h.2]

theorem eq_Reservation {x : den tReservation} (h : SmB 4611686018427387904 tReservation x) : l_eqReservation x x = some true := by
  unfold l_eqReservation
  simp

theorem eq_ReservationS {l : den (.sl tReservation)} (h : SmB 4611686018427387904 (.sl tReservation) l) : l_eqReservationS l l = some true := eqL_refl (eqE := l_eqReservation) h.1 fun x hx => eq_Reservation (h.2 x hx)

theorem eq_Usage {x : den tUsage} (h : SmB 4611686018427387904 tUsage x) : l_eqUsage x x = some true := by
  unfold l_eqUsage
  simp

theorem eq_UsageS {l : den (.sl tUsage)} (h : SmB 4611686018427387904 (.sl tUsage) l) : l_eqUsageS l l = some true := eqL_refl (eqE := l_eqUsage) h.1 fun x hx => eq_Usage (h.2 x hx)

theorem eq_Scheduler {x : den tScheduler} (h : SmB 4611686018427387904 tScheduler x) : l_eqScheduler x x = some true := by
  unfold l_eqScheduler
  simp [eq_ReservationS h.2.1, eq_UsageS h.2.2]

theorem eq_IntS {l : den (.sl ti)} (h : SmB 4611686018427387904 (.sl ti) l) : l_eqIntS l l = some true := eqL_refl (eqE := (fun x y => some (x == y))) h.1 fun x hx => by simp

theorem eq_PathPart {x : den tPathPart} (h : SmB 4611686018427387904 tPathPart x) : l_eqPathPart x x = some true := by
  unfold l_eqPathPart
  simp [eq_HopS h.2.2.2]

theorem eq_PathPartS {l : den (.sl tPathPart)} (h : SmB 4611686018427387904 (.sl tPathPart) l) : l_eqPathPartS l l = some true := eqL_refl (eqE := l_eqPathPart) h.1 fun x hx => eq_PathPart (h.2 x hx)

theorem eq_Path {x : den tPath} (h : SmB 4611686018427387904 tPath x) : l_eqPath x x = some true := by
  unfold l_eqPath
  simp [eq_PathPartS h]

theorem eq_ByteS {l : den (.sl tb)} (h : SmB 4611686018427387904 (.sl tb) l) : l_eqByteS l l = some true := eqL_refl (eqE := (fun x y => some (x == y))) h.1 fun x hx => by simp

theorem eq_Packet {x : den tPacket} (h : SmB 4611686018427387904 tPacket x) : l_eqPacket x x = some true := by
  unfold l_eqPacket
  simp [eq_Path h.2.2.2.1, eq_ByteS h.2.2.2.2.2.2.2.2.2]

theorem eq_PacketInFlight {x : den tPacketInFlight} (h : SmB 4611686018427387904 tPacketInFlight x) : l_eqPacketInFlight x x = some true := by
  unfold l_eqPacketInFlight
  simp [eq_Packet h.2.2]

theorem eq_PacketInFlightS {l : den (.sl tPacketInFlight)} (h : SmB 4611686018427387904 (.sl tPacketInFlight) l) : l_eqPacketInFlightS l l = some true := eqL_refl (eqE := l_eqPacketInFlight) h.1 fun x hx => eq_PacketInFlight (h.2 x hx)

theorem eq_Message {x : den tMessage} (h : SmB 4611686018427387904 tMessage x) : l_eqMessage x x = some true := by
  unfold l_eqMessage
  simp [eq_ByteS h]

theorem eq_MessageS {l : den (.sl tMessage)} (h : SmB 4611686018427387904 (.sl tMessage) l) : l_eqMessageS l l = some true := eqL_refl (eqE := l_eqMessage) h.1 fun x hx => eq_Message (h.2 x hx)

theorem eq_PathS {l : den (.sl tPath)} (h : SmB 4611686018427387904 (.sl tPath) l) : l_eqPathS l l = some true := eqL_refl (eqE := l_eqPath) h.1 fun x hx => eq_Path (h.2 x hx)

theorem eq_Revocation {x : den tRevocation} (h : SmB 4611686018427387904 tRevocation x) : l_eqRevocation x x = some true := by
  unfold l_eqRevocation
  simp

theorem eq_RevocationS {l : den (.sl tRevocation)} (h : SmB 4611686018427387904 (.sl tRevocation) l) : l_eqRevocationS l l = some true := eqL_refl (eqE := l_eqRevocation) h.1 fun x hx => eq_Revocation (h.2 x hx)

theorem eq_Flow {x : den tFlow} (h : SmB 4611686018427387904 tFlow x) : l_eqFlow x x = some true := by
  unfold l_eqFlow
  simp [eq_MessageS h.2.2.2.2.1, eq_PathS h.2.2.2.2.2.1, eq_RevocationS h.2.2.2.2.2.2.2.2]

theorem eq_FlowS {l : den (.sl tFlow)} (h : SmB 4611686018427387904 (.sl tFlow) l) : l_eqFlowS l l = some true := eqL_refl (eqE := l_eqFlow) h.1 fun x hx => eq_Flow (h.2 x hx)

theorem eq_Inbox {x : den tInbox} (h : SmB 4611686018427387904 tInbox x) : l_eqInbox x x = some true := by
  unfold l_eqInbox
  simp [eq_MessageS h.2.2.2]

theorem eq_InboxS {l : den (.sl tInbox)} (h : SmB 4611686018427387904 (.sl tInbox) l) : l_eqInboxS l l = some true := eqL_refl (eqE := l_eqInbox) h.1 fun x hx => eq_Inbox (h.2 x hx)

theorem eq_Network {x : den tNetwork} (h : SmB 4611686018427387904 tNetwork x) : l_eqNetwork x x = some true := by
  unfold l_eqNetwork
  simp [eq_Topology h.1, eq_SegmentDatabase h.2.1, eq_Scheduler h.2.2.1, eq_IntS h.2.2.2.2.1, eq_PacketInFlightS h.2.2.2.2.2.1, eq_FlowS h.2.2.2.2.2.2.1, eq_InboxS h.2.2.2.2.2.2.2.1]

def inR (n a b : Int) : Bool := decide (a ≤ n) && decide (n ≤ b)

theorem i_in (n a b : Int) : i_InRange n a b = some (inR n a b) := by
  unfold i_InRange inR
  by_cases h : a ≤ n <;> simp [h]

theorem s_in (n a b : Int) : s_l1In n a b = some (inR n a b) := by
  unfold s_l1In inR
  by_cases h : a ≤ n <;> simp [h]

theorem inR_iff {n a b : Int} : inR n a b = true ↔ a ≤ n ∧ n ≤ b := by simp [inR]

theorem i_max (a b : Int) : i_Max a b = some (if b > a then b else a) := rfl

theorem s_max (a b : Int) : s_Max a b = some (if b > a then b else a) := by
  unfold s_Max
  by_cases h : b > a <;> simp [h]

def validV (x : den tRevocation) : Bool := inR x.1 0 7 && (inR x.2.1 1 6 && inR x.2.2 0 1000000)

theorem i_validV (x : den tRevocation) : i_ValidRevocation x = some (validV x) := by
  unfold i_ValidRevocation validV
  simp only [i_in, obind_some]
  cases inR x.1 0 7 <;> cases inR x.2.1 1 6 <;> cases inR x.2.2 0 1000000 <;> rfl

theorem s_validV (x : den tRevocation) : s_ValidRevocation x = some (validV x) := by
  unfold s_ValidRevocation validV
  simp only [s_in, obind_some]
  cases inR x.1 0 7 <;> cases inR x.2.1 1 6 <;> cases inR x.2.2 0 1000000 <;> rfl

/-- A loop that answers false at the first that fails. -/
theorem scanB {α S : Type} (p : Nat → α → Bool) : ∀ (l : List α) (k : Nat) (ρ : S), scanI (fun k x => if p k x then none else some ρ) k l = if (l.zipIdx k).all (fun x => p x.2 x.1) then none else some ρ
  | [], _, _ => rfl
  | x :: xs, k, ρ => by
    simp only [scanI, List.zipIdx_cons, List.all_cons]
    rcases Bool.eq_false_or_eq_true (p k x) with h | h
    · simp only [h, if_true, Bool.true_and]; exact scanB p xs (k + 1) ρ
    · simp [h]

theorem zip_all {α : Type} (p : α → Bool) : ∀ (l : List α) (k : Nat), (l.zipIdx k).all (fun x => p x.1) = l.all p
  | [], _ => rfl
  | x :: xs, k => by simp [List.zipIdx_cons, zip_all p xs]

theorem scanA {α S : Type} (p : α → Bool) (l : List α) (ρ : S) : scanI (fun _ x => if p x then none else some ρ) 0 l = if l.all p then none else some ρ := by
  rw [scanB (fun _ x => p x), zip_all p]

def validF (f : den tFlow) : Bool :=
  inR f.1 0 7 && (inR f.2.1 0 7 && (!(f.1 == f.2.1) && (inR f.2.2.1 0 100000 && (decide (f.2.2.2.2.1.length ≤ 20) && (inR f.2.2.2.1 0 (f.2.2.2.2.1.length : Int) && (decide (f.2.2.2.2.2.1.length ≤ 24) &&
    (f.2.2.2.2.1.all (fun m => decide (m.length ≤ 40)) && (f.2.2.2.2.2.2.2.2.all validV && ((f.2.2.2.2.2.2.1 == 0 || inR f.2.2.2.2.2.2.1 0 ((f.2.2.2.2.2.1.length : Int) - 1)) && (inR f.2.2.2.2.2.2.2.1 0 4 && decide (f.2.2.2.2.2.2.2.2.length ≤ 16)))))))))))

theorem i_validF {f : den tFlow} (h : SmB 68719476736 tFlow f) : i_ValidFlow f = some (validF f) := by
  have h1 := h.2.2.2.2.1.1
  have h2 := h.2.2.2.2.2.1.1
  have h3 := h.2.2.2.2.2.2.2.2.1
  unfold i_ValidFlow validF
  rw [loop_scan (l := f.2.2.2.2.1) (fun _ m => if decide (m.length ≤ 40) then none else some false) (by omega) (fun k m hi hd hw hx hk => by
    simp only [hd, hi, hw, cond_true, obind_some]
    by_cases hm : m.length ≤ 40
    · simp [hm, show ¬ ((m.length : Int) > 40) by omega]
    · simp [hm, show (m.length : Int) > 40 by omega]) (by simp)]
  rw [loop_scan (l := f.2.2.2.2.2.2.2.2) (fun _ x => if validV x then none else some false) (by omega) (fun k x hi hd hw hx hk => by
    simp only [hd, hi, hw, cond_true, obind_some, peta, i_validV]
    cases validV x <;> rfl) (by simp)]
  rw [scanA (fun m : List Int => decide (m.length ≤ 40)), scanA validV]
  have e1 : decide ((f.2.2.2.2.1.length : Int) > 20) = !decide (f.2.2.2.2.1.length ≤ 20) := by rw [Bool.eq_iff_iff]; simp; omega
  have e2 : decide ((f.2.2.2.2.2.1.length : Int) > 24) = !decide (f.2.2.2.2.2.1.length ≤ 24) := by rw [Bool.eq_iff_iff]; simp; omega
  have e3 : decide ((f.2.2.2.2.2.2.2.2.length : Int) ≤ 16) = decide (f.2.2.2.2.2.2.2.2.length ≤ 16) := by rw [Bool.eq_iff_iff]; simp; omega
  have e5 : wr ((f.2.2.2.2.2.1.length : Int) - 1) = (f.2.2.2.2.2.1.length : Int) - 1 := wrap_in (by omega) (by omega)
  rw [e5]
  simp only [i_in, obind_some, e1, e2, e3]
  cases inR f.1 0 7 <;> simp only [Bool.not_true, Bool.not_false, cond_true, cond_false, obind_some, Bool.false_and, Bool.true_and]
  cases inR f.2.1 0 7 <;> simp only [Bool.not_true, Bool.not_false, cond_true, cond_false, obind_some, Bool.false_and, Bool.true_and]
  cases f.1 == f.2.1 <;> simp only [Bool.not_true, Bool.not_false, cond_true, cond_false, obind_some, Bool.false_and, Bool.true_and]
  cases inR f.2.2.1 0 100000 <;> simp only [Bool.not_true, Bool.not_false, cond_true, cond_false, obind_some, Bool.false_and, Bool.true_and]
  cases decide (f.2.2.2.2.1.length ≤ 20) <;> simp only [Bool.not_true, Bool.not_false, cond_true, cond_false, obind_some, Bool.false_and, Bool.true_and]
  cases inR f.2.2.2.1 0 (f.2.2.2.2.1.length : Int) <;> simp only [Bool.not_true, Bool.not_false, cond_true, cond_false, obind_some, Bool.false_and, Bool.true_and]
  cases decide (f.2.2.2.2.2.1.length ≤ 24) <;> simp only [Bool.not_true, Bool.not_false, cond_true, cond_false, obind_some, Bool.false_and, Bool.true_and]
  cases f.2.2.2.2.1.all (fun m => decide (m.length ≤ 40)) <;> simp only [Bool.false_eq_true, if_true, if_false, obind_some, Sum.elim_inl, Sum.elim_inr, Bool.false_and, Bool.true_and]
  cases f.2.2.2.2.2.2.2.2.all validV <;> simp only [Bool.false_eq_true, if_true, if_false, obind_some, Sum.elim_inl, Sum.elim_inr, Bool.false_and, Bool.true_and]
  cases f.2.2.2.2.2.2.1 == 0 <;> cases inR f.2.2.2.2.2.2.1 0 ((f.2.2.2.2.2.1.length : Int) - 1) <;> cases inR f.2.2.2.2.2.2.2.1 0 4 <;> rfl

theorem s_validF {f : den tFlow} (h : SmB 68719476736 tFlow f) : s_ValidFlow f = some (validF f) := by
  have h1 := h.2.2.2.2.1.1
  have h2 := h.2.2.2.2.2.1.1
  have h3 := h.2.2.2.2.2.2.2.2.1
  unfold s_ValidFlow validF
  rw [loop_scan (l := f.2.2.2.2.1) (fun _ m => if decide (m.length ≤ 40) then none else some false) (by omega) (fun k m hi hd hw hx hk => by
    simp only [hd, hi, hw, cond_true, obind_some]
    by_cases hm : m.length ≤ 40
    · simp [hm, show ¬ ((m.length : Int) > 40) by omega]
    · simp [hm, show (m.length : Int) > 40 by omega]) (by simp)]
  rw [loop_scan (l := f.2.2.2.2.2.2.2.2) (fun _ x => if validV x then none else some false) (by omega) (fun k x hi hd hw hx hk => by
    simp only [hd, hi, hw, cond_true, obind_some, peta, s_validV]
    cases validV x <;> rfl) (by simp)]
  rw [scanA (fun m : List Int => decide (m.length ≤ 40)), scanA validV]
  have e1 : decide ((f.2.2.2.2.1.length : Int) > 20) = !decide (f.2.2.2.2.1.length ≤ 20) := by rw [Bool.eq_iff_iff]; simp; omega
  have e2 : decide ((f.2.2.2.2.2.1.length : Int) > 24) = !decide (f.2.2.2.2.2.1.length ≤ 24) := by rw [Bool.eq_iff_iff]; simp; omega
  have e3 : decide ((f.2.2.2.2.2.2.2.2.length : Int) > 16) = !decide (f.2.2.2.2.2.2.2.2.length ≤ 16) := by rw [Bool.eq_iff_iff]; simp; omega
  have e4 : inR f.2.2.2.2.2.2.1 0 (if ((f.2.2.2.2.2.1.length : Int) - 1) > 0 then ((f.2.2.2.2.2.1.length : Int) - 1) else 0) = (f.2.2.2.2.2.2.1 == 0 || inR f.2.2.2.2.2.2.1 0 ((f.2.2.2.2.2.1.length : Int) - 1)) := by
    have key : ∀ (c n : Int), 0 ≤ n → inR c 0 (if n - 1 > 0 then n - 1 else 0) = (c == 0 || inR c 0 (n - 1)) := fun c n hn => by
      unfold inR
      by_cases h1 : n - 1 > 0
      · rw [if_pos h1]
        by_cases h2 : c = 0
        · subst h2; simp; omega
        · simp [h2]
      · rw [if_neg h1]
        by_cases h2 : c = 0
        · subst h2; simp
        · rw [Bool.eq_iff_iff]; simp [h2]; omega
    exact key _ _ (by omega)
  have e5 : wr ((f.2.2.2.2.2.1.length : Int) - 1) = (f.2.2.2.2.2.1.length : Int) - 1 := wrap_in (by omega) (by omega)
  rw [e5]
  simp only [s_in, s_max, obind_some, e1, e2, e3, e4]
  cases inR f.1 0 7 <;> simp only [Bool.not_true, Bool.not_false, cond_true, cond_false, obind_some, Bool.false_and, Bool.true_and]
  cases inR f.2.1 0 7 <;> simp only [Bool.not_true, Bool.not_false, cond_true, cond_false, obind_some, Bool.false_and, Bool.true_and]
  cases f.1 == f.2.1 <;> simp only [Bool.not_true, Bool.not_false, cond_true, cond_false, obind_some, Bool.false_and, Bool.true_and]
  cases inR f.2.2.1 0 100000 <;> simp only [Bool.not_true, Bool.not_false, cond_true, cond_false, obind_some, Bool.false_and, Bool.true_and]
  cases decide (f.2.2.2.2.1.length ≤ 20) <;> simp only [Bool.not_true, Bool.not_false, cond_true, cond_false, obind_some, Bool.false_and, Bool.true_and]
  cases inR f.2.2.2.1 0 (f.2.2.2.2.1.length : Int) <;> simp only [Bool.not_true, Bool.not_false, cond_true, cond_false, obind_some, Bool.false_and, Bool.true_and]
  cases decide (f.2.2.2.2.2.1.length ≤ 24) <;> simp only [Bool.not_true, Bool.not_false, cond_true, cond_false, obind_some, Bool.false_and, Bool.true_and]
  cases f.2.2.2.2.2.2.1 == 0 || inR f.2.2.2.2.2.2.1 0 ((f.2.2.2.2.2.1.length : Int) - 1) <;> cases inR f.2.2.2.2.2.2.2.1 0 4 <;> cases decide (f.2.2.2.2.2.2.2.2.length ≤ 16) <;> cases f.2.2.2.2.1.all (fun m => decide (m.length ≤ 40)) <;> cases f.2.2.2.2.2.2.2.2.all validV <;> rfl

def sameB (a b : List Int) : Bool := (strOf a).toList == (strOf b).toList

theorem i_sameB (a b : List Int) : i_EqualBytes a b = some (sameB a b) := rfl

theorem s_sameB (a b : List Int) : s_EqualBytes a b = some (sameB a b) := rfl

def sameMs : List (den tMessage) → List (den tMessage) → Bool
  | [], _ => true
  | _ :: _, [] => true
  | a :: as, b :: bs => sameB a b && sameMs as bs

/-- Does the element at the same place of another list fail? -/
def pairB {α S : Type} (p : α → α → Bool) (l : List α) (ρ : S) (k : Nat) (x : α) : Option S := Option.elim l[k]? none fun y => if p x y then none else some ρ

/-- Two lists are gone through together. -/
theorem scan2 {α S : Type} (p : α → α → Bool) (q : List α → List α → Bool) (h0 : ∀ b, q [] b = true) (h1 : ∀ x a y b, q (x :: a) (y :: b) = (p x y && q a b)) (ρ : S) : ∀ (a b : List α), a.length ≤ b.length → ∀ (k : Nat) (l : List α), (∀ j, b[j]? = l[k + j]?) → scanI (pairB p l ρ) k a = if q a b then none else some ρ
  | [], b, _, k, l, _ => by rw [h0]; rfl
  | x :: a, [], h, _, _, _ => by simp at h
  | x :: a, y :: b, h, k, l, hl => by
    have e0 := hl 0
    simp only [Nat.add_zero, List.getElem?_cons_zero] at e0
    simp only [scanI, pairB, ← e0, h1, Option.elim_some]
    rcases Bool.eq_false_or_eq_true (p x y) with hp | hp
    · simp only [hp, if_true, Bool.true_and]
      exact scan2 p q h0 h1 ρ a b (by simpa using h) (k + 1) l fun j => by
        have := hl (j + 1)
        rw [List.getElem?_cons_succ] at this
        rw [this]; congr 1; omega
    · simp [hp]

theorem i_sameMs {a b : List (den tMessage)} (ha : a.length ≤ 68719476736) (hb : b.length ≤ 68719476736) : i_equalMessages a b = some (decide (a.length = b.length) && sameMs a b) := by
  unfold i_equalMessages
  by_cases hl : a.length = b.length
  · have h0 : ((a.length : Int) != (b.length : Int)) = false := by simp [hl]
    rw [h0, cond_false, loop_scan (l := a) (pairB sameB b false) (by omega) (fun k x hi hd hw hx hk => by
        have hy : b[k]? = some b[k] := List.getElem?_eq_getElem (by omega)
        simp only [hd, hi, hw, cond_true, obind_some, idx_nat, hy, i_sameB, pairB, Option.elim_some]
        cases sameB x b[k] <;> rfl) (by simp)]
    rw [scan2 sameB sameMs (fun b => by cases b <;> rfl) (fun _ _ _ _ => rfl) false a b (by omega) 0 b (fun j => by rw [Nat.zero_add])]
    cases sameMs a b <;> simp [hl]
  · have h0 : ((a.length : Int) != (b.length : Int)) = true := by simp; omega
    rw [h0, cond_true]; simp [hl]

def consist (f : den tFlow) (x : den tInbox) : Bool :=
  x.1 == f.2.1 && (x.2.1 == f.1 && (decide (x.2.2.2.length ≤ f.2.2.2.2.1.length) && (sameMs x.2.2.2 f.2.2.2.2.1 && decide ((x.2.2.2.length : Int) ≥ f.2.2.2.1))))

theorem sameMs_take : ∀ (a b : List (den tMessage)), sameMs a (b.take a.length) = sameMs a b
  | [], b => by cases b <;> rfl
  | x :: a, [] => rfl
  | x :: a, y :: b => by simp [sameMs, sameMs_take a b]

theorem i_consist {f : den tFlow} {x : den tInbox} (hf : f.2.2.2.2.1.length ≤ 68719476736) (hx : x.2.2.2.length ≤ 68719476736) : i_ConsistentWith f x = some (consist f x) := by
  unfold i_ConsistentWith consist
  cases x.1 == f.2.1
  · rfl
  cases x.2.1 == f.1
  · rfl
  by_cases hl : x.2.2.2.length ≤ f.2.2.2.2.1.length
  · have h1 : decide ((x.2.2.2.length : Int) ≤ (f.2.2.2.2.1.length : Int)) = true := by simpa using hl
    have h2 : slOk (0 : Int) (x.2.2.2.length : Int) (f.2.2.2.2.1.length : Int) = true := by simp [slOk]; omega
    rw [h1, h2, cut_take, i_sameMs hx (by rw [List.length_take]; omega), sameMs_take]
    have h3 : decide (x.2.2.2.length = (List.take x.2.2.2.length f.2.2.2.2.1).length) = true := by simp [List.length_take]; omega
    rw [h3]
    simp only [cond_true, obind_some, Bool.true_and, decide_eq_true hl]
    cases sameMs x.2.2.2 f.2.2.2.2.1 <;> rfl
  · have h1 : decide ((x.2.2.2.length : Int) ≤ (f.2.2.2.2.1.length : Int)) = false := by simp; omega
    rw [h1]
    simp [hl]

theorem s_consist {f : den tFlow} {x : den tInbox} (hf : f.2.2.2.2.1.length ≤ 68719476736) (hx : x.2.2.2.length ≤ 68719476736) : s_ConsistentWith f x = some (consist f x) := by
  unfold s_ConsistentWith consist
  simp only [bne]
  cases x.1 == f.2.1
  · rfl
  cases x.2.1 == f.1
  · rfl
  by_cases hl : x.2.2.2.length ≤ f.2.2.2.2.1.length
  · have h1 : decide ((x.2.2.2.length : Int) > (f.2.2.2.2.1.length : Int)) = false := by simp; omega
    have h4 : decide ((x.2.2.2.length : Int) < f.2.2.2.1) = !decide ((x.2.2.2.length : Int) ≥ f.2.2.2.1) := by rw [Bool.eq_iff_iff]; simp
    rw [h1, h4, loop_scan (l := x.2.2.2) (pairB sameB f.2.2.2.2.1 false) (by omega) (fun k m hi hd hw hm hk => by
        have hy : f.2.2.2.2.1[k]? = some f.2.2.2.2.1[k] := List.getElem?_eq_getElem (by omega)
        simp only [hd, hi, hw, cond_true, obind_some, idx_nat, hy, s_sameB, pairB, Option.elim_some]
        cases sameB m f.2.2.2.2.1[k] <;> rfl) (by simp)]
    rw [scan2 sameB sameMs (fun b => by cases b <;> rfl) (fun _ _ _ _ => rfl) false x.2.2.2 f.2.2.2.2.1 hl 0 f.2.2.2.2.1 (fun j => by rw [Nat.zero_add])]
    rw [decide_eq_true hl]
    cases decide ((x.2.2.2.length : Int) ≥ f.2.2.2.1) <;> cases sameMs x.2.2.2 f.2.2.2.2.1 <;> rfl
  · have h1 : decide ((x.2.2.2.length : Int) > (f.2.2.2.2.1.length : Int)) = true := by simp; omega
    rw [h1]
    simp [hl]

def atR (x : den tReservation) (s d : Int) : Bool := x.2.1 == s && x.2.2.1 == d

theorem i_at (x : den tReservation) (s d : Int) : i_Reservation_at x s d = some (atR x s d) := by
  unfold i_Reservation_at atR
  cases x.2.1 == s <;> simp

theorem s_at (x : den tReservation) (s d now : Int) : s_l32At x s d now = some (atR x s d && decide (now ≤ x.2.2.2.2)) := by
  unfold s_l32At atR
  cases x.2.1 == s <;> cases x.2.2.1 == d <;> simp

def rate (l : List (den tReservation)) (s d now : Int) : Int := l.foldl (fun a x => if atR x s d && decide (now ≤ x.2.2.2.2) then wr (a + x.2.2.2.1) else a) 0

theorem i_rate {l : List (den tReservation)} {s d now : Int} (h : l.length ≤ 1048576) : i_ReservedRate l s d now = some (rate l s d now) := by
  unfold i_ReservedRate
  rw [(loop_fold' (l := l) (out := fun a => a) (fun (a : Int) x => if atR x s d && decide (now ≤ x.2.2.2.2) then wr (a + x.2.2.2.1) else a) (fun _ _ => True) (by omega) trivial (fun k x a hi hd hw hx hk hI => by
    refine ⟨?_, trivial⟩
    simp only [hd, hi, hw, cond_true, obind_some]
    rw [show ((x.1, x.2.1, x.2.2.1, x.2.2.2.1, x.2.2.2.2) : den tReservation) = x from rfl, i_at]
    cases atR x s d <;> cases decide (now ≤ x.2.2.2.2) <;> rfl) (fun a => by simp)).1]
  rfl

theorem s_rate {l : List (den tReservation)} {s d now : Int} (h : l.length ≤ 1048576) : s_ReservedRate l s d now = some (rate l s d now) := by
  unfold s_ReservedRate
  rw [(loop_fold' (l := l) (out := fun a => a) (fun (a : Int) x => if atR x s d && decide (now ≤ x.2.2.2.2) then wr (a + x.2.2.2.1) else a) (fun _ _ => True) (by omega) trivial (fun k x a hi hd hw hx hk hI => by
    refine ⟨?_, trivial⟩
    simp only [hd, hi, hw, cond_true, obind_some]
    rw [show ((x.1, x.2.1, x.2.2.1, x.2.2.2.1, x.2.2.2.2) : den tReservation) = x from rfl, s_at]
    cases atR x s d <;> cases decide (now ≤ x.2.2.2.2) <;> rfl) (fun a => by simp)).1]
  rfl

def free (l : List (den tReservation)) (cap s d now : Int) : Int := if wr (cap - rate l s d now) > 0 then wr (cap - rate l s d now) else 0

theorem i_free {l : List (den tReservation)} {cap s d now : Int} (h : l.length ≤ 1048576) : i_FreeRate l cap s d now = some (free l cap s d now) := by
  unfold i_FreeRate
  simp only [i_rate h, obind_some, i_max]; rfl

theorem s_free {l : List (den tReservation)} {cap s d now : Int} (h : l.length ≤ 1048576) : s_FreeRate l cap s d now = some (free l cap s d now) := by
  unfold s_FreeRate
  simp only [s_rate h, obind_some, s_max]; rfl

def resRate (l : List (den tReservation)) (id s d now : Int) : Int :=
  match scanI (fun _ (x : den tReservation) => if x.1 == id && (atR x s d && decide (now ≤ x.2.2.2.2)) then some x.2.2.2.1 else none) 0 l with
  | some r => r
  | none => 0

theorem i_resRate {l : List (den tReservation)} {id s d now : Int} (h : l.length ≤ 1048576) : i_ReservationRate l id s d now = some (resRate l id s d now) := by
  unfold i_ReservationRate
  rw [loop_scan (l := l) (fun _ (x : den tReservation) => if x.1 == id && (atR x s d && decide (now ≤ x.2.2.2.2)) then some x.2.2.2.1 else none) (by omega) (fun k x hi hd hw hx hk => by
    simp only [hd, hi, hw, cond_true, obind_some]
    rw [show ((x.1, x.2.1, x.2.2.1, x.2.2.2.1, x.2.2.2.2) : den tReservation) = x from rfl, i_at]
    cases x.1 == id <;> cases atR x s d <;> cases decide (now ≤ x.2.2.2.2) <;> rfl) (by simp)]
  unfold resRate
  cases scanI (fun _ (x : den tReservation) => if x.1 == id && (atR x s d && decide (now ≤ x.2.2.2.2)) then some x.2.2.2.1 else none) 0 l <;> rfl

theorem s_resRate {l : List (den tReservation)} {id s d now : Int} (h : l.length ≤ 1048576) : s_ReservationRate l id s d now = some (resRate l id s d now) := by
  unfold s_ReservationRate
  rw [loop_scan (l := l) (fun _ (x : den tReservation) => if x.1 == id && (atR x s d && decide (now ≤ x.2.2.2.2)) then some x.2.2.2.1 else none) (by omega) (fun k x hi hd hw hx hk => by
    simp only [hd, hi, hw, cond_true, obind_some]
    rw [show ((x.1, x.2.1, x.2.2.1, x.2.2.2.1, x.2.2.2.2) : den tReservation) = x from rfl, s_at]
    cases x.1 == id <;> cases atR x s d <;> cases decide (now ≤ x.2.2.2.2) <;> rfl) (by simp)]
  unfold resRate
  cases scanI (fun _ (x : den tReservation) => if x.1 == id && (atR x s d && decide (now ≤ x.2.2.2.2)) then some x.2.2.2.1 else none) 0 l <;> rfl

def validR (x : den tReservation) : Bool := inR x.1 1 100000 && (inR x.2.2.2.1 1 20 && validV (x.2.1, x.2.2.1, x.2.2.2.2))

theorem i_validR (x : den tReservation) : i_ValidReservation x = some (validR x) := by
  unfold i_ValidReservation validR
  simp only [i_in, i_validV, obind_some]
  cases inR x.1 1 100000 <;> cases inR x.2.2.2.1 1 20 <;> cases validV (x.2.1, x.2.2.1, x.2.2.2.2) <;> rfl

theorem s_validR (x : den tReservation) : s_ValidReservation x = some (validR x) := by
  unfold s_ValidReservation validR
  simp only [s_in, s_validV, obind_some]
  cases inR x.1 1 100000 <;> cases inR x.2.2.2.1 1 20 <;> cases validV (x.2.1, x.2.2.1, x.2.2.2.2) <;> rfl

def sameR (x y : den tReservation) : Bool := y.1 == x.1 && atR y x.2.1 x.2.2.1

theorem s_without {l : List (den tReservation)} {x : den tReservation} (h : l.length ≤ 1048576) : s_l32Without l x = some (l.filter fun y => !sameR x y) := by
  unfold s_l32Without
  rw [(loop_fold (l := l) (out := fun a => a) (fun (a : List (den tReservation)) y => if !sameR x y then a ++ [y] else a) (fun k a => a.length ≤ k) (by omega) (by simp) (fun k y a hi hd hw hx hk hI => by
    simp only [hd, hi, hw, cond_true, obind_some]
    have hap := apOk_le (b := 40) (n := a.length) (m := 1) (by decide) (by omega)
    unfold sameR atR
    simp only [bne]
    cases h1 : y.1 == x.1 <;> cases h2 : y.2.1 == x.2.1 <;> cases h3 : y.2.2.1 == x.2.2.1 <;> simp [hap] <;> omega) (fun a => by simp)).1]
  simp only [foldl_filter, List.nil_append, obind_some]

/-- Are reservations valid together? -/
def okR (l : List (den tReservation)) (cap now : Int) (k : Nat) (x : den tReservation) : Bool := validR x && (!decide (rate l x.2.1 x.2.2.1 now > cap) && !(l.take k).any (sameR x))

def validRs (l : List (den tReservation)) (cap now : Int) : Bool :=
  decide (l.length ≤ 40) && (scanI (fun k x => if okR l cap now k x then none else some ()) 0 l).isNone

theorem scanI_none {α R S : Type} (p : Nat → α → Bool) (r : R) (s : S) : ∀ (l : List α) (k : Nat), (scanI (fun k x => if p k x then none else some r) k l).isNone = (scanI (fun k x => if p k x then none else some s) k l).isNone ∧ ∀ q, scanI (fun k x => if p k x then none else some r) k l = some q → q = r
  | [], _ => ⟨rfl, fun q h => by cases h⟩
  | x :: xs, k => by
    simp only [scanI]
    cases p k x with
    | true => simpa using scanI_none p r s xs (k + 1)
    | false => simp

theorem scan_false {α : Type} (p : Nat → α → Bool) (l : List α) : (match scanI (fun k x => if p k x then none else some false) 0 l with
    | some r => some r
    | none => some true) = some (scanI (fun k x => if p k x then none else some ()) 0 l).isNone := by
  obtain ⟨h1, h2⟩ := scanI_none p false () l 0
  rw [← h1]
  cases h : scanI (fun k x => if p k x then none else some false) 0 l with
  | none => rfl
  | some q => rw [h2 q h]; rfl

theorem i_validRs {l : List (den tReservation)} {cap now : Int} (h : l.length ≤ 1048576) : i_ValidReservations l cap now = some (validRs l cap now) := by
  unfold i_ValidReservations validRs
  by_cases hl : l.length ≤ 40
  · rw [decide_eq_false (by omega), cond_false, decide_eq_true hl, Bool.true_and]
    rw [loop_scan (l := l) (fun k x => if okR l cap now k x then none else some false) (by omega) (fun k x hi hd hw hx hk => by
      have hslo : slOk (0 : Int) (k : Int) (l.length : Int) = true := by simp [slOk]; omega
      have hlen : (l.take k).length ≤ 1048576 := by simp; omega
      simp only [hd, hi, hw, cond_true, obind_some, hslo, cut_take]
      rw [show ((x.1, x.2.1, x.2.2.1, x.2.2.2.1, x.2.2.2.2) : den tReservation) = x from rfl, i_validR, i_rate h]
      unfold okR
      cases hv : validR x with
      | false => rfl
      | true =>
        cases hr : decide (rate l x.2.1 x.2.2.1 now > cap) with
        | true => simp [hr]
        | false =>
          simp only [obind_some, Bool.not_true, cond_false, hr, Bool.not_false, Bool.true_and]
          rw [loop_scan (l := l.take k) (R := Int ⊕ (Unit ⊕ Bool)) (fun _ y => if sameR x y then some (Sum.inr (Sum.inr false)) else none) (by omega) (fun j y hi2 hd2 hw2 hx2 hk2 => by
            simp only [hd2, hi2, hw2, cond_true, obind_some]
            rw [show ((y.1, y.2.1, y.2.2.1, y.2.2.2.1, y.2.2.2.2) : den tReservation) = y from rfl, i_at]
            unfold sameR
            cases y.1 == x.1 <;> cases atR y x.2.1 x.2.2.1 <;> rfl) (by simp)]
          have key : ∀ (m : List (den tReservation)) (j : Nat), scanI (fun _ y => if sameR x y then some (Sum.inr (Sum.inr false) : Int ⊕ (Unit ⊕ Bool)) else none) j m = if m.any (sameR x) then some (Sum.inr (Sum.inr false)) else none := by
            intro m
            induction m with
            | nil => intro j; rfl
            | cons y m ih =>
              intro j
              simp only [scanI, List.any_cons]
              rcases Bool.eq_false_or_eq_true (sameR x y) with hs | hs
              · simp [hs]
              · simp only [hs, ih, Bool.false_eq_true, if_false]
                rfl
          rw [key]
          cases (l.take k).any (sameR x) <;> simp) (by simp)]
    rw [← scan_false]
    cases scanI (fun k x => if okR l cap now k x then none else some false) 0 l <;> rfl
  · rw [decide_eq_true (by omega), cond_true, decide_eq_false hl]; rfl

theorem s_validRs {l : List (den tReservation)} {cap now : Int} (h : l.length ≤ 1048576) : s_ValidReservations l cap now = some (validRs l cap now) := by
  unfold s_ValidReservations validRs
  rw [loop_scan (l := l) (fun k x => if okR l cap now k x then none else some false) (by omega) (fun k x hi hd hw hx hk => by
    have hslo : slOk (0 : Int) (k : Int) (l.length : Int) = true := by simp [slOk]; omega
    have hlen : (l.take k).length ≤ 1048576 := by simp; omega
    simp only [hd, hi, hw, cond_true, obind_some, hslo, cut_take]
    rw [show ((x.1, x.2.1, x.2.2.1, x.2.2.2.1, x.2.2.2.2) : den tReservation) = x from rfl, s_validR, s_without hlen, s_rate h]
    unfold okR
    cases hv : validR x with
    | false => rfl
    | true =>
      simp only [obind_some, Bool.not_true, cond_false, Bool.true_and]
      have hany : ((((l.take k).filter fun y => !sameR x y).length : Int) != (k : Int)) = (l.take k).any (sameR x) := by
        have hk' : (l.take k).length = k := by simp; omega
        cases ha : (l.take k).any (sameR x) with
        | false =>
          have : (l.take k).filter (fun y => !sameR x y) = l.take k := by
            rw [List.filter_eq_self]
            intro y hy
            have := List.any_eq_false.1 ha y hy
            simpa using this
          rw [this, hk']; simp
        | true =>
          obtain ⟨y, hy, hs⟩ := List.any_eq_true.1 ha
          have hlt : ((l.take k).filter fun y => !sameR x y).length < (l.take k).length := by
            refine Nat.lt_of_le_of_ne (List.length_filter_le ..) fun he => ?_
            have := (List.length_filter_eq_length_iff.1 he) y hy
            rw [hs] at this
            cases this
          rw [bne_iff_ne]
          omega
      rw [hany]
      cases (l.take k).any (sameR x) <;> cases decide (rate l x.2.1 x.2.2.1 now > cap) <;> rfl) (by simp)]
  obtain ⟨h1, h2⟩ := scanI_none (okR l cap now) false () l 0
  rw [← h1]
  cases hsc : scanI (fun k x => if okR l cap now k x then none else some false) 0 l with
  | none => simp; omega
  | some q => rw [h2 q hsc]; simp

def sameU (id s d : Int) (x : den tUsage) : Bool := x.1 == id && (x.2.1 == s && x.2.2.1 == d)

def place (l : List (den tUsage)) (id s d : Int) : Int :=
  match scanI (fun k x => if sameU id s d x then some (k : Int) else none) 0 l with
  | some i => i
  | none => -1

theorem i_place {g : den tScheduler} {id s d : Int} (h : g.2.2.length ≤ 1048576) : i_usageAt g id s d = some (place g.2.2 id s d) := by
  unfold i_usageAt
  rw [loop_scan (l := g.2.2) (fun k x => if sameU id s d x then some (k : Int) else none) (by omega) (fun k x hi hd hw hx hk => by
    simp only [hd, hi, hw, cond_true, obind_some]
    unfold sameU
    cases x.1 == id <;> cases x.2.1 == s <;> cases x.2.2.1 == d <;> rfl) (by simp)]
  unfold place
  cases scanI (fun k x => if sameU id s d x then some (k : Int) else none) 0 g.2.2 <;> rfl

theorem s_place {l : List (den tUsage)} {id s d : Int} (h : l.length ≤ 1048576) : s_l34Place l id s d = some (place l id s d) := by
  unfold s_l34Place
  rw [loop_scan (l := l) (fun k x => if sameU id s d x then some (k : Int) else none) (by omega) (fun k x hi hd hw hx hk => by
    simp only [hd, hi, hw, cond_true, obind_some]
    unfold sameU
    cases x.1 == id <;> cases x.2.1 == s <;> cases x.2.2.1 == d <;> rfl) (by simp)]
  unfold place
  cases scanI (fun k x => if sameU id s d x then some (k : Int) else none) 0 l <;> rfl

def rateU (g : den tScheduler) (id s d now : Int) : Int := if id == 0 then free g.2.1 g.1 s d now else resRate g.2.1 id s d now

theorem i_rateU {g : den tScheduler} {id s d now : Int} (h : g.2.1.length ≤ 1048576) : i_rateOf g id s d now = some (rateU g id s d now) := by
  unfold i_rateOf rateU
  rw [i_free h, i_resRate h]
  cases id == 0 <;> rfl

def okU (g : den tScheduler) (now : Int) (k : Nat) (x : den tUsage) : Bool := place g.2.2 x.1 x.2.1 x.2.2.1 == (k : Int) && inR x.2.2.2 1 (rateU g x.1 x.2.1 x.2.2.1 now)

def validS (g : den tScheduler) (now : Int) : Bool := inR g.1 1 20 && (validRs g.2.1 g.1 now && (scanI (fun k x => if okU g now k x then none else some ()) 0 g.2.2).isNone)

theorem i_validS {g : den tScheduler} {now : Int} (h1 : g.2.1.length ≤ 1048576) (h2 : g.2.2.length ≤ 1048576) : i_ValidScheduler g now = some (validS g now) := by
  unfold i_ValidScheduler validS
  rw [loop_scan (l := g.2.2) (fun k x => if okU g now k x then none else some false) (by omega) (fun k x hi hd hw hx hk => by
    simp only [hd, hi, hw, cond_true, obind_some]
    rw [show ((g.1, g.2.1, g.2.2) : den tScheduler) = g from rfl, i_place h2, i_rateU h1]
    unfold okU
    simp only [obind_some, i_in, bne]
    cases place g.2.2 x.1 x.2.1 x.2.2.1 == (k : Int) <;> cases inR x.2.2.2 1 (rateU g x.1 x.2.1 x.2.2.1 now) <;> rfl) (by simp)]
  rw [← scanI_none (okU g now) false () g.2.2 0 |>.1]
  have h3 := (scanI_none (okU g now) false () g.2.2 0).2
  simp only [i_in, i_validRs h1, obind_some]
  cases inR g.1 1 20 <;> cases validRs g.2.1 g.1 now <;> (cases hsc : scanI (fun k x => if okU g now k x then none else some false) 0 g.2.2 with
    | none => rfl
    | some q => rw [h3 q hsc]; rfl)

theorem s_validS {g : den tScheduler} {now : Int} (h1 : g.2.1.length ≤ 1048576) (h2 : g.2.2.length ≤ 1048576) : s_ValidScheduler g now = some (validS g now) := by
  unfold s_ValidScheduler validS
  rw [loop_scan (l := g.2.2) (fun k x => if okU g now k x then none else some false) (by omega) (fun k x hi hd hw hx hk => by
    simp only [hd, hi, hw, cond_true, obind_some, s_place h2, s_free h1, s_resRate h1, s_in]
    unfold okU rateU
    simp only [bne]
    cases x.1 == 0 <;> simp only [cond_true, cond_false, obind_some, s_in, if_true, Bool.false_eq_true, if_false] <;> cases place g.2.2 x.1 x.2.1 x.2.2.1 == (k : Int) <;> simp only [Bool.not_true, Bool.not_false, cond_true, cond_false, obind_some, Bool.true_and, Bool.false_and] <;> (first | rfl | (split <;> simp_all))) (by simp)]
  rw [← scanI_none (okU g now) false () g.2.2 0 |>.1]
  have h3 := (scanI_none (okU g now) false () g.2.2 0).2
  simp only [s_in, s_validRs h1, obind_some]
  cases inR g.1 1 20 <;> cases validRs g.2.1 g.1 now <;> (cases hsc : scanI (fun k x => if okU g now k x then none else some false) 0 g.2.2 with
    | none => rfl
    | some q => rw [h3 q hsc]; rfl)

theorem wr_less {n : Nat} (h : n ≤ 68719476736) : wr ((n : Int) - 1) = (n : Int) - 1 := wrap_in (by omega) (by omega)

def asOk (t : den tTopology) (r : Int) : Bool := inR r 0 ((t.1.length : Int) - 1)

theorem i_asOk {t : den tTopology} {r : Int} (h : t.1.length ≤ 68719476736) : i_isAS t r = some (asOk t r) := by
  unfold i_isAS asOk
  rw [wr_less h, i_in]; rfl

theorem s_asOk {t : den tTopology} {r : Int} (h : t.1.length ≤ 68719476736) : s_l5Realm t r = some (asOk t r) := by
  unfold s_l5Realm asOk
  rw [wr_less h, s_in]; rfl

theorem i_key (n : Int) : i_ValidKey n = some (inR n 1 2147483646) := by unfold i_ValidKey; rw [i_in]; rfl

theorem s_key (n : Int) : s_ValidKey n = some (inR n 1 2147483646) := by unfold s_ValidKey; rw [s_in]; rfl

def endsL (l : den tLink) (r d : Int) : Bool := (l.1 == r && l.2.1 == d) || (l.2.2.1 == r && l.2.2.2.1 == d)

theorem i_endsL (l : den tLink) (r d : Int) : i_usesInterface l r d = some (endsL l r d) := by
  unfold i_usesInterface endsL
  cases l.1 == r <;> cases l.2.1 == d <;> cases l.2.2.1 == r <;> cases l.2.2.2.1 == d <;> rfl

theorem s_endsL (l : den tLink) (r d : Int) : s_l5Ends l r d = some (endsL l r d) := by
  unfold s_l5Ends endsL
  cases l.1 == r <;> cases l.2.1 == d <;> cases l.2.2.1 == r <;> cases l.2.2.2.1 == d <;> rfl

def kindOk2 (k : Int) (x y : den tAS) : Bool := cond (k == 1) (x.2.1 && y.2.1) (cond (k == 2) (x.1 == y.1 && !y.2.1) (cond (k == 3) (!x.2.1 && !y.2.1) false))

def linkV (t : den tTopology) (l : den tLink) : Bool :=
  asOk t l.1 && (asOk t l.2.2.1 && (!decide (l.1 ≥ l.2.2.1) && (inR l.2.1 1 6 && (inR l.2.2.2.1 1 6 && kindOk2 l.2.2.2.2 ((t.1[l.1.toNat]?).getD (0, false, 0)) ((t.1[l.2.2.1.toNat]?).getD (0, false, 0))))))

theorem as_at {t : den tTopology} {r : Int} (h : asOk t r = true) : ∃ x, t.1[r.toNat]? = some x ∧ idx t.1 r = some x := by
  obtain ⟨h0, h1⟩ := inR_iff.1 h
  obtain ⟨x, hx⟩ := get_some h0 h1
  exact ⟨x, hx, idx_of h0 hx⟩

theorem i_linkV {t : den tTopology} {l : den tLink} (h : t.1.length ≤ 68719476736) : i_linkOk t l = some (linkV t l) := by
  unfold i_linkOk linkV
  simp only [peta, i_asOk h, i_in, obind_some]
  cases c1 : asOk t l.1
  · rfl
  · cases c2 : asOk t l.2.2.1
    · rfl
    · obtain ⟨x, hx, ix⟩ := as_at c1
      obtain ⟨y, hy, iy⟩ := as_at c2
      rw [ix, iy, hx, hy]
      simp only [both_self, obind_some, Option.getD_some, Bool.not_true, cond_false, Bool.true_and]
      unfold kindOk2
      cases decide (l.1 ≥ l.2.2.1)
      · cases inR l.2.1 1 6
        · rfl
        · cases inR l.2.2.2.1 1 6
          · rfl
          · cases l.2.2.2.2 == 1
            · cases l.2.2.2.2 == 2
              · cases l.2.2.2.2 == 3
                · rfl
                · cases x.2.1 <;> rfl
              · cases x.1 == y.1 <;> rfl
            · cases x.2.1 <;> rfl
      · rfl

theorem s_linkV {t : den tTopology} {l : den tLink} (h : t.1.length ≤ 68719476736) : s_l5LinkOk t l = some (linkV t l) := by
  unfold s_l5LinkOk linkV
  simp only [peta, s_asOk h, s_in, obind_some]
  cases c1 : asOk t l.1
  · rfl
  · cases c2 : asOk t l.2.2.1
    · rfl
    · obtain ⟨x, hx, ix⟩ := as_at c1
      obtain ⟨y, hy, iy⟩ := as_at c2
      rw [ix, iy, hx, hy]
      simp only [obind_some, Option.getD_some, Bool.not_true, cond_false, Bool.true_and]
      unfold kindOk2
      cases decide (l.1 ≥ l.2.2.1)
      · cases inR l.2.1 1 6
        · rfl
        · cases inR l.2.2.2.1 1 6
          · rfl
          · cases l.2.2.2.2 == 1
            · cases l.2.2.2.2 == 2
              · cases l.2.2.2.2 == 3
                · rfl
                · cases x.2.1 <;> rfl
              · cases x.1 == y.1 <;> rfl
            · cases x.2.1 <;> rfl
      · rfl

def asP (t : den tTopology) (k : Nat) (x : den tAS) : Bool := inR x.1 0 2 && (inR x.2.2 1 2147483646 && (t.1.take k).all fun y => !(x.2.2 == y.2.2))

def lkP (t : den tTopology) (k : Nat) (x : den tLink) : Bool := linkV t x && (t.2.take k).all fun y => !(endsL y x.1 x.2.1 || endsL y x.2.2.1 x.2.2.2.1)

def topV (t : den tTopology) : Bool := inR (t.1.length : Int) 1 8 && ((t.1.zipIdx 0).all (fun z => asP t z.2 z.1) && (t.2.zipIdx 0).all fun z => lkP t z.2 z.1)

theorem slOk_take {k n : Nat} (h : k < n) : slOk (0 : Int) (k : Int) (n : Int) = true := by
  have := slOk_nat (a := 0) (b := k) (n := n)
  rw [show ((0 : Nat) : Int) = 0 from rfl] at this
  rw [this]; simp; omega

theorem idx_take {α : Type} {l : List α} {k j : Nat} {x : α} (h : idx (l.take k) (j : Int) = some x) : idx l (j : Int) = some x := by
  rw [idx_nat] at h ⊢
  exact (get_take h).1

theorem len_take {α : Type} {l : List α} {k : Nat} (h : k < l.length) : (l.take k).length = k := by simp; omega

theorem i_topV {t : den tTopology} (h : SmB 68719476736 tTopology t) : i_ValidTopology t = some (topV t) := by
  have l1 := h.1.1
  have l2 := h.2.1
  unfold i_ValidTopology topV
  rw [loop_scan (l := t.1) (fun k x => if asP t k x then none else some false) (Nat.le_trans l1 (by decide)) (fun k x hi hd hw hm hk => by
    simp only [hd, hi, cond_true, obind_some, i_in, i_key, slOk_take hk, cut_take, hw]
    rw [loop_scan (l := t.1.take k) (fun _ y => if !(x.2.2 == y.2.2) then none else some (Sum.inr (Sum.inr false))) (by rw [len_take hk]; omega) (fun j y hi hd hw hm hk => by
      simp only [hd, hi, hw, cond_true, obind_some]
      cases x.2.2 == y.2.2 <;> rfl) (by simp), scanA (fun y : den tAS => !(x.2.2 == y.2.2))]
    unfold asP
    cases inR x.1 0 2 <;> cases inR x.2.2 1 2147483646 <;> cases (t.1.take k).all (fun y => !(x.2.2 == y.2.2)) <;> rfl) (by simp), scanB (asP t)]
  rw [loop_scan (l := t.2) (fun k x => if lkP t k x then none else some false) (Nat.le_trans l2 (by decide)) (fun k x hi hd hw hm hk => by
    simp only [hd, hi, cond_true, obind_some, peta, i_linkV l1, slOk_take hk, cut_take, hw]
    rw [loop_scan (l := t.2.take k) (fun _ y => if !(endsL y x.1 x.2.1 || endsL y x.2.2.1 x.2.2.2.1) then none else some (Sum.inr (Sum.inr false))) (by rw [len_take hk]; omega) (fun j y hi hd hw hm hk => by
      simp only [hd, hi, hw, cond_true, obind_some, peta, i_endsL]
      cases endsL y x.1 x.2.1 <;> cases endsL y x.2.2.1 x.2.2.2.1 <;> rfl) (by simp), scanA (fun y : den tLink => !(endsL y x.1 x.2.1 || endsL y x.2.2.1 x.2.2.2.1))]
    unfold lkP
    cases linkV t x <;> cases (t.2.take k).all (fun y => !(endsL y x.1 x.2.1 || endsL y x.2.2.1 x.2.2.2.1)) <;> rfl) (by simp), scanB (lkP t)]
  rw [i_in, obind_some]
  cases inR (t.1.length : Int) 1 8 <;> cases (t.1.zipIdx 0).all (fun z => asP t z.2 z.1) <;> cases (t.2.zipIdx 0).all (fun z => lkP t z.2 z.1) <;> rfl

theorem beq_flip (a b : Int) : (a == b) = (b == a) := by rw [Bool.eq_iff_iff]; simp; exact eq_comm

theorem s_topV {t : den tTopology} (h : SmB 68719476736 tTopology t) : s_ValidTopology t = some (topV t) := by
  have l1 := h.1.1
  have l2 := h.2.1
  unfold s_ValidTopology topV
  rw [loop_scan (l := t.1) (fun k x => if asP t k x then none else some false) (Nat.le_trans l1 (by decide)) (fun k x hi hd hw hm hk => by
    simp only [hd, hi, cond_true, obind_some, s_in, s_key, hw]
    rw [loop_scan (l := t.1.take k) (fun _ y => if !(x.2.2 == y.2.2) then none else some (Sum.inr (Sum.inr false))) (by rw [len_take hk]; omega) (fun j y hi2 hd hw hm hk2 => by
      rw [len_take hk] at hd
      simp only [hd, idx_take hi2, hi, hw, cond_true, obind_some, beq_flip y.2.2 x.2.2]
      cases x.2.2 == y.2.2 <;> rfl) (by rw [len_take hk]; simp), scanA (fun y : den tAS => !(x.2.2 == y.2.2))]
    unfold asP
    cases inR x.1 0 2 <;> cases inR x.2.2 1 2147483646 <;> cases (t.1.take k).all (fun y => !(x.2.2 == y.2.2)) <;> rfl) (by simp), scanB (asP t)]
  rw [loop_scan (l := t.2) (fun k x => if lkP t k x then none else some false) (Nat.le_trans l2 (by decide)) (fun k x hi hd hw hm hk => by
    simp only [hd, hi, cond_true, obind_some, peta, s_linkV l1, hw]
    rw [loop_scan (l := t.2.take k) (fun _ y => if !(endsL y x.1 x.2.1 || endsL y x.2.2.1 x.2.2.2.1) then none else some (Sum.inr (Sum.inr false))) (by rw [len_take hk]; omega) (fun j y hi2 hd hw hm hk2 => by
      rw [len_take hk] at hd
      simp only [hd, idx_take hi2, hi, hw, cond_true, obind_some, peta, s_endsL]
      cases endsL y x.1 x.2.1 <;> cases endsL y x.2.2.1 x.2.2.2.1 <;> rfl) (by rw [len_take hk]; simp), scanA (fun y : den tLink => !(endsL y x.1 x.2.1 || endsL y x.2.2.1 x.2.2.2.1))]
    unfold lkP
    cases linkV t x <;> cases (t.2.take k).all (fun y => !(endsL y x.1 x.2.1 || endsL y x.2.2.1 x.2.2.2.1)) <;> rfl) (by simp), scanB (lkP t)]
  rw [s_in, obind_some]
  cases inR (t.1.length : Int) 1 8 <;> cases (t.1.zipIdx 0).all (fun z => asP t z.2 z.1) <;> cases (t.2.zipIdx 0).all (fun z => lkP t z.2 z.1) <;> rfl

def xOk (x : den tInbox) : Bool := inR x.1 0 7 && (inR x.2.1 0 7 && (!(x.1 == x.2.1) && ((x.2.2.1 == (x.2.2.2.length : Int)) && (decide (x.2.2.1 ≤ 20) && x.2.2.2.all fun m => decide (m.length ≤ 40)))))

theorem gt_le (a b : Int) : decide (a > b) = !decide (a ≤ b) := by rw [Bool.eq_iff_iff]; simp

theorem i_xOk {x : den tInbox} (h : x.2.2.2.length ≤ 68719476736) : i_ValidInbox x = some (xOk x) := by
  unfold i_ValidInbox xOk
  rw [loop_scan (l := x.2.2.2) (fun _ m => if decide (m.length ≤ 40) then none else some false) (by omega) (fun k m hi hd hw hx hk => by
    simp only [hd, hi, hw, cond_true, obind_some]
    by_cases hm : m.length ≤ 40
    · simp [hm, show ¬ ((m.length : Int) > 40) by omega]
    · simp [hm, show (m.length : Int) > 40 by omega]) (by simp), scanA (fun m : List Int => decide (m.length ≤ 40))]
  simp only [i_in, obind_some, bne, gt_le]
  cases inR x.1 0 7 <;> cases inR x.2.1 0 7 <;> cases x.1 == x.2.1 <;> cases x.2.2.1 == (x.2.2.2.length : Int) <;> cases decide (x.2.2.1 ≤ 20) <;> cases x.2.2.2.all (fun m => decide (m.length ≤ 40)) <;> rfl

theorem s_xOk {x : den tInbox} (h : x.2.2.2.length ≤ 68719476736) : s_ValidInbox x = some (xOk x) := by
  unfold s_ValidInbox xOk
  rw [loop_scan (l := x.2.2.2) (fun _ m => if decide (m.length ≤ 40) then none else some false) (by omega) (fun k m hi hd hw hx hk => by
    simp only [hd, hi, hw, cond_true, obind_some]
    by_cases hm : m.length ≤ 40
    · simp [hm, show ¬ ((m.length : Int) > 40) by omega]
    · simp [hm, show (m.length : Int) > 40 by omega]) (by simp), scanA (fun m : List Int => decide (m.length ≤ 40))]
  simp only [s_in, obind_some, bne]
  cases inR x.1 0 7 <;> cases inR x.2.1 0 7 <;> cases x.1 == x.2.1 <;> cases x.2.2.1 == (x.2.2.2.length : Int) <;> cases decide (x.2.2.1 ≤ 20) <;> cases x.2.2.2.all (fun m => decide (m.length ≤ 40)) <;> rfl

def atFrom (a b : Int) (x : den tInbox) : Bool := x.1 == a && x.2.1 == b

theorem scan_find {α : Type} (p : α → Bool) : ∀ (l : List α) (k : Nat), scanI (fun k x => if p x then some (k : Int) else none) k l = (l.findIdx? p).map (fun i => ((k + i : Nat) : Int))
  | [], _ => rfl
  | x :: xs, k => by
    simp only [scanI, List.findIdx?_cons]
    cases h : p x with
    | true => simp
    | false =>
      simp only [Bool.false_eq_true, if_false]
      rw [scan_find p xs (k + 1)]
      cases xs.findIdx? p with
      | none => rfl
      | some i => simp <;> omega

def findX (l : List (den tInbox)) (a b : Int) : Int := ((l.findIdx? (atFrom a b)).map (fun i => ((0 + i : Nat) : Int))).getD (-1)

theorem s_findX {l : List (den tInbox)} {a b : Int} (h : l.length ≤ 68719476736) : s_FindInbox l a b = some (findX l a b) := by
  unfold s_FindInbox findX
  rw [loop_scan (l := l) (fun k x => if atFrom a b x then some (k : Int) else none) (by omega) (fun k x hi hd hw hm hk => by
    simp only [hd, hi, hw, cond_true, obind_some]
    unfold atFrom
    cases x.1 == a <;> cases x.2.1 == b <;> rfl) (by simp), scan_find (atFrom a b)]
  cases l.findIdx? (atFrom a b) <;> rfl

theorem findX_iff {l : List (den tInbox)} {a b : Int} {k : Nat} : findX l a b = (k : Int) ↔ (∃ x, l[k]? = some x ∧ atFrom a b x = true) ∧ ∀ j, j < k → ∀ y, l[j]? = some y → atFrom a b y = false := by
  unfold findX
  cases h : l.findIdx? (atFrom a b) with
  | none =>
    have hn := List.findIdx?_eq_none_iff.1 h
    constructor
    · intro e; exfalso; revert e; simp only [Option.map_none, Option.getD_none]; omega
    · rintro ⟨⟨x, hx, hp⟩, _⟩
      have := hn x (List.mem_of_getElem? hx)
      rw [hp] at this; cases this
  | some i =>
    obtain ⟨hi, hp, hj⟩ := List.findIdx?_eq_some_iff_getElem.1 h
    simp only [Option.map_some, Option.getD_some, Nat.zero_add]
    constructor
    · intro e
      have e : i = k := by omega
      subst e
      refine ⟨⟨l[i], List.getElem?_eq_getElem hi, hp⟩, fun j hlt y hy => ?_⟩
      have h2 := hj j hlt
      have h3 : l[j]? = some l[j] := List.getElem?_eq_getElem (by omega)
      rw [h3] at hy; injection hy with hy; subst hy
      simpa using h2
    · rintro ⟨⟨x, hx, hp2⟩, hl⟩
      have hik : i = k := by
        rcases Nat.lt_trichotomy i k with c | c | c
        · have := hl i c l[i] (List.getElem?_eq_getElem hi); rw [hp] at this; cases this
        · exact c
        · have h2 := hj k c
          obtain ⟨hk, e⟩ := List.getElem?_eq_some_iff.1 hx
          rw [e, hp2] at h2; simp at h2
      rw [hik]

def flowA (w : den tNetwork) (k : Nat) (f : den tFlow) : Bool := match w.2.2.2.2.2.2.2.1[k]? with
  | some x => validF f && (asOk w.1 f.1 && (asOk w.1 f.2.1 && (xOk x && consist f x)))
  | none => false

def sameEnds (f g : den tFlow) : Bool := g.1 == f.1 && g.2.1 == f.2.1

def alone (w : den tNetwork) (k : Nat) (f : den tFlow) : Bool := (w.2.2.2.2.2.2.1.take k).all fun g => !sameEnds f g

def found (w : den tNetwork) (k : Nat) (f : den tFlow) : Bool := findX w.2.2.2.2.2.2.2.1 f.2.1 f.1 == (k : Int)

theorem flowA_at {w : den tNetwork} {k : Nat} {f : den tFlow} (h : flowA w k f = true) : ∃ x, w.2.2.2.2.2.2.2.1[k]? = some x ∧ x.1 = f.2.1 ∧ x.2.1 = f.1 := by
  unfold flowA at h
  cases hx : w.2.2.2.2.2.2.2.1[k]? with
  | none => rw [hx] at h; cases h
  | some x =>
    rw [hx] at h
    unfold consist at h
    simp only [Bool.and_eq_true, beq_iff_eq] at h
    exact ⟨x, rfl, h.2.2.2.2.1, h.2.2.2.2.2.1⟩

theorem alone_found {w : den tNetwork} (hA : ∀ k f, w.2.2.2.2.2.2.1[k]? = some f → flowA w k f = true) {k : Nat} {f : den tFlow} (hf : w.2.2.2.2.2.2.1[k]? = some f) : alone w k f = found w k f := by
  have hk := (List.getElem?_eq_some_iff.1 hf).1
  rw [Bool.eq_iff_iff]
  unfold alone found
  rw [List.all_eq_true, beq_iff_eq, findX_iff]
  constructor
  · intro h
    obtain ⟨x, hx, e1, e2⟩ := flowA_at (hA k f hf)
    refine ⟨⟨x, hx, by unfold atFrom; rw [e1, e2]; simp⟩, fun j hj y hy => ?_⟩
    have hg : w.2.2.2.2.2.2.1[j]? = some w.2.2.2.2.2.2.1[j] := List.getElem?_eq_getElem (by omega)
    obtain ⟨x2, hx2, d1, d2⟩ := flowA_at (hA j _ hg)
    rw [hx2] at hy; injection hy with hy; subst hy
    have hm : w.2.2.2.2.2.2.1[j] ∈ w.2.2.2.2.2.2.1.take k := List.mem_of_getElem? (i := j) (by rw [List.getElem?_take_of_lt hj]; exact hg)
    have := h _ hm
    unfold sameEnds at this
    unfold atFrom
    rw [d1, d2]
    revert this
    generalize (w.2.2.2.2.2.2.1[j].1 == f.1) = p
    generalize (w.2.2.2.2.2.2.1[j].2.1 == f.2.1) = q
    cases p <;> cases q <;> simp
  · rintro ⟨_, h⟩ g hg
    obtain ⟨j, hj⟩ := List.mem_iff_getElem?.1 hg
    obtain ⟨hj1, hj2⟩ := get_take hj
    obtain ⟨x2, hx2, d1, d2⟩ := flowA_at (hA j g hj1)
    have := h j hj2 x2 hx2
    unfold atFrom at this
    rw [d1, d2] at this
    unfold sameEnds
    revert this
    generalize (g.1 == f.1) = p
    generalize (g.2.1 == f.2.1) = q
    cases p <;> cases q <;> simp

theorem zip_iff {α : Type} (p : Nat → α → Bool) (l : List α) : (l.zipIdx 0).all (fun z => p z.2 z.1) = true ↔ ∀ k x, l[k]? = some x → p k x = true := by
  rw [List.all_eq_true]
  constructor
  · intro h k x hx
    exact h (x, k) (List.mem_zipIdx_iff_getElem?.2 (by simpa using hx))
  · rintro h ⟨x, k⟩ hz
    exact h k x (by simpa using List.mem_zipIdx_iff_getElem?.1 hz)

theorem flows_same (w : den tNetwork) : (w.2.2.2.2.2.2.1.zipIdx 0).all (fun z => flowA w z.2 z.1 && alone w z.2 z.1) = (w.2.2.2.2.2.2.1.zipIdx 0).all (fun z => flowA w z.2 z.1 && found w z.2 z.1) := by
  rw [Bool.eq_iff_iff, zip_iff (fun k f => flowA w k f && alone w k f), zip_iff (fun k f => flowA w k f && found w k f)]
  simp only [Bool.and_eq_true]
  constructor
  · intro h k f hf
    exact ⟨(h k f hf).1, by rw [← alone_found (fun k f hf => (h k f hf).1) hf]; exact (h k f hf).2⟩
  · intro h k f hf
    exact ⟨(h k f hf).1, by rw [alone_found (fun k f hf => (h k f hf).1) hf]; exact (h k f hf).2⟩

def deadP (l : List Int) (m : Nat) (k : Nat) (n : Int) : Bool := inR n 0 ((m : Int) - 1) && (decide (k = 0) || !decide ((l[k - 1]?).getD 0 ≥ n))

def netV (w : den tNetwork) : Bool :=
  topV w.1 && (inR w.2.2.2.1 0 1000000 && (validS w.2.2.1 w.2.2.2.1 && ((w.2.2.2.2.1.zipIdx 0).all (fun z => deadP w.2.2.2.2.1 w.1.2.length z.2 z.1) && (decide (w.2.2.2.2.2.1.length ≤ 150) && (decide (w.2.2.2.2.2.2.1.length ≤ 4) && (decide (w.2.2.2.2.2.2.2.1.length = w.2.2.2.2.2.2.1.length) && (!decide (w.2.2.2.2.2.2.2.2 < 0) &&
    (w.2.2.2.2.2.1.all (fun x => asOk w.1 x.1) && (w.2.2.2.2.2.2.1.zipIdx 0).all (fun z => flowA w z.2 z.1 && alone w z.2 z.1)))))))))

theorem gt_nat (n k : Nat) : decide ((n : Int) > (k : Int)) = !decide (n ≤ k) := by rw [Bool.eq_iff_iff]; simp

theorem ne_nat (a b : Nat) : ((a : Int) != (b : Int)) = !decide (a = b) := by rw [Bool.eq_iff_iff]; simp; omega

theorem dead_step {l : List Int} {k : Nat} (hk : k < l.length) (h0 : 0 < k) (hl : l.length ≤ 68719476736) : idx l (wr ((k : Int) - 1)) = some ((l[k - 1]?).getD 0) := by
  have e : wr ((k : Int) - 1) = ((k - 1 : Nat) : Int) := by
    have : wr ((k : Int) - 1) = (k : Int) - 1 := wrap_in (by omega) (by omega)
    rw [this]; omega
  rw [e, idx_nat, List.getElem?_eq_getElem (show k - 1 < l.length by omega)]
  rfl

theorem i_netV {w : den tNetwork} (h : tot tNetwork w ≤ 1048576) : i_ValidNetwork w = some (netV w) := by
  have sm : SmB 68719476736 tNetwork w := (sm_of_tot h).mono (by decide)
  have sms : SmB 1048576 tNetwork w := sm_of_tot h
  have lT := sm.1.1.1
  have lL := sm.1.2.1
  have lD := sms.2.2.2.2.1.1
  have lQ := sms.2.2.2.2.2.1.1
  have lF := sms.2.2.2.2.2.2.1.1
  have lX := sms.2.2.2.2.2.2.2.1.1
  have eT := i_topV sm.1
  have eS := i_validS (now := w.2.2.2.1) sms.2.2.1.2.1.1 sms.2.2.1.2.2.1
  have q1 : decide ((w.2.2.2.2.2.1.length : Int) > 150) = !decide (w.2.2.2.2.2.1.length ≤ 150) := gt_nat _ 150
  have q2 : decide ((w.2.2.2.2.2.2.1.length : Int) > 4) = !decide (w.2.2.2.2.2.2.1.length ≤ 4) := gt_nat _ 4
  unfold i_ValidNetwork netV
  rw [q1, q2, ne_nat]
  simp only [peta, eT, i_in, eS, obind_some]
  by_cases hX : w.2.2.2.2.2.2.2.1.length = w.2.2.2.2.2.2.1.length
  · rw [loop_scan (l := w.2.2.2.2.1) (fun k n => if deadP w.2.2.2.2.1 w.1.2.length k n then none else some false) (by omega) (fun k n hi hd hw hm hk => by
      simp only [hd, hi, hw, cond_true, obind_some, i_in, wr_less lL]
      unfold deadP
      cases inR n 0 ((w.1.2.length : Int) - 1)
      · rfl
      · by_cases h0 : k = 0
        · subst h0; rfl
        · have e1 : decide ((k : Int) > 0) = true := by simp; omega
          rw [e1, dead_step hk (by omega) (by omega), decide_eq_false h0]
          simp only [Bool.not_true, cond_false, cond_true, obind_some, Bool.false_or, Bool.true_and]
          cases decide ((w.2.2.2.2.1[k - 1]?).getD 0 ≥ n) <;> rfl) (by simp), scanB (deadP w.2.2.2.2.1 w.1.2.length)]
    rw [loop_scan (l := w.2.2.2.2.2.1) (fun _ x => if asOk w.1 x.1 then none else some false) (by omega) (fun k x hi hd hw hm hk => by
      simp only [hd, hi, hw, cond_true, obind_some, i_asOk lT]
      cases asOk w.1 x.1 <;> rfl) (by simp), scanA (fun x : den tPacketInFlight => asOk w.1 x.1)]
    rw [loop_scan (l := w.2.2.2.2.2.2.1) (fun k f => if flowA w k f && alone w k f then none else some false) (by omega) (fun k f hi hd hw hm hk => by
      have hx : w.2.2.2.2.2.2.2.1[k]? = some w.2.2.2.2.2.2.2.1[k] := List.getElem?_eq_getElem (by omega)
      have hix : idx w.2.2.2.2.2.2.2.1 (k : Int) = some w.2.2.2.2.2.2.2.1[k] := by rw [idx_nat]; exact hx
      have fs := sm.2.2.2.2.2.2.1.2 f hm
      have xs := (sm.2.2.2.2.2.2.2.1.2 _ (List.mem_of_getElem? hx)).2.2.2.1
      simp only [hd, hi, cond_true, obind_some, i_asOk lT, i_validF fs, hix, i_xOk xs, i_consist fs.2.2.2.2.1.1 xs, slOk_take hk, cut_take, hw]
      rw [loop_scan (l := w.2.2.2.2.2.2.1.take k) (fun _ g => if !sameEnds f g then none else some (Sum.inr (Sum.inr false))) (by rw [len_take hk]; omega) (fun j g hi hd hw hm hk => by
        simp only [hd, hi, hw, cond_true, obind_some]
        unfold sameEnds
        cases g.1 == f.1 <;> cases g.2.1 == f.2.1 <;> rfl) (by simp), scanA (fun g : den tFlow => !sameEnds f g)]
      unfold flowA alone
      rw [hx]
      simp only
      cases validF f <;> simp only [Bool.not_true, Bool.not_false, cond_true, cond_false, obind_some, Bool.false_and, Bool.true_and, Bool.false_eq_true, if_false]
      · rfl
      cases asOk w.1 f.1 <;> simp only [Bool.not_true, Bool.not_false, cond_true, cond_false, obind_some, Bool.false_and, Bool.true_and, Bool.false_eq_true, if_false]
      · rfl
      cases asOk w.1 f.2.1 <;> simp only [Bool.not_true, Bool.not_false, cond_true, cond_false, obind_some, Bool.false_and, Bool.true_and, Bool.false_eq_true, if_false]
      · rfl
      cases xOk w.2.2.2.2.2.2.2.1[k] <;> simp only [Bool.not_true, Bool.not_false, cond_true, cond_false, obind_some, Bool.false_and, Bool.true_and, Bool.false_eq_true, if_false]
      · rfl
      cases consist f w.2.2.2.2.2.2.2.1[k] <;> cases (w.2.2.2.2.2.2.1.take k).all (fun g => !sameEnds f g) <;> rfl) (by simp), scanB (fun k f => flowA w k f && alone w k f)]
    cases topV w.1 <;> simp only [Bool.not_true, Bool.not_false, cond_true, cond_false, obind_some, Bool.false_and, Bool.true_and]
    cases inR w.2.2.2.1 0 1000000 <;> simp only [Bool.not_true, Bool.not_false, cond_true, cond_false, obind_some, Bool.false_and, Bool.true_and]
    cases validS w.2.2.1 w.2.2.2.1 <;> simp only [Bool.not_true, Bool.not_false, cond_true, cond_false, obind_some, Bool.false_and, Bool.true_and]
    cases (w.2.2.2.2.1.zipIdx 0).all (fun z => deadP w.2.2.2.2.1 w.1.2.length z.2 z.1) <;> cases decide (w.2.2.2.2.2.1.length ≤ 150) <;> cases decide (w.2.2.2.2.2.2.1.length ≤ 4) <;> cases decide (w.2.2.2.2.2.2.2.1.length = w.2.2.2.2.2.2.1.length) <;> cases decide (w.2.2.2.2.2.2.2.2 < 0) <;> cases w.2.2.2.2.2.1.all (fun x => asOk w.1 x.1) <;> cases (w.2.2.2.2.2.2.1.zipIdx 0).all (fun z => flowA w z.2 z.1 && alone w z.2 z.1) <;> rfl
  · have e : decide (w.2.2.2.2.2.2.2.1.length = w.2.2.2.2.2.2.1.length) = false := by simpa using hX
    rw [e]
    cases topV w.1
    · rfl
    · cases inR w.2.2.2.1 0 1000000
      · rfl
      · cases validS w.2.2.1 w.2.2.2.1
        · rfl
        · cases decide (w.2.2.2.2.2.1.length ≤ 150) <;> cases decide (w.2.2.2.2.2.2.1.length ≤ 4) <;> simp

theorem s_deadP {w : den tNetwork} (lD : w.2.2.2.2.1.length ≤ 1048576) (lL : w.1.2.length ≤ 68719476736) : s_l37Dead w = some ((w.2.2.2.2.1.zipIdx 0).all (fun z => deadP w.2.2.2.2.1 w.1.2.length z.2 z.1)) := by
  unfold s_l37Dead
  rw [loop_scan (l := w.2.2.2.2.1) (fun k n => if deadP w.2.2.2.2.1 w.1.2.length k n then none else some false) (by omega) (fun k n hi hd hw hm hk => by
      simp only [hd, hi, hw, cond_true, obind_some, s_in, wr_less lL]
      unfold deadP
      cases inR n 0 ((w.1.2.length : Int) - 1)
      · rfl
      · by_cases h0 : k = 0
        · subst h0; rfl
        · have e1 : decide ((k : Int) > 0) = true := by simp; omega
          rw [e1, dead_step hk (by omega) (by omega), decide_eq_false h0]
          simp only [Bool.not_true, cond_false, cond_true, obind_some, Bool.false_or, Bool.true_and]
          cases decide ((w.2.2.2.2.1[k - 1]?).getD 0 ≥ n) <;> rfl) (by simp), scanB (deadP w.2.2.2.2.1 w.1.2.length)]
  cases (w.2.2.2.2.1.zipIdx 0).all (fun z => deadP w.2.2.2.2.1 w.1.2.length z.2 z.1) <;> rfl

theorem s_netV {w : den tNetwork} (h : tot tNetwork w ≤ 1048576) : s_ValidNetwork w = some (netV w) := by
  have sm : SmB 68719476736 tNetwork w := (sm_of_tot h).mono (by decide)
  have sms : SmB 1048576 tNetwork w := sm_of_tot h
  have lT := sm.1.1.1
  have lL := sm.1.2.1
  have lD := sms.2.2.2.2.1.1
  have lQ := sms.2.2.2.2.2.1.1
  have lF := sms.2.2.2.2.2.2.1.1
  have lX := sms.2.2.2.2.2.2.2.1.1
  have eT := s_topV sm.1
  have eS := s_validS (now := w.2.2.2.1) sms.2.2.1.2.1.1 sms.2.2.1.2.2.1
  have q1 : decide ((w.2.2.2.2.2.1.length : Int) > 150) = !decide (w.2.2.2.2.2.1.length ≤ 150) := gt_nat _ 150
  have q2 : decide ((w.2.2.2.2.2.2.1.length : Int) > 4) = !decide (w.2.2.2.2.2.2.1.length ≤ 4) := gt_nat _ 4
  unfold s_ValidNetwork netV
  rw [q1, q2, ne_nat, flows_same]
  simp only [peta, eT, s_in, eS, s_deadP lD lL, obind_some]
  by_cases hX : w.2.2.2.2.2.2.2.1.length = w.2.2.2.2.2.2.1.length
  · rw [loop_scan (l := w.2.2.2.2.2.1) (fun _ x => if asOk w.1 x.1 then none else some false) (by omega) (fun k x hi hd hw hm hk => by
      simp only [hd, hi, hw, cond_true, obind_some, s_asOk lT]
      cases asOk w.1 x.1 <;> rfl) (by simp), scanA (fun x : den tPacketInFlight => asOk w.1 x.1)]
    rw [loop_scan (l := w.2.2.2.2.2.2.1) (fun k f => if flowA w k f && found w k f then none else some false) (by omega) (fun k f hi hd hw hm hk => by
      have hx : w.2.2.2.2.2.2.2.1[k]? = some w.2.2.2.2.2.2.2.1[k] := List.getElem?_eq_getElem (by omega)
      have hix : idx w.2.2.2.2.2.2.2.1 (k : Int) = some w.2.2.2.2.2.2.2.1[k] := by rw [idx_nat]; exact hx
      have fs := sm.2.2.2.2.2.2.1.2 f hm
      have xs := (sm.2.2.2.2.2.2.2.1.2 _ (List.mem_of_getElem? hx)).2.2.2.1
      simp only [hd, hi, cond_true, obind_some, s_asOk lT, s_validF fs, hix, s_xOk xs, s_consist fs.2.2.2.2.1.1 xs, s_findX (l := w.2.2.2.2.2.2.2.1) (by omega), bne, hw]
      unfold flowA found
      rw [hx]
      simp only
      cases validF f <;> simp only [Bool.not_true, Bool.not_false, cond_true, cond_false, obind_some, Bool.false_and, Bool.true_and, Bool.false_eq_true, if_false]
      cases asOk w.1 f.1 <;> simp only [Bool.not_true, Bool.not_false, cond_true, cond_false, obind_some, Bool.false_and, Bool.true_and, Bool.false_eq_true, if_false]
      cases asOk w.1 f.2.1 <;> simp only [Bool.not_true, Bool.not_false, cond_true, cond_false, obind_some, Bool.false_and, Bool.true_and, Bool.false_eq_true, if_false]
      cases xOk w.2.2.2.2.2.2.2.1[k] <;> simp only [Bool.not_true, Bool.not_false, cond_true, cond_false, obind_some, Bool.false_and, Bool.true_and, Bool.false_eq_true, if_false]
      cases consist f w.2.2.2.2.2.2.2.1[k] <;> cases (findX w.2.2.2.2.2.2.2.1 f.2.1 f.1 == (k : Int)) <;> rfl) (by simp), scanB (fun k f => flowA w k f && found w k f)]
    cases topV w.1 <;> simp only [Bool.not_true, Bool.not_false, cond_true, cond_false, obind_some, Bool.false_and, Bool.true_and]
    cases inR w.2.2.2.1 0 1000000 <;> simp only [Bool.not_true, Bool.not_false, cond_true, cond_false, obind_some, Bool.false_and, Bool.true_and]
    cases validS w.2.2.1 w.2.2.2.1 <;> simp only [Bool.not_true, Bool.not_false, cond_true, cond_false, obind_some, Bool.false_and, Bool.true_and]
    cases (w.2.2.2.2.1.zipIdx 0).all (fun z => deadP w.2.2.2.2.1 w.1.2.length z.2 z.1) <;> cases decide (w.2.2.2.2.2.1.length ≤ 150) <;> cases decide (w.2.2.2.2.2.2.1.length ≤ 4) <;> cases decide (w.2.2.2.2.2.2.2.1.length = w.2.2.2.2.2.2.1.length) <;> cases decide (w.2.2.2.2.2.2.2.2 < 0) <;> cases w.2.2.2.2.2.1.all (fun x => asOk w.1 x.1) <;> cases (w.2.2.2.2.2.2.1.zipIdx 0).all (fun z => flowA w z.2 z.1 && found w z.2 z.1) <;> rfl
  · have e : decide (w.2.2.2.2.2.2.2.1.length = w.2.2.2.2.2.2.1.length) = false := by simpa using hX
    rw [e]
    cases topV w.1
    · rfl
    · cases inR w.2.2.2.1 0 1000000
      · rfl
      · cases validS w.2.2.1 w.2.2.2.1
        · rfl
        · cases (w.2.2.2.2.1.zipIdx 0).all (fun z => deadP w.2.2.2.2.1 w.1.2.length z.2 z.1) <;> cases decide (w.2.2.2.2.2.1.length ≤ 150) <;> cases decide (w.2.2.2.2.2.2.1.length ≤ 4) <;> simp

end Go.Proofs.YtmnjhbhppkploaaGreat
