/-
  Facts and plain laws: what the functions compute, in plain words. Conditions: as each says.
-/
import Derived.Test.YtejfajiolkojlaaGreatT0XAllDelivered
set_option linter.unusedVariables false
set_option linter.unusedSimpArgs false
set_option maxRecDepth 100000
namespace Go.Proofs.YtejfajiolkojlaaGreat
open Go.Ab Go.V
theorem sz_ASS {l : den (.sl tAS)} {left : Int} (w : Wf (.sl tAS) l) (h0 : 0 ≤ left) (h1 : left ≤ 1048576) : SzT (l_szASS l left) left (tot (.sl tAS) l) := szF_ok (t := tAS) rfl w.1 h0 h1

theorem sz_LinkS {l : den (.sl tLink)} {left : Int} (w : Wf (.sl tLink) l) (h0 : 0 ≤ left) (h1 : left ≤ 1048576) : SzT (l_szLinkS l left) left (tot (.sl tLink) l) := szF_ok (t := tLink) rfl w.1 h0 h1

theorem sz_Topology {x : den tTopology} {left : Int} (w : Wf tTopology x) (h0 : 0 ≤ left) (h1 : left ≤ 1048576) : SzT (l_szTopology x left) left (tot tTopology x) := SzT.eq (sz_field (sz_ASS w.1 h0 h1) h1 fun r0 a0 b0 => sz_field (sz_LinkS w.2 a0 b0) b0 fun r1 a1 b1 => sz_done a1) (by simp [tot, tot_flat] <;> omega)

theorem sz_HopS {l : den (.sl tHop)} {left : Int} (w : Wf (.sl tHop) l) (h0 : 0 ≤ left) (h1 : left ≤ 1048576) : SzT (l_szHopS l left) left (tot (.sl tHop) l) := szF_ok (t := tHop) rfl w.1 h0 h1

theorem sz_Segment {x : den tSegment} {left : Int} (w : Wf tSegment x) (h0 : 0 ≤ left) (h1 : left ≤ 1048576) : SzT (l_szSegment x left) left (tot tSegment x) := SzT.eq (sz_field (sz_HopS w.2.2 h0 h1) h1 fun r0 a0 b0 => sz_done a0) (by simp [tot, tot_flat])

theorem sz_SegmentS {l : den (.sl tSegment)} {left : Int} (w : Wf (.sl tSegment) l) (h0 : 0 ≤ left) (h1 : left ≤ 1048576) : SzT (l_szSegmentS l left) left (tot (.sl tSegment) l) := szL_ok (t := tSegment) (szE := l_szSegment) w.1 h0 h1 fun x hx k k0 k1 => sz_Segment (w.2 x hx) k0 k1

theorem sz_SegmentDatabase {x : den tSegmentDatabase} {left : Int} (w : Wf tSegmentDatabase x) (h0 : 0 ≤ left) (h1 : left ≤ 1048576) : SzT (l_szSegmentDatabase x left) left (tot tSegmentDatabase x) := SzT.eq (sz_field (sz_SegmentS w.1 h0 h1) h1 fun r0 a0 b0 => sz_field (sz_SegmentS w.2 a0 b0) b0 fun r1 a1 b1 => sz_done a1) (by simp [tot, tot_flat] <;> omega)

theorem sz_ReservationS {l : den (.sl tReservation)} {left : Int} (w : Wf (.sl tReservation) l) (h0 : 0 ≤ left) (h1 : left ≤ 1048576) : SzT (l_szReservationS l left) left (tot (.sl tReservation) l) := szF_ok (t := tReservation) rfl w.1 h0 h1

theorem sz_UsageS {l : den (.sl tUsage)} {left : Int} (w : Wf (.sl tUsage) l) (h0 : 0 ≤ left) (h1 : left ≤ 1048576) : SzT (l_szUsageS l left) left (tot (.sl tUsage) l) := szF_ok (t := tUsage) rfl w.1 h0 h1

theorem sz_Scheduler {x : den tScheduler} {left : Int} (w : Wf tScheduler x) (h0 : 0 ≤ left) (h1 : left ≤ 1048576) : SzT (l_szScheduler x left) left (tot tScheduler x) := SzT.eq (sz_field (sz_ReservationS w.2.1 h0 h1) h1 fun r0 a0 b0 => sz_field (sz_UsageS w.2.2 a0 b0) b0 fun r1 a1 b1 => sz_done a1) (by simp [tot, tot_flat] <;> omega)

theorem sz_IntS {l : den (.sl ti)} {left : Int} (w : Wf (.sl ti) l) (h0 : 0 ≤ left) (h1 : left ≤ 1048576) : SzT (l_szIntS l left) left (tot (.sl ti) l) := szF_ok (t := ti) rfl w.1 h0 h1

theorem sz_PathPart {x : den tPathPart} {left : Int} (w : Wf tPathPart x) (h0 : 0 ≤ left) (h1 : left ≤ 1048576) : SzT (l_szPathPart x left) left (tot tPathPart x) := SzT.eq (sz_field (sz_HopS w.2.2.2 h0 h1) h1 fun r0 a0 b0 => sz_done a0) (by simp [tot, tot_flat])

theorem sz_PathPartS {l : den (.sl tPathPart)} {left : Int} (w : Wf (.sl tPathPart) l) (h0 : 0 ≤ left) (h1 : left ≤ 1048576) : SzT (l_szPathPartS l left) left (tot (.sl tPathPart) l) := szL_ok (t := tPathPart) (szE := l_szPathPart) w.1 h0 h1 fun x hx k k0 k1 => sz_PathPart (w.2 x hx) k0 k1

theorem sz_Path {x : den tPath} {left : Int} (w : Wf tPath x) (h0 : 0 ≤ left) (h1 : left ≤ 1048576) : SzT (l_szPath x left) left (tot tPath x) := SzT.eq (sz_field (sz_PathPartS w h0 h1) h1 fun r0 a0 b0 => sz_done a0) (by simp [tot, tot_flat])

theorem sz_ByteS {l : den (.sl tb)} {left : Int} (w : Wf (.sl tb) l) (h0 : 0 ≤ left) (h1 : left ≤ 1048576) : SzT (l_szByteS l left) left (tot (.sl tb) l) := szF_ok (t := tb) rfl w.1 h0 h1

theorem sz_Packet {x : den tPacket} {left : Int} (w : Wf tPacket x) (h0 : 0 ≤ left) (h1 : left ≤ 1048576) : SzT (l_szPacket x left) left (tot tPacket x) := SzT.eq (sz_field (sz_Path w.2.2.2.1 h0 h1) h1 fun r0 a0 b0 => sz_field (sz_ByteS w.2.2.2.2.2.2.2.2.2 a0 b0) b0 fun r1 a1 b1 => sz_done a1) (by simp [tot, tot_flat] <;> omega)

theorem sz_PacketInFlight {x : den tPacketInFlight} {left : Int} (w : Wf tPacketInFlight x) (h0 : 0 ≤ left) (h1 : left ≤ 1048576) : SzT (l_szPacketInFlight x left) left (tot tPacketInFlight x) := SzT.eq (sz_field (sz_Packet w.2.2 h0 h1) h1 fun r0 a0 b0 => sz_done a0) (by simp [tot, tot_flat])

theorem sz_PacketInFlightS {l : den (.sl tPacketInFlight)} {left : Int} (w : Wf (.sl tPacketInFlight) l) (h0 : 0 ≤ left) (h1 : left ≤ 1048576) : SzT (l_szPacketInFlightS l left) left (tot (.sl tPacketInFlight) l) := szL_ok (t := tPacketInFlight) (szE := l_szPacketInFlight) w.1 h0 h1 fun x hx k k0 k1 => sz_PacketInFlight (w.2 x hx) k0 k1

theorem sz_Message {x : den tMessage} {left : Int} (w : Wf tMessage x) (h0 : 0 ≤ left) (h1 : left ≤ 1048576) : SzT (l_szMessage x left) left (tot tMessage x) := SzT.eq (sz_field (sz_ByteS w h0 h1) h1 fun r0 a0 b0 => sz_done a0) (by simp [tot, tot_flat])

theorem sz_MessageS {l : den (.sl tMessage)} {left : Int} (w : Wf (.sl tMessage) l) (h0 : 0 ≤ left) (h1 : left ≤ 1048576) : SzT (l_szMessageS l left) left (tot (.sl tMessage) l) := szL_ok (t := tMessage) (szE := l_szMessage) w.1 h0 h1 fun x hx k k0 k1 => sz_Message (w.2 x hx) k0 k1

theorem sz_PathS {l : den (.sl tPath)} {left : Int} (w : Wf (.sl tPath) l) (h0 : 0 ≤ left) (h1 : left ≤ 1048576) : SzT (l_szPathS l left) left (tot (.sl tPath) l) := szL_ok (t := tPath) (szE := l_szPath) w.1 h0 h1 fun x hx k k0 k1 => sz_Path (w.2 x hx) k0 k1

theorem sz_RevocationS {l : den (.sl tRevocation)} {left : Int} (w : Wf (.sl tRevocation) l) (h0 : 0 ≤ left) (h1 : left ≤ 1048576) : SzT (l_szRevocationS l left) left (tot (.sl tRevocation) l) := szF_ok (t := tRevocation) rfl w.1 h0 h1

theorem sz_Flow {x : den tFlow} {left : Int} (w : Wf tFlow x) (h0 : 0 ≤ left) (h1 : left ≤ 1048576) : SzT (l_szFlow x left) left (tot tFlow x) := SzT.eq (sz_field (sz_MessageS w.2.2.2.2.1 h0 h1) h1 fun r0 a0 b0 => sz_field (sz_PathS w.2.2.2.2.2.1 a0 b0) b0 fun r1 a1 b1 => sz_field (sz_RevocationS w.2.2.2.2.2.2.2.2 a1 b1) b1 fun r2 a2 b2 => sz_done a2) (by simp [tot, tot_flat] <;> omega)

theorem sz_FlowS {l : den (.sl tFlow)} {left : Int} (w : Wf (.sl tFlow) l) (h0 : 0 ≤ left) (h1 : left ≤ 1048576) : SzT (l_szFlowS l left) left (tot (.sl tFlow) l) := szL_ok (t := tFlow) (szE := l_szFlow) w.1 h0 h1 fun x hx k k0 k1 => sz_Flow (w.2 x hx) k0 k1

theorem sz_Inbox {x : den tInbox} {left : Int} (w : Wf tInbox x) (h0 : 0 ≤ left) (h1 : left ≤ 1048576) : SzT (l_szInbox x left) left (tot tInbox x) := SzT.eq (sz_field (sz_MessageS w.2.2.2 h0 h1) h1 fun r0 a0 b0 => sz_done a0) (by simp [tot, tot_flat])

theorem sz_InboxS {l : den (.sl tInbox)} {left : Int} (w : Wf (.sl tInbox) l) (h0 : 0 ≤ left) (h1 : left ≤ 1048576) : SzT (l_szInboxS l left) left (tot (.sl tInbox) l) := szL_ok (t := tInbox) (szE := l_szInbox) w.1 h0 h1 fun x hx k k0 k1 => sz_Inbox (w.2 x hx) k0 k1

theorem sz_Network {x : den tNetwork} {left : Int} (w : Wf tNetwork x) (h0 : 0 ≤ left) (h1 : left ≤ 1048576) : SzT (l_szNetwork x left) left (tot tNetwork x) := SzT.eq (sz_field (sz_Topology w.1 h0 h1) h1 fun r0 a0 b0 => sz_field (sz_SegmentDatabase w.2.1 a0 b0) b0 fun r1 a1 b1 => sz_field (sz_Scheduler w.2.2.1 a1 b1) b1 fun r2 a2 b2 => sz_field (sz_IntS w.2.2.2.2.1 a2 b2) b2 fun r3 a3 b3 => sz_field (sz_PacketInFlightS w.2.2.2.2.2.1 a3 b3) b3 fun r4 a4 b4 => sz_field (sz_FlowS w.2.2.2.2.2.2.1 a4 b4) b4 fun r5 a5 b5 => sz_field (sz_InboxS w.2.2.2.2.2.2.2.1 a5 b5) b5 fun r6 a6 b6 => sz_done a6) (by simp [tot, tot_flat] <;> omega)

theorem to_AS {x : den tAS} (h : Sm tAS x) : l_toAS x = some x := by
  unfold l_toAS
  rfl

theorem to_ASS {l : den (.sl tAS)} (h : Sm (.sl tAS) l) : l_toASS l = some l := by
  have : l_toASS l = some (l.map id) := toL_eq (toE := l_toAS) (g := id) h.1 (by decide) fun x hx => to_AS (h.2 x hx)
  simpa using this

theorem to_Link {x : den tLink} (h : Sm tLink x) : l_toLink x = some x := by
  unfold l_toLink
  rfl

theorem to_LinkS {l : den (.sl tLink)} (h : Sm (.sl tLink) l) : l_toLinkS l = some l := by
  have : l_toLinkS l = some (l.map id) := toL_eq (toE := l_toLink) (g := id) h.1 (by decide) fun x hx => to_Link (h.2 x hx)
  simpa using this

theorem to_Topology {x : den tTopology} (h : Sm tTopology x) : l_toTopology x = some x := by
  unfold l_toTopology
  simp [to_ASS h.1, to_LinkS h.2]

theorem to_Hop {x : den tHop} (h : Sm tHop x) : l_toHop x = some x := by
  unfold l_toHop
  rfl

theorem to_HopS {l : den (.sl tHop)} (h : Sm (.sl tHop) l) : l_toHopS l = some l := by
  have : l_toHopS l = some (l.map id) := toL_eq (toE := l_toHop) (g := id) h.1 (by decide) fun x hx => to_Hop (h.2 x hx)
  simpa using this

theorem to_Segment {x : den tSegment} (h : Sm tSegment x) : l_toSegment x = some x := by
  unfold l_toSegment
  simp [to_HopS h.2.2]

theorem to_SegmentS {l : den (.sl tSegment)} (h : Sm (.sl tSegment) l) : l_toSegmentS l = some l := by
  have : l_toSegmentS l = some (l.map id) := toL_eq (toE := l_toSegment) (g := id) h.1 (by decide) fun x hx => to_Segment (h.2 x hx)
  simpa using this

theorem to_SegmentDatabase {x : den tSegmentDatabase} (h : Sm tSegmentDatabase x) : l_toSegmentDatabase x = some x := by
  unfold l_toSegmentDatabase
  simp [to_SegmentS h.1, to_SegmentS h.2]

theorem to_Reservation {x : den tReservation} (h : Sm tReservation x) : l_toReservation x = some x := by
  unfold l_toReservation
  rfl

theorem to_ReservationS {l : den (.sl tReservation)} (h : Sm (.sl tReservation) l) : l_toReservationS l = some l := by
  have : l_toReservationS l = some (l.map id) := toL_eq (toE := l_toReservation) (g := id) h.1 (by decide) fun x hx => to_Reservation (h.2 x hx)
  simpa using this

theorem to_Usage {x : den tUsage} (h : Sm tUsage x) : l_toUsage x = some x := by
  unfold l_toUsage
  rfl

theorem to_UsageS {l : den (.sl tUsage)} (h : Sm (.sl tUsage) l) : l_toUsageS l = some l := by
  have : l_toUsageS l = some (l.map id) := toL_eq (toE := l_toUsage) (g := id) h.1 (by decide) fun x hx => to_Usage (h.2 x hx)
  simpa using this

theorem to_Scheduler {x : den tScheduler} (h : Sm tScheduler x) : l_toScheduler x = some x := by
  unfold l_toScheduler
  simp [to_ReservationS h.2.1, to_UsageS h.2.2]

theorem to_IntS {l : den (.sl ti)} (h : Sm (.sl ti) l) : l_toIntS l = some l := by
  have : l_toIntS l = some (l.map id) := toL_eq (toE := some) (g := id) h.1 (by decide) fun x hx => rfl
  simpa using this

theorem to_PathPart {x : den tPathPart} (h : Sm tPathPart x) : l_toPathPart x = some x := by
  unfold l_toPathPart
  simp [to_HopS h.2.2.2]

theorem to_PathPartS {l : den (.sl tPathPart)} (h : Sm (.sl tPathPart) l) : l_toPathPartS l = some l := by
  have : l_toPathPartS l = some (l.map id) := toL_eq (toE := l_toPathPart) (g := id) h.1 (by decide) fun x hx => to_PathPart (h.2 x hx)
  simpa using this

theorem to_Path {x : den tPath} (h : Sm tPath x) : l_toPath x = some x := by
  unfold l_toPath
  simp [to_PathPartS h]

theorem to_ByteS {l : den (.sl tb)} (h : Sm (.sl tb) l) : l_toByteS l = some l := by
  have : l_toByteS l = some (l.map id) := toL_eq (toE := some) (g := id) h.1 (by decide) fun x hx => rfl
  simpa using this

theorem to_Packet {x : den tPacket} (h : Sm tPacket x) : l_toPacket x = some (x.1, x.2.1, x.2.2.1, x.2.2.2.2.1, x.2.2.2.2.2.1, x.2.2.2.2.2.2.1, x.2.2.2.2.2.2.2.1, x.2.2.2.2.2.2.2.2.1, x.2.2.2.1, x.2.2.2.2.2.2.2.2.2) := by
  unfold l_toPacket
  simp only [to_Path h.2.2.2.1, to_ByteS h.2.2.2.2.2.2.2.2.2, obind_some, peta]

theorem to_PacketInFlight {x : den tPacketInFlight} (h : Sm tPacketInFlight x) : l_toPacketInFlight x = some (x.1, x.2.1, x.2.2.1, x.2.2.2.1, x.2.2.2.2.1, x.2.2.2.2.2.2.1, x.2.2.2.2.2.2.2.1, x.2.2.2.2.2.2.2.2.1, x.2.2.2.2.2.2.2.2.2.1, x.2.2.2.2.2.2.2.2.2.2.1, x.2.2.2.2.2.1, x.2.2.2.2.2.2.2.2.2.2.2) := by
  unfold l_toPacketInFlight
  simp only [to_Packet h.2.2, obind_some, peta]

theorem to_PacketInFlightS {l : den (.sl tPacketInFlight)} (h : Sm (.sl tPacketInFlight) l) : l_toPacketInFlightS l = some l := by
  unfold l_toPacketInFlightS
  exact toL_run' h.1 (by decide) (fun k L x hi hm h1 h2 h3 h4 hw => by simp only [h1, h2, h3, h4, hi, to_PacketInFlight (h.2 x hm), obind_some, cond_true, Int.toNat_natCast, hw, peta]) (fun L => by simp)

theorem to_Message {x : den tMessage} (h : Sm tMessage x) : l_toMessage x = some x := by
  unfold l_toMessage
  simp [to_ByteS h]

theorem to_MessageS {l : den (.sl tMessage)} (h : Sm (.sl tMessage) l) : l_toMessageS l = some l := by
  have : l_toMessageS l = some (l.map id) := toL_eq (toE := l_toMessage) (g := id) h.1 (by decide) fun x hx => to_Message (h.2 x hx)
  simpa using this

theorem to_PathS {l : den (.sl tPath)} (h : Sm (.sl tPath) l) : l_toPathS l = some l := by
  have : l_toPathS l = some (l.map id) := toL_eq (toE := l_toPath) (g := id) h.1 (by decide) fun x hx => to_Path (h.2 x hx)
  simpa using this

theorem to_Revocation {x : den tRevocation} (h : Sm tRevocation x) : l_toRevocation x = some x := by
  unfold l_toRevocation
  rfl

theorem to_RevocationS {l : den (.sl tRevocation)} (h : Sm (.sl tRevocation) l) : l_toRevocationS l = some l := by
  have : l_toRevocationS l = some (l.map id) := toL_eq (toE := l_toRevocation) (g := id) h.1 (by decide) fun x hx => to_Revocation (h.2 x hx)
  simpa using this

theorem to_Flow {x : den tFlow} (h : Sm tFlow x) : l_toFlow x = some (x.1, x.2.1, x.2.2.1, x.2.2.2.1, x.2.2.2.2.2.2.1, x.2.2.2.2.2.2.2.1, x.2.2.2.2.1, x.2.2.2.2.2.1, x.2.2.2.2.2.2.2.2) := by
  unfold l_toFlow
  simp only [to_MessageS h.2.2.2.2.1, to_PathS h.2.2.2.2.2.1, to_RevocationS h.2.2.2.2.2.2.2.2, obind_some, peta]

theorem to_FlowS {l : den (.sl tFlow)} (h : Sm (.sl tFlow) l) : l_toFlowS l = some l := by
  unfold l_toFlowS
  exact toL_run h.1 (by decide) (fun k L x hi hm h1 h2 h3 h4 hw => by simp only [h1, h2, h3, h4, hi, to_Flow (h.2 x hm), obind_some, cond_true, Int.toNat_natCast, hw, peta]) (fun L => by simp)

theorem to_Inbox {x : den tInbox} (h : Sm tInbox x) : l_toInbox x = some x := by
  unfold l_toInbox
  simp [to_MessageS h.2.2.2]

theorem to_InboxS {l : den (.sl tInbox)} (h : Sm (.sl tInbox) l) : l_toInboxS l = some l := by
  have : l_toInboxS l = some (l.map id) := toL_eq (toE := l_toInbox) (g := id) h.1 (by decide) fun x hx => to_Inbox (h.2 x hx)
  simpa using this

theorem to_Network {x : den tNetwork} (h : Sm tNetwork x) : l_toNetwork x = some (x.2.2.1.1, x.2.2.2.1, x.2.2.2.2.2.2.2.2, x.1.1, x.1.2, x.2.1.1, x.2.1.2, x.2.2.1.2.1, x.2.2.1.2.2, x.2.2.2.2.1, x.2.2.2.2.2.1, x.2.2.2.2.2.2.1, x.2.2.2.2.2.2.2.1) := by
  unfold l_toNetwork
  simp only [to_Topology h.1, to_SegmentDatabase h.2.1, to_Scheduler h.2.2.1, to_IntS h.2.2.2.2.1, to_PacketInFlightS h.2.2.2.2.2.1, to_FlowS h.2.2.2.2.2.2.1, to_InboxS h.2.2.2.2.2.2.2.1, obind_some, peta]

theorem eq_AS {x : den tAS} (h : SmB 4611686018427387904 tAS x) : l_eqAS x x = some true := by
  unfold l_eqAS
  simp

theorem eq_ASS {l : den (.sl tAS)} (h : SmB 4611686018427387904 (.sl tAS) l) : l_eqASS l l = some true := eqL_refl (eqE := l_eqAS) h.1 fun x hx => eq_AS (h.2 x hx)

theorem eq_Link {x : den tLink} (h : SmB 4611686018427387904 tLink x) : l_eqLink x x = some true := by
  unfold l_eqLink
  simp

theorem eq_LinkS {l : den (.sl tLink)} (h : SmB 4611686018427387904 (.sl tLink) l) : l_eqLinkS l l = some true := eqL_refl (eqE := l_eqLink) h.1 fun x hx => eq_Link (h.2 x hx)

theorem eq_Topology {x : den tTopology} (h : SmB 4611686018427387904 tTopology x) : l_eqTopology x x = some true := by
  unfold l_eqTopology
  simp [eq_ASS h.1, eq_LinkS h.2]

theorem eq_Hop {x : den tHop} (h : SmB 4611686018427387904 tHop x) : l_eqHop x x = some true := by
  unfold l_eqHop
  simp

theorem eq_HopS {l : den (.sl tHop)} (h : SmB 4611686018427387904 (.sl tHop) l) : l_eqHopS l l = some true := eqL_refl (eqE := l_eqHop) h.1 fun x hx => eq_Hop (h.2 x hx)

theorem eq_Segment {x : den tSegment} (h : SmB 4611686018427387904 tSegment x) : l_eqSegment x x = some true := by
  unfold l_eqSegment
  simp [eq_HopS h.2.2]

theorem eq_SegmentS {l : den (.sl tSegment)} (h : SmB 4611686018427387904 (.sl tSegment) l) : l_eqSegmentS l l = some true := eqL_refl (eqE := l_eqSegment) h.1 fun x hx => eq_Segment (h.2 x hx)

theorem eq_SegmentDatabase {x : den tSegmentDatabase} (h : SmB 4611686018427387904 tSegmentDatabase x) : l_eqSegmentDatabase x x = some true := by
  unfold l_eqSegmentDatabase
  simp [eq_SegmentS h.1, eq_SegmentS h.2]

theorem eq_Reservation {x : den tReservation} (h : SmB 4611686018427387904 tReservation x) : l_eqReservation x x = some true := by
  unfold l_eqReservation
  simp

theorem eq_ReservationS {l : den (.sl tReservation)} (h : SmB 4611686018427387904 (.sl tReservation) l) : l_eqReservationS l l = some true := eqL_refl (eqE := l_eqReservation) h.1 fun x hx => eq_Reservation (h.2 x hx)

theorem eq_Usage {x : den tUsage} (h : SmB 4611686018427387904 tUsage x) : l_eqUsage x x = some true := by
  unfold l_eqUsage
  simp

theorem eq_UsageS {l : den (.sl tUsage)} (h : SmB 4611686018427387904 (.sl tUsage) l) : l_eqUsageS l l = some true := eqL_refl (eqE := l_eqUsage) h.1 fun x hx => eq_Usage (h.2 x hx)

theorem eq_Scheduler {x : den tScheduler} (h : SmB 4611686018427387904 tScheduler x) : l_eqScheduler x x = some true := by
  unfold l_eqScheduler
  simp [eq_ReservationS h.2.1, eq_UsageS h.2.2]

theorem eq_IntS {l : den (.sl ti)} (h : SmB 4611686018427387904 (.sl ti) l) : l_eqIntS l l = some true := eqL_refl (eqE := (fun x y => some (x == y))) h.1 fun x hx => by simp

theorem eq_PathPart {x : den tPathPart} (h : SmB 4611686018427387904 tPathPart x) : l_eqPathPart x x = some true := by
  unfold l_eqPathPart
  simp [eq_HopS h.2.2.2]

theorem eq_PathPartS {l : den (.sl tPathPart)} (h : SmB 4611686018427387904 (.sl tPathPart) l) : l_eqPathPartS l l = some true := eqL_refl (eqE := l_eqPathPart) h.1 fun x hx => eq_PathPart (h.2 x hx)

theorem eq_Path {x : den tPath} (h : SmB 4611686018427387904 tPath x) : l_eqPath x x = some true := by
  unfold l_eqPath
  simp [eq_PathPartS h]

theorem eq_ByteS {l : den (.sl tb)} (h : SmB 4611686018427387904 (.sl tb) l) : l_eqByteS l l = some true := eqL_refl (eqE := (fun x y => some (x == y))) h.1 fun x hx => by simp

theorem eq_Packet {x : den tPacket} (h : SmB 4611686018427387904 tPacket x) : l_eqPacket x x = some true := by
  unfold l_eqPacket
  simp [eq_Path h.2.2.2.1, eq_ByteS h.2.2.2.2.2.2.2.2.2]

theorem eq_PacketInFlight {x : den tPacketInFlight} (h : SmB 4611686018427387904 tPacketInFlight x) : l_eqPacketInFlight x x = some true := by
  unfold l_eqPacketInFlight
  simp [eq_Packet h.2.2]

theorem eq_PacketInFlightS {l : den (.sl tPacketInFlight)} (h : SmB 4611686018427387904 (.sl tPacketInFlight) l) : l_eqPacketInFlightS l l = some true := eqL_refl (eqE := l_eqPacketInFlight) h.1 fun x hx => eq_PacketInFlight (h.2 x hx)

theorem eq_Message {x : den tMessage} (h : SmB 4611686018427387904 tMessage x) : l_eqMessage x x = some true := by
  unfold l_eqMessage
  simp [eq_ByteS h]

theorem eq_MessageS {l : den (.sl tMessage)} (h : SmB 4611686018427387904 (.sl tMessage) l) : l_eqMessageS l l = some true := eqL_refl (eqE := l_eqMessage) h.1 fun x hx => eq_Message (h.2 x hx)

theorem eq_PathS {l : den (.sl tPath)} (h : SmB 4611686018427387904 (.sl tPath) l) : l_eqPathS l l = some true := eqL_refl (eqE := l_eqPath) h.1 fun x hx => eq_Path (h.2 x hx)

theorem eq_Revocation {x : den tRevocation} (h : SmB 4611686018427387904 tRevocation x) : l_eqRevocation x x = some true := by
  unfold l_eqRevocation
  simp

theorem eq_RevocationS {l : den (.sl tRevocation)} (h : SmB 4611686018427387904 (.sl tRevocation) l) : l_eqRevocationS l l = some true := eqL_refl (eqE := l_eqRevocation) h.1 fun x hx => eq_Revocation (h.2 x hx)

theorem eq_Flow {x : den tFlow} (h : SmB 4611686018427387904 tFlow x) : l_eqFlow x x = some true := by
  unfold l_eqFlow
  simp [eq_MessageS h.2.2.2.2.1, eq_PathS h.2.2.2.2.2.1, eq_RevocationS h.2.2.2.2.2.2.2.2]

theorem eq_FlowS {l : den (.sl tFlow)} (h : SmB 4611686018427387904 (.sl tFlow) l) : l_eqFlowS l l = some true := eqL_refl (eqE := l_eqFlow) h.1 fun x hx => eq_Flow (h.2 x hx)

theorem eq_Inbox {x : den tInbox} (h : SmB 4611686018427387904 tInbox x) : l_eqInbox x x = some true := by
  unfold l_eqInbox
  simp [eq_MessageS h.2.2.2]

theorem eq_InboxS {l : den (.sl tInbox)} (h : SmB 4611686018427387904 (.sl tInbox) l) : l_eqInboxS l l = some true := eqL_refl (eqE := l_eqInbox) h.1 fun x hx => eq_Inbox (h.2 x hx)

theorem eq_Network {x : den tNetwork} (h : SmB 4611686018427387904 tNetwork x) : l_eqNetwork x x = some true := by
  unfold l_eqNetwork
  simp [eq_Topology h.1, eq_SegmentDatabase h.2.1, eq_Scheduler h.2.2.1, eq_IntS h.2.2.2.2.1, eq_PacketInFlightS h.2.2.2.2.2.1, eq_FlowS h.2.2.2.2.2.2.1, eq_InboxS h.2.2.2.2.2.2.2.1]

def inR (n a b : Int) : Bool := decide (a ≤ n) && decide (n ≤ b)

theorem i_in (n a b : Int) : i_InRange n a b = some (inR n a b) := by
  unfold i_InRange inR
  by_cases h : a ≤ n <;> simp [h]

theorem s_in (n a b : Int) : s_l1In n a b = some (inR n a b) := by
  unfold s_l1In inR
  by_cases h : a ≤ n <;> simp [h]

theorem inR_iff {n a b : Int} : inR n a b = true ↔ a ≤ n ∧ n ≤ b := by simp [inR]

theorem inR_not {n a b : Int} : inR n a b = false ↔ ¬ (a ≤ n ∧ n ≤ b) := by rw [← inR_iff]; simp

theorem i_max (a b : Int) : i_Max a b = some (if b > a then b else a) := rfl

theorem s_max (a b : Int) : s_Max a b = some (if b > a then b else a) := by
  unfold s_Max
  by_cases h : b > a <;> simp [h]

theorem i_copyB {b : List Int} (h : b.length ≤ 68719476736) : i_copyBytes b = some b := by
  unfold i_copyBytes
  rw [apOk_le (by decide) (by simpa using h)]; simp

theorem i_copyH {l : List (den tHop)} (h : l.length ≤ 68719476736) : i_copyHops l = some l := by
  unfold i_copyHops
  rw [apOk_le (by decide) (by simpa using h)]; simp

theorem s_copyPt {p : den tPathPart} (h : SmB 68719476736 tPathPart p) : s_l21Copy p = some p := by
  unfold s_l21Copy
  rw [apOk_le (by decide) (by simpa using h.2.2.2.1)]; simp

theorem i_copyP {p : den tPath} (h : SmB 68719476736 tPath p) : i_copyPath p = some p := by
  unfold i_copyPath
  rw [(loopF (fun k (a : List (den tPathPart)) => ((k : Int), a)) ((0 : Int), []) [] p (fun _ x a => a ++ [x]) List.length (fun _ => 1) 68719476736 id rfl (Nat.le_trans h.1 (by decide)) (by rw [sum_one]; simpa using h.1) (fun k x a hi hx hd hw hk hb => by
    have e := h.2 x (List.mem_of_getElem? hx)
    simp only [hd, hi, hw, cond_true, obind_some, i_copyH e.2.2.2.1, peta, apOk_le (b := 48) (by decide) hb]
    simp) (fun a => by simp)).1, foldI_map (fun x => x)]
  simp

theorem s_copyP {p : den tPath} (h : SmB 68719476736 tPath p) : s_l22Copy p = some p := by
  unfold s_l22Copy
  rw [(loopF (fun k (a : List (den tPathPart)) => ((k : Int), a)) ((0 : Int), []) [] p (fun _ x a => a ++ [x]) List.length (fun _ => 1) 68719476736 id rfl (Nat.le_trans h.1 (by decide)) (by rw [sum_one]; simpa using h.1) (fun k x a hi hx hd hw hk hb => by
    have e := h.2 x (List.mem_of_getElem? hx)
    simp only [hd, hi, hw, cond_true, obind_some, peta, s_copyPt e, apOk_le (b := 48) (by decide) hb]
    simp) (fun a => by simp)).1, foldI_map (fun x => x)]
  simp

/-- A loop that answers false at the first that fails. -/
theorem scanB {α S : Type} (p : Nat → α → Bool) : ∀ (l : List α) (k : Nat) (ρ : S), scanI (fun k x => if p k x then none else some ρ) k l = if (l.zipIdx k).all (fun x => p x.2 x.1) then none else some ρ
  | [], _, _ => rfl
  | x :: xs, k, ρ => by
    simp only [scanI, List.zipIdx_cons, List.all_cons]
    rcases Bool.eq_false_or_eq_true (p k x) with h | h
    · simp only [h, if_true, Bool.true_and]; exact scanB p xs (k + 1) ρ
    · simp [h]

theorem zip_all {α : Type} (p : α → Bool) : ∀ (l : List α) (k : Nat), (l.zipIdx k).all (fun x => p x.1) = l.all p
  | [], _ => rfl
  | x :: xs, k => by simp [List.zipIdx_cons, zip_all p xs]

theorem scanA {α S : Type} (p : α → Bool) (l : List α) (ρ : S) : scanI (fun _ x => if p x then none else some ρ) 0 l = if l.all p then none else some ρ := by
  rw [scanB (fun _ x => p x), zip_all p]

def isRev (k : Int) : Bool := k == 1 || k == 3

theorem i_isRev (k : Int) : i_IsReversed k = some (isRev k) := by
  unfold i_IsReversed isRev
  cases k == 1 <;> rfl

theorem s_isRev (k : Int) : s_IsReversed k = some (isRev k) := by
  unfold s_IsReversed isRev
  cases k == 1 <;> rfl

def pIn (p : den tPathPart) (h : den tHop) : Int := if isRev p.1 then h.2.2.1 else h.2.1

def pEg (p : den tPathPart) (h : den tHop) : Int := if isRev p.1 then h.2.1 else h.2.2.1

theorem wr_len {n : Nat} (h : n ≤ 68719476736) : wr ((n : Int) - 1) = (n : Int) - 1 := wrap_in (by omega) (by omega)

theorem inR_idx {k n : Nat} (h : k < n) : inR (k : Int) 0 ((n : Int) - 1) = true := by rw [inR_iff]; omega

theorem i_pIn {p : den tPathPart} {k : Nat} {h : den tHop} (hk : p.2.2.2[k]? = some h) (hl : p.2.2.2.length ≤ 68719476736) : i_PartIngress p (k : Int) = some (pIn p h) := by
  have hlt : k < p.2.2.2.length := (List.getElem?_eq_some_iff.1 hk).1
  unfold i_PartIngress pIn
  simp only [i_in, wr_len hl, inR_idx hlt, obind_some, Bool.not_true, cond_false, i_isRev, idx_nat, hk]
  cases isRev p.1 <;> rfl

theorem s_pIn {p : den tPathPart} {k : Nat} {h : den tHop} (hk : p.2.2.2[k]? = some h) (hl : p.2.2.2.length ≤ 68719476736) : s_PartIngress p (k : Int) = some (pIn p h) := by
  have hlt : k < p.2.2.2.length := (List.getElem?_eq_some_iff.1 hk).1
  unfold s_PartIngress pIn
  simp only [s_in, wr_len hl, inR_idx hlt, obind_some, Bool.not_true, cond_false, s_isRev, idx_nat, hk]
  cases isRev p.1 <;> rfl

theorem i_pEg {p : den tPathPart} {k : Nat} {h : den tHop} (hk : p.2.2.2[k]? = some h) (hl : p.2.2.2.length ≤ 68719476736) : i_PartEgress p (k : Int) = some (pEg p h) := by
  have hlt : k < p.2.2.2.length := (List.getElem?_eq_some_iff.1 hk).1
  unfold i_PartEgress pEg
  simp only [i_in, wr_len hl, inR_idx hlt, obind_some, Bool.not_true, cond_false, i_isRev, idx_nat, hk]
  cases isRev p.1 <;> rfl

theorem s_pEg {p : den tPathPart} {k : Nat} {h : den tHop} (hk : p.2.2.2[k]? = some h) (hl : p.2.2.2.length ≤ 68719476736) : s_PartEgress p (k : Int) = some (pEg p h) := by
  have hlt : k < p.2.2.2.length := (List.getElem?_eq_some_iff.1 hk).1
  unfold s_PartEgress pEg
  simp only [s_in, wr_len hl, inR_idx hlt, obind_some, Bool.not_true, cond_false, s_isRev, idx_nat, hk]
  cases isRev p.1 <;> rfl

def addS (nf : Bool) (p : den tPathPart) (i : Nat) (h : den tHop) (out : List (den tStep)) : List (den tStep) :=
  match out.getLast? with
  | some z => if nf && (decide (i = 0) && z.1 == h.1) then out.dropLast ++ [(h.1, z.2.1, pEg p h)] else out ++ [(h.1, pIn p h, pEg p h)]
  | none => out ++ [(h.1, pIn p h, pEg p h)]

theorem addS_len (nf : Bool) (p : den tPathPart) (i : Nat) (h : den tHop) (out : List (den tStep)) : (addS nf p i h out).length ≤ out.length + 1 := by
  unfold addS
  split
  · split
    · simp only [List.length_append, List.length_dropLast, List.length_singleton]; omega
    · simp
  · simp

def partS (nf : Bool) (p : den tPathPart) (a : List (den tStep)) : List (den tStep) := foldI (fun i h b => addS nf p i h b) 0 p.2.2.2 a

def steps0 (p : den tPath) : List (den tStep) := foldI (fun k x a => partS (decide (0 < k)) x a) 0 p []

def endS (l : List (den tStep)) : List (den tStep) :=
  match l with
  | [] => []
  | x :: xs => let m := (x.1, 0, x.2.2) :: xs
    match m.getLast? with
    | some y => m.dropLast ++ [(y.1, y.2.1, 0)]
    | none => []

def steps (p : den tPath) : List (den tStep) := endS (steps0 p)

theorem endS_len (l : List (den tStep)) : (endS l).length = l.length := by
  unfold endS
  split
  · rfl
  · rename_i x xs
    simp only
    rw [List.getLast?_eq_some_getLast (by simp)]
    simp

theorem hops_sum (p : den tPath) : (p.map fun x => x.2.2.2.length).sum ≤ tot tPath p := by
  show _ ≤ tot (.sl tPathPart) p
  rw [← tot_sum]
  induction p with
  | nil => exact Nat.le_refl _
  | cons x p ih =>
    simp only [List.map_cons, List.sum_cons]
    have h1 : x.2.2.2.length ≤ tot tPathPart x := by
      show _ ≤ tot ti x.1 + (tot ti x.2.1 + (tot ti x.2.2.1 + tot (.sl tHop) x.2.2.2))
      rw [tot_flatL rfl]; omega
    omega

theorem wr_pos {n : Nat} (h : n ≤ 68719476736) (h0 : 0 < n) : wr ((n : Int) - 1) = ((n - 1 : Nat) : Int) := by
  rw [wr_len h]; omega

theorem wr_last {α : Type} {m : List α} {z : α} (h : (m ++ [z]).length ≤ 68719476736) : wr (((m ++ [z]).length : Int) - 1) = (m.length : Int) := by
  rw [wr_pos h (by simp)]; simp

theorem partS_len (nf : Bool) (p : den tPathPart) (a : List (den tStep)) : (partS nf p a).length ≤ a.length + p.2.2.2.length := by
  have := foldI_m (m := List.length) (cost := fun _ => 1) (fun i h b => addS_len nf p i h b) p.2.2.2 0 a
  rw [sum_one] at this
  exact this

theorem steps0_len (p : den tPath) : (steps0 p).length ≤ tot tPath p := by
  have := foldI_m (m := List.length) (cost := fun x : den tPathPart => x.2.2.2.length) (fun k x a => partS_len (decide (0 < k)) x a) p 0 []
  have h2 := hops_sum p
  have h3 : (steps0 p).length ≤ 0 + (p.map fun x => x.2.2.2.length).sum := this
  omega

theorem steps_len (p : den tPath) : (steps p).length ≤ tot tPath p := by
  unfold steps; rw [endS_len]; exact steps0_len p

theorem dec_pos (k : Nat) : decide ((k : Int) > 0) = decide (0 < k) := by rw [Bool.eq_iff_iff]; simp

theorem dec_zero (i : Nat) : ((i : Int) == 0) = decide (i = 0) := by rw [Bool.eq_iff_iff]; simp

theorem addS_nil (nf : Bool) (p : den tPathPart) (i : Nat) (h : den tHop) : addS nf p i h [] = [(h.1, pIn p h, pEg p h)] := rfl

theorem addS_last (nf : Bool) (p : den tPathPart) (i : Nat) (h : den tHop) (m : List (den tStep)) (z : den tStep) : addS nf p i h (m ++ [z]) = if nf && (decide (i = 0) && z.1 == h.1) then m ++ [(h.1, z.2.1, pEg p h)] else (m ++ [z]) ++ [(h.1, pIn p h, pEg p h)] := by
  unfold addS
  rw [List.getLast?_concat, List.dropLast_concat]

theorem endS_some {m : List (den tStep)} {x z : den tStep} {xs : List (den tStep)} (h : (x.1, (0 : Int), x.2.2) :: xs = m ++ [z]) : endS (x :: xs) = m ++ [(z.1, z.2.1, 0)] := by
  unfold endS
  simp only
  rw [h, List.getLast?_concat, List.dropLast_concat]

theorem i_steps {p : den tPath} (h : tot tPath p ≤ 34359738368) : i_PathSteps p = some (steps p) := by
  have hs := hops_sum p
  have sm : SmB 34359738368 tPath p := sm_of_tot h
  have hl := steps0_len p
  unfold i_PathSteps
  rw [loopG (fun k (a : List (den tStep)) => ((k : Int), a)) ((0 : Int), []) [] p (fun k x a => partS (decide (0 < k)) x a) List.length (fun x => x.2.2.2.length) 34359738368 id rfl (Nat.le_trans sm.1 (by decide)) (by simp only [List.length_nil]; omega) (fun k x a => partS_len _ x a) (fun k x a hi hx hd hw hk hb => by
    have hxl : x.2.2.2.length ≤ 34359738368 := (sm.2 x (List.mem_of_getElem? hx)).2.2.2.1
    simp only [hd, hi, hw, cond_true, obind_some]
    rw [loopG (fun i (b : List (den tStep)) => ((i : Int), b)) ((0 : Int), a) a x.2.2.2 (fun i h b => addS (decide (0 < k)) x i h b) List.length (fun _ => 1) 34359738368 id rfl (Nat.le_trans hxl (by decide)) (by rw [sum_one]; exact hb) (fun i h b => addS_len _ x i h b) (fun i g b hi2 hg hd2 hw2 hk2 hb2 => by
      have hl2 : x.2.2.2.length ≤ 68719476736 := by omega
      simp only [hd2, hi2, hw2, cond_true, obind_some, peta, i_pIn hg hl2, i_pEg hg hl2, dec_pos, dec_zero, apOk_le (b := 24) (n := b.length) (m := 1) (by decide) (by omega)]
      rcases nil_or_concat b with rfl | ⟨m, z, rfl⟩
      · rw [addS_nil]
        cases decide (0 < k) <;> cases decide (i = 0) <;> rfl
      · rw [addS_last, wr_last (by omega)]
        simp only [pos_nat, pos_nat', lt_last, get_last, cond_true, Int.toNat_natCast, obind_some, set_last]
        cases decide (0 < k) <;> cases decide (i = 0) <;> cases hz : z.1 == g.1 <;> simp [hz]
        simpa using hz) (fun b => by simp)]
    rfl) (fun a => by simp)]
  simp only [obind_some, id]
  rw [show foldI (fun k x a => partS (decide (0 < k)) x a) 0 p [] = steps0 p from rfl]
  show _ = some (endS (steps0 p))
  generalize steps0 p = l at hl
  cases l with
  | nil => rfl
  | cons x xs =>
    have e1 : decide ((((x :: xs).length : Nat) : Int) > 0) = true := by simp
    have e2 : decide ((0 : Int) < (((x :: xs).length : Nat) : Int)) = true := by simp
    have e3 : (0 : Int).toNat = 0 := rfl
    have e4 : decide ((0 : Int) ≤ 0) = true := rfl
    simp only [e1, e2, e3, e4, cond_true, List.getElem?_cons_zero, obind_some, List.set_cons_zero]
    rcases nil_or_concat ((x.1, (0 : Int), x.2.2) :: xs) with h0 | ⟨m, z, hm⟩
    · cases h0
    · have hlen : ((x.1, (0 : Int), x.2.2) :: xs).length = (x :: xs).length := rfl
      rw [endS_some hm]
      rw [hm] at hlen ⊢
      rw [wr_last (by omega)]
      simp only [pos_nat, lt_last, get_last, cond_true, Int.toNat_natCast, obind_some, set_last]

theorem s_steps {p : den tPath} (h : tot tPath p ≤ 34359738368) : s_PathSteps p = some (steps p) := by
  have hs := hops_sum p
  have sm : SmB 34359738368 tPath p := sm_of_tot h
  have hl := steps0_len p
  unfold s_PathSteps
  rw [loopG (fun k (a : List (den tStep)) => ((k : Int), a)) ((0 : Int), []) [] p (fun k x a => partS (decide (0 < k)) x a) List.length (fun x => x.2.2.2.length) 34359738368 id rfl (Nat.le_trans sm.1 (by decide)) (by simp only [List.length_nil]; omega) (fun k x a => partS_len _ x a) (fun k x a hi hx hd hw hk hb => by
    have hxl : x.2.2.2.length ≤ 34359738368 := (sm.2 x (List.mem_of_getElem? hx)).2.2.2.1
    simp only [hd, hi, hw, cond_true, obind_some]
    rw [loopG (fun i (b : List (den tStep)) => ((i : Int), b)) ((0 : Int), a) a x.2.2.2 (fun i h b => addS (decide (0 < k)) x i h b) List.length (fun _ => 1) 34359738368 id rfl (Nat.le_trans hxl (by decide)) (by rw [sum_one]; exact hb) (fun i h b => addS_len _ x i h b) (fun i g b hi2 hg hd2 hw2 hk2 hb2 => by
      have hl2 : x.2.2.2.length ≤ 68719476736 := by omega
      simp only [hd2, hi2, hw2, cond_true, obind_some, peta, s_pIn hg hl2, s_pEg hg hl2, both_self, dec_pos, dec_zero]
      rcases nil_or_concat b with rfl | ⟨m, z, rfl⟩
      · rw [addS_nil]
        cases decide (0 < k) <;> cases decide (i = 0) <;> rfl
      · rw [addS_last, wr_last (by omega)]
        have e1 : decide (((m ++ [z]).length : Int) > 0) = true := by simp
        have e2 : slOk (0 : Int) (m.length : Int) ((m ++ [z]).length : Int) = true := by simp [slOk]; omega
        have e3 : (m ++ [z]).take m.length = m := by simp
        have e4 := apOk_le (b := 24) (n := m.length) (m := 1) (by decide) (by simp at hb2; omega)
        have e5 := apOk_le (b := 24) (n := m.length + 1) (m := 1) (by decide) (by simp at hb2; omega)
        simp only [pos_nat, e1, e2, e3, lt_last, get_last, cond_true, Int.toNat_natCast, obind_some]
        cases decide (0 < k) <;> cases decide (i = 0) <;> cases hz : z.1 == g.1 <;> simp [hz, e4, e5]) (fun b => by simp [hi])]
    rfl) (fun a => by simp)]
  simp only [obind_some, id]
  rw [show foldI (fun k x a => partS (decide (0 < k)) x a) 0 p [] = steps0 p from rfl]
  show _ = some (endS (steps0 p))
  generalize steps0 p = l at hl
  cases l with
  | nil => rfl
  | cons x xs =>
    have e1 : decide ((((x :: xs).length : Nat) : Int) > 0) = true := by simp
    have e2 : decide ((0 : Int) < (((x :: xs).length : Nat) : Int)) = true := by simp
    have e3 : (0 : Int).toNat = 0 := rfl
    have e4 : decide ((0 : Int) ≤ 0) = true := rfl
    have e5 : decide (0 < (x :: xs).length) = true := by simp
    simp only [e1, e2, e3, e4, e5, cond_true, List.getElem?_cons_zero, obind_some, List.set_cons_zero]
    rcases nil_or_concat ((x.1, (0 : Int), x.2.2) :: xs) with h0 | ⟨m, z, hm⟩
    · cases h0
    · have hlen : ((x.1, (0 : Int), x.2.2) :: xs).length = (x :: xs).length := rfl
      rw [endS_some hm]
      rw [hm] at hlen ⊢
      rw [wr_last (by omega)]
      have e6 : decide (m.length < (m ++ [z]).length) = true := by simp
      simp only [pos_nat, lt_last, get_last, e6, cond_true, Int.toNat_natCast, obind_some, set_last]

def ends (p : den tPath) : Int × Int :=
  match (steps p).head?, (steps p).getLast? with
  | some x, some y => (x.1, y.1)
  | _, _ => (-1, -1)

theorem i_ends {p : den tPath} (h : tot tPath p ≤ 34359738368) : i_Endpoints p = some (ends p) := by
  unfold i_Endpoints ends
  have hl := steps_len p
  rw [i_steps h, obind_some]
  generalize steps p = l at hl
  rcases nil_or_concat l with rfl | ⟨m, z, rfl⟩
  · rfl
  · rw [wr_last (by omega)]
    have e1 : (((m ++ [z]).length : Int) == 0) = false := by simp <;> omega
    have e2 : decide ((0 : Int) < ((m ++ [z]).length : Int)) = true := by simp <;> omega
    have e3 : decide ((0 : Int) ≤ 0) = true := rfl
    rw [e1, e2, e3, pos_nat, lt_last, List.getLast?_concat]
    cases m with
    | nil => rfl
    | cons x m => simp

theorem s_ends {p : den tPath} (h : tot tPath p ≤ 34359738368) : s_Endpoints p = some (ends p) := by
  unfold s_Endpoints ends
  have hl := steps_len p
  rw [s_steps h, obind_some]
  generalize steps p = l at hl
  rcases nil_or_concat l with rfl | ⟨m, z, rfl⟩
  · rfl
  · rw [wr_last (by omega)]
    have e1 : (((m ++ [z]).length : Int) == 0) = false := by simp <;> omega
    have e2 : decide ((0 : Int) < ((m ++ [z]).length : Int)) = true := by simp <;> omega
    have e3 : decide ((0 : Int) ≤ 0) = true := rfl
    rw [e1, e2, e3, pos_nat, lt_last, List.getLast?_concat]
    cases m with
    | nil => rfl
    | cons x m => simp

/-- A packet as it is handed back: its slices last. -/
def pkR (p : den tPacket) : Int × Int × Int × Int × Int × Int × Int × Int × (List (den tPathPart)) × (List Int) := (p.1, p.2.1, p.2.2.1, p.2.2.2.2.1, p.2.2.2.2.2.1, p.2.2.2.2.2.2.1, p.2.2.2.2.2.2.2.1, p.2.2.2.2.2.2.2.2.1, p.2.2.2.1, p.2.2.2.2.2.2.2.2.2)

def beta0 (p : den tPath) : Int := match p with
  | [] => 0
  | x :: _ => x.2.2.1

def newPk (kind : Int) (p : den tPath) (res seq : Int) (pay : List Int) : den tPacket := (kind, (ends p).1, (ends p).2, p, 0, 0, beta0 p, res, seq, pay)

theorem i_newPk {kind res seq : Int} {p : den tPath} {pay : List Int} (h : tot tPath p ≤ 34359738368) (hp : pay.length ≤ 68719476736) : i_NewPacket kind p res seq pay = some (pkR (newPk kind p res seq pay)) := by
  unfold i_NewPacket
  rw [i_copyP ((sm_of_tot h).mono (by decide)), i_copyB hp, i_ends h]
  simp only [obind_some]
  cases p with
  | nil => rfl
  | cons x p =>
    have e1 : decide (((x :: p).length : Int) > 0) = true := by simp
    rw [e1]; rfl

theorem s_newPk {kind res seq : Int} {p : den tPath} {pay : List Int} (h : tot tPath p ≤ 34359738368) (hp : pay.length ≤ 68719476736) : s_NewPacket kind p res seq pay = some (pkR (newPk kind p res seq pay)) := by
  unfold s_NewPacket
  rw [s_copyP ((sm_of_tot h).mono (by decide)), s_ends h, apOk_le (b := 1) (n := ([] : List Int).length) (by decide) (by simpa using hp)]
  simp only [obind_some, cond_true, List.nil_append]
  cases p with
  | nil => rfl
  | cons x p =>
    have e1 : decide (((x :: p).length : Int) > 0) = true := by simp
    rw [e1]; rfl

def revK (k : Int) : Int := if k = 1 then 4 else if k = 4 then 1 else if k = 2 then 3 else if k = 3 then 2 else k

theorem i_revK (k : Int) : i_ReverseKind k = some (revK k) := by
  unfold i_ReverseKind revK
  by_cases h1 : k = 1
  · subst h1; rfl
  by_cases h2 : k = 4
  · subst h2; rfl
  by_cases h3 : k = 2
  · subst h3; rfl
  by_cases h4 : k = 3
  · subst h4; rfl
  have b1 : (k == 1) = false := by simpa using h1
  have b2 : (k == 4) = false := by simpa using h2
  have b3 : (k == 2) = false := by simpa using h3
  have b4 : (k == 3) = false := by simpa using h4
  rw [b1, b2, b3, b4, if_neg h1, if_neg h2, if_neg h3, if_neg h4]; rfl

theorem s_revK (k : Int) : s_ReverseKind k = some (revK k) := i_revK k

def resid (n : Int) : Bool := inR n 0 2147483646

theorem i_resid (n : Int) : i_isResidue n = some (resid n) := by unfold i_isResidue resid; rw [i_in]; rfl

theorem s_resid (n : Int) : s_l3Ok n = some (resid n) := by unfold s_l3Ok resid; rw [s_in]; rfl

def addM (b s : Int) : Int := if resid b && resid s then Int.tmod (wr (b + s)) 2147483647 else 0

def subM (b s : Int) : Int := if resid b && resid s then Int.tmod (wr ((wr (b - s)) + 2147483647)) 2147483647 else 0

theorem i_addM (b s : Int) : i_AddMod b s = some (addM b s) := by
  unfold i_AddMod addM
  simp only [i_resid, obind_some]
  cases resid b <;> cases resid s <;> rfl

theorem s_addM (b s : Int) : s_AddMod b s = some (addM b s) := by
  unfold s_AddMod addM
  simp only [s_resid, obind_some]
  cases resid b <;> cases resid s <;> rfl

theorem i_subM (b s : Int) : i_SubMod b s = some (subM b s) := by
  unfold i_SubMod subM
  simp only [i_resid, obind_some]
  cases resid b <;> cases resid s <;> rfl

theorem s_subM (b s : Int) : s_SubMod b s = some (subM b s) := by
  unfold s_SubMod subM
  simp only [s_resid, obind_some]
  cases resid b <;> cases resid s <;> rfl

def betaStep (k : Int) (b : Int) (h : den tHop) : Int := if isRev k then subM b h.2.2.2.2 else addM b h.2.2.2.2

def betaA (p : den tPathPart) (n : Nat) : Int := (p.2.2.2.take n).foldl (betaStep p.1) p.2.2.1

theorem i_betaA {p : den tPathPart} {n : Nat} (hn : n ≤ p.2.2.2.length) (hl : p.2.2.2.length ≤ 68719476736) : i_BetaAfter p (n : Int) = some (betaA p n) := by
  unfold i_BetaAfter betaA
  have e1 : inR (n : Int) 0 (p.2.2.2.length : Int) = true := by rw [inR_iff]; omega
  have e2 : slOk (0 : Int) (n : Int) (p.2.2.2.length : Int) = true := by simp [slOk]; omega
  rw [i_in, e1, obind_some, e2, cut_take]
  have hlen : (p.2.2.2.take n).length ≤ 4611686018427387904 := by rw [List.length_take]; omega
  rw [loopG (fun k (b : Int) => (b, (k : Int))) (p.2.2.1, (0 : Int)) p.2.2.1 (p.2.2.2.take n) (fun _ h b => betaStep p.1 b h) (fun _ => 0) (fun _ => 0) 0 id rfl hlen (by rw [sum_nil]; exact Nat.le_refl _) (fun _ _ _ => Nat.le_refl _) (fun k x b hi hx hd hw hk hb => by
    simp only [hd, hi, hw, cond_true, obind_some, i_isRev, i_subM, i_addM, betaStep]
    cases isRev p.1 <;> rfl) (fun b => by simp), foldI_foldl (fun b h => betaStep p.1 b h)]
  rfl

theorem s_betaA {p : den tPathPart} {n : Nat} (hn : n ≤ p.2.2.2.length) (hl : p.2.2.2.length ≤ 68719476736) : s_BetaAfter p (n : Int) = some (betaA p n) := by
  unfold s_BetaAfter betaA
  have e1 : inR (n : Int) 0 (p.2.2.2.length : Int) = true := by rw [inR_iff]; omega
  have e3 : (p.2.2.2.take n).length = n := by rw [List.length_take]; omega
  rw [s_in, e1, obind_some]
  rw [loopG (fun k (b : Int) => (b, (k : Int))) (p.2.2.1, (0 : Int)) p.2.2.1 (p.2.2.2.take n) (fun _ h b => betaStep p.1 b h) (fun _ => 0) (fun _ => 0) 0 id rfl (by rw [e3]; omega) (by rw [sum_nil]; exact Nat.le_refl _) (fun _ _ _ => Nat.le_refl _) (fun k x b hi hx hd hw hk hb => by
    have hx' : p.2.2.2[k]? = some x := by rw [List.getElem?_take] at hx; split at hx; exact hx; cases hx
    rw [e3] at hd
    simp only [hd, hw, cond_true, obind_some, idx_nat, hx', s_isRev, s_subM, s_addM, betaStep]
    cases isRev p.1 <;> rfl) (fun b => by rw [e3]; simp), foldI_foldl (fun b h => betaStep p.1 b h)]
  rfl

def revPt (p : den tPathPart) : den tPathPart := (revK p.1, p.2.1, betaA p p.2.2.2.length, p.2.2.2.reverse)

theorem i_revH {l : List (den tHop)} (hl : l.length ≤ 68719476736) : i_reversedHops l = some l.reverse := by
  unfold i_reversedHops
  have e : wr ((l.length : Int) - 1) = (l.length : Int) - 1 := wr_len hl
  rw [e, loopR (fun k (a : List (den tHop)) => (k, a)) ((l.length : Int) - 1, []) [] l (fun x a => a ++ [x]) List.length (fun _ => 1) 68719476736 id rfl (by omega) (by rw [sum_one]; simpa using hl) (fun x a => by simp) (fun k x a hi hx hd hw hk hb => by
    simp only [hd, hi, hw, cond_true, obind_some, peta, apOk_le (b := 40) (n := a.length) (m := 1) (by decide) hb]) (fun a => by simp), foldr_map (fun x => x)]
  simp

theorem i_revPt {p : den tPathPart} (hl : p.2.2.2.length ≤ 68719476736) : i_ReversePart p = some (revPt p) := by
  unfold i_ReversePart revPt
  simp only [i_revK, peta, i_betaA (Nat.le_refl _) hl, i_revH hl, obind_some]

theorem s_revPt {p : den tPathPart} (hl : p.2.2.2.length ≤ 68719476736) : s_ReversePart p = some (revPt p) := by
  unfold s_ReversePart revPt
  simp only [s_revK, peta, s_betaA (Nat.le_refl _) hl, both_self, obind_some]
  have e : wr ((p.2.2.2.length : Int) - 1) = (p.2.2.2.length : Int) - 1 := wr_len hl
  rw [e, loopR (fun k (a : List (den tHop)) => (k, revK p.1, p.2.1, betaA p p.2.2.2.length, a)) ((p.2.2.2.length : Int) - 1, revK p.1, p.2.1, betaA p p.2.2.2.length, []) [] p.2.2.2 (fun x a => a ++ [x]) List.length (fun _ => 1) 68719476736 (fun a => (revK p.1, p.2.1, betaA p p.2.2.2.length, a)) rfl (by omega) (by rw [sum_one]; simpa using hl) (fun x a => by simp) (fun k x a hi hx hd hw hk hb => by
    simp only [hd, hi, hw, cond_true, obind_some, peta, apOk_le (b := 40) (n := a.length) (m := 1) (by decide) hb]) (fun a => by simp), foldr_map (fun x => x)]
  simp

def revP (p : den tPath) : den tPath := p.reverse.map revPt

theorem i_revP {p : den tPath} (h : SmB 68719476736 tPath p) : i_ReversePath p = some (revP p) := by
  unfold i_ReversePath revP
  have e : wr ((p.length : Int) - 1) = (p.length : Int) - 1 := wr_len h.1
  rw [e, loopR (fun k (a : List (den tPathPart)) => (k, a)) ((p.length : Int) - 1, []) [] p (fun x a => a ++ [revPt x]) List.length (fun _ => 1) 68719476736 id rfl (by have := h.1; omega) (by rw [sum_one]; simpa using h.1) (fun x a => by simp) (fun k x a hi hx hd hw hk hb => by
    have hxl := (h.2 x (List.mem_of_getElem? hx)).2.2.2.1
    simp only [hd, hi, hw, cond_true, obind_some, peta, i_revPt hxl, apOk_le (b := 48) (n := a.length) (m := 1) (by decide) hb]) (fun a => by simp), foldr_map revPt]
  simp

theorem s_revP {p : den tPath} (h : SmB 68719476736 tPath p) : s_ReversePath p = some (revP p) := by
  unfold s_ReversePath revP
  have e : wr ((p.length : Int) - 1) = (p.length : Int) - 1 := wr_len h.1
  rw [e, loopR (fun k (a : List (den tPathPart)) => (k, a)) ((p.length : Int) - 1, []) [] p (fun x a => a ++ [revPt x]) List.length (fun _ => 1) 68719476736 id rfl (by have := h.1; omega) (by rw [sum_one]; simpa using h.1) (fun x a => by simp) (fun k x a hi hx hd hw hk hb => by
    have hxl := (h.2 x (List.mem_of_getElem? hx)).2.2.2.1
    simp only [hd, hi, hw, cond_true, obind_some, peta, s_revPt hxl, apOk_le (b := 48) (n := a.length) (m := 1) (by decide) hb]) (fun a => by simp), foldr_map revPt]
  simp

theorem revPt_tot (p : den tPathPart) : tot tPathPart (revPt p) = tot tPathPart p := by
  show tot ti _ + (tot ti _ + (tot ti _ + tot (.sl tHop) p.2.2.2.reverse)) = tot ti _ + (tot ti _ + (tot ti _ + tot (.sl tHop) p.2.2.2))
  rw [tot_rev]; rfl

theorem tot_map_eq {t : Ty} (g : den t → den t) (hg : ∀ x, tot t (g x) = tot t x) : ∀ l : List (den t), tot (.sl t) (l.map g) = tot (.sl t) l
  | [] => rfl
  | x :: l => by rw [List.map_cons, tot_cons, tot_cons, hg, tot_map_eq g hg l]

theorem revP_tot (p : den tPath) : tot tPath (revP p) = tot tPath p := by
  show tot (.sl tPathPart) (p.reverse.map revPt) = tot (.sl tPathPart) p
  rw [tot_map_eq revPt revPt_tot, tot_rev]

def hasHop (p : den tPacket) : Bool := inR p.2.2.2.2.1 0 ((p.2.2.2.1.length : Int) - 1) && inR p.2.2.2.2.2.1 0 (((((p.2.2.2.1[p.2.2.2.2.1.toNat]?).getD (0, 0, 0, [])).2.2.2.length : Nat) : Int) - 1)

def curAS (p : den tPacket) : Int := if hasHop p then ((((p.2.2.2.1[p.2.2.2.2.1.toNat]?).getD (0, 0, 0, [])).2.2.2[p.2.2.2.2.2.1.toNat]?).getD (0, 0, 0, 0, 0)).1 else -1

theorem hasHop_iff {p : den tPacket} (h : hasHop p = true) : ∃ (i j : Nat) (x : den tPathPart) (y : den tHop), p.2.2.2.2.1 = (i : Int) ∧ p.2.2.2.2.2.1 = (j : Int) ∧ p.2.2.2.1[i]? = some x ∧ x.2.2.2[j]? = some y ∧ curAS p = y.1 := by
  have h' := h
  unfold hasHop at h'
  simp only [Bool.and_eq_true, inR_iff] at h'
  obtain ⟨⟨h1, h2⟩, h3, h4⟩ := h'
  obtain ⟨x, hx⟩ := get_some h1 h2
  rw [hx, Option.getD_some] at h4
  obtain ⟨y, hy⟩ := get_some h3 h4
  refine ⟨p.2.2.2.2.1.toNat, p.2.2.2.2.2.1.toNat, x, y, (Int.toNat_of_nonneg h1).symm, (Int.toNat_of_nonneg h3).symm, hx, hy, ?_⟩
  unfold curAS
  rw [h, if_pos rfl, hx, Option.getD_some, hy, Option.getD_some]

theorem curAS_no {p : den tPacket} (c : hasHop p = false) : curAS p = -1 := by unfold curAS; rw [c]; rfl

theorem i_hop {p : den tPacket} (h : SmB 68719476736 tPacket p) : i_hasHop p = some (hasHop p) := by
  unfold i_hasHop hasHop
  have l1 := h.2.2.2.1.1
  rw [i_in, wr_len l1, obind_some]
  cases c1 : inR p.2.2.2.2.1 0 ((p.2.2.2.1.length : Int) - 1) with
  | false => rfl
  | true =>
    rw [inR_iff] at c1
    obtain ⟨x, hx⟩ := get_some c1.1 c1.2
    rw [idx_of c1.1 hx, hx]
    have l2 := (h.2.2.2.1.2 _ (List.mem_of_getElem? hx)).2.2.2.1
    simp only [cond_true, obind_some, i_in, wr_len l2, Option.getD_some, Bool.true_and]

theorem i_curAS {p : den tPacket} (h : SmB 68719476736 tPacket p) : i_CurrentAS p = some (curAS p) := by
  unfold i_CurrentAS
  simp only [peta, i_hop h, obind_some]
  cases c : hasHop p with
  | false => rw [curAS_no c]; rfl
  | true =>
    obtain ⟨i, j, x, y, h1, h2, h3, h4, h5⟩ := hasHop_iff c
    rw [h1, h2, h5]
    simp only [Bool.not_true, cond_false, idx_nat, h3, h4, obind_some]

theorem s_curAS {p : den tPacket} (h : SmB 68719476736 tPacket p) : s_CurrentAS p = some (curAS p) := by
  unfold s_CurrentAS
  have l1 := h.2.2.2.1.1
  rw [s_in, wr_len l1, obind_some]
  cases c1 : inR p.2.2.2.2.1 0 ((p.2.2.2.1.length : Int) - 1) with
  | false => rw [curAS_no (by unfold hasHop; rw [c1]; rfl)]; rfl
  | true =>
    have c1' := c1
    rw [inR_iff] at c1'
    obtain ⟨x, hx⟩ := get_some c1'.1 c1'.2
    rw [idx_of c1'.1 hx]
    have l2 := (h.2.2.2.1.2 _ (List.mem_of_getElem? hx)).2.2.2.1
    simp only [Bool.not_true, cond_false, obind_some, s_in, wr_len l2]
    cases c2 : inR p.2.2.2.2.2.1 0 ((x.2.2.2.length : Int) - 1) with
    | false => rw [curAS_no (by unfold hasHop; rw [c1, hx, Option.getD_some, c2]; rfl)]; rfl
    | true =>
      have c : hasHop p = true := by unfold hasHop; rw [c1, hx, Option.getD_some, c2]; rfl
      rw [inR_iff] at c2
      obtain ⟨y, hy⟩ := get_some c2.1 c2.2
      rw [idx_of c2.1 hy]
      unfold curAS
      rw [c, if_pos rfl, hx, Option.getD_some, hy, Option.getD_some]
      rfl

theorem newPk_tot {kind res seq : Int} {p : den tPath} {pay : List Int} : tot tPacket (newPk kind p res seq pay) = tot tPath p + tot (.sl tb) pay := by
  show 0 + (0 + (0 + (tot tPath p + (0 + (0 + (0 + (0 + (0 + tot (.sl tb) pay)))))))) = _
  omega

theorem flow_parts {f : den tFlow} {N : Nat} (h : tot tFlow f ≤ N) : tot (.sl tMessage) f.2.2.2.2.1 ≤ N ∧ tot (.sl tPath) f.2.2.2.2.2.1 ≤ N ∧ tot (.sl tRevocation) f.2.2.2.2.2.2.2.2 ≤ N := by
  have h0 := tot_r (tot_r (tot_r (tot_r h)))
  exact ⟨tot_l h0, tot_l (tot_r h0), tot_r (tot_r (tot_r (tot_r h0)))⟩

def settleF (f : den tFlow) : Int := wr ((wr ((wr ((f.2.2.2.2.2.1.length : Int) + (2 : Int))) * (21 : Int))) + (wr ((2 : Int) * (f.2.2.2.2.1.length : Int))))

def settleW (w : den tNetwork) : Int := foldI (fun _ f a => if settleF f > a then settleF f else a) 0 w.2.2.2.2.2.2.1 0

theorem i_settle {w : den tNetwork} (h : w.2.2.2.2.2.2.1.length ≤ 1073741824) : i_SettlingRounds w = some (wr (8 + settleW w)) := by
  unfold i_SettlingRounds settleW
  rw [loopG (fun k (a : Int) => (a, (k : Int))) ((0 : Int), (0 : Int)) 0 w.2.2.2.2.2.2.1 (fun _ f a => if settleF f > a then settleF f else a) (fun _ => 0) (fun _ => 0) 1 id rfl (by omega) (by rw [sum_nil]; omega) (fun k x a => by omega) (fun k x a hi hx hd hw hk hb => by
    simp only [hd, hi, hw, cond_true, obind_some, i_max]
    rfl) (fun a => by simp)]
  rfl

theorem s_settle {w : den tNetwork} (h : w.2.2.2.2.2.2.1.length ≤ 1073741824) : s_SettlingRounds w = some (wr (8 + settleW w)) := by
  unfold s_SettlingRounds settleW
  rw [loopG (fun k (a : Int) => (a, (k : Int))) ((0 : Int), (0 : Int)) 0 w.2.2.2.2.2.2.1 (fun _ f a => if settleF f > a then settleF f else a) (fun _ => 0) (fun _ => 0) 1 id rfl (by omega) (by rw [sum_nil]; omega) (fun k x a => by omega) (fun k x a hi hx hd hw hk hb => by
    simp only [hd, hi, hw, cond_true, obind_some, s_max]
    rfl) (fun a => by simp)]
  rw [obind_some, Int.add_comm]
  rfl

theorem u64_wrap {n : Nat} (h : n < 256) : IntKind.wrap .u64 (n : Int) = (n : Int) := by
  simp only [IntKind.wrap, IntKind.signed, IntKind.bits]
  simp
  omega

def numS (s : den tStep) (a : List Int) : List Int :=
  (fun b => cond (s.2.2 != 0) (b ++ [wr (wr (8 * s.1) + s.2.2)]) b) (cond (s.2.1 != 0) (a ++ [wr (wr (8 * s.1) + s.2.1)]) a)

theorem numS_len (s : den tStep) (a : List Int) : (numS s a).length ≤ a.length + 2 := by
  unfold numS
  cases s.2.1 != 0 <;> cases s.2.2 != 0 <;> simp

def usedI (p : den tPath) : List Int := foldI (fun _ s a => numS s a) 0 (steps p) []

theorem sum_two {α : Type} (l : List α) : (l.map fun _ => 2).sum = 2 * l.length := by
  induction l with
  | nil => rfl
  | cons x l ih => simp only [List.map_cons, List.sum_cons, ih, List.length_cons]; omega

theorem i_usedI {p : den tPath} (h : tot tPath p ≤ 1073741824) : i_InterfacesUsed p = some (usedI p) := by
  have hl := steps_len p
  unfold i_InterfacesUsed i_numbered usedI
  rw [i_steps (Nat.le_trans h (by decide))]
  simp only [obind_some]
  rw [loopG (fun k (a : List Int) => ((k : Int), a)) ((0 : Int), []) [] (steps p) (fun _ s a => numS s a) List.length (fun _ => 2) 68719476736 id rfl (by omega) (by rw [sum_two]; simp; omega) (fun k x a => numS_len x a) (fun k x a hi hx hd hw hk hb => by
    simp only [hd, hi, hw, cond_true, obind_some, apOk_le (b := 8) (n := a.length) (m := 1) (by decide) (by omega)]
    unfold numS
    cases x.2.1 != 0 <;> cases x.2.2 != 0 <;> simp [apOk_le (b := 8) (n := a.length) (m := 1) (by decide) (by omega), apOk_le (b := 8) (n := a.length + 1) (m := 1) (by decide) (by omega)]) (fun a => by simp)]
  rfl

theorem s_usedI {p : den tPath} (h : tot tPath p ≤ 1073741824) : s_InterfacesUsed p = some (usedI p) := by
  have hl := steps_len p
  unfold s_InterfacesUsed usedI
  rw [s_steps (Nat.le_trans h (by decide))]
  simp only [obind_some]
  rw [loopG (fun k (a : List Int) => ((k : Int), a)) ((0 : Int), []) [] (steps p) (fun _ s a => numS s a) List.length (fun _ => 2) 68719476736 id rfl (by omega) (by rw [sum_two]; simp; omega) (fun k x a => numS_len x a) (fun k x a hi hx hd hw hk hb => by
    simp only [hd, hx, hw, cond_true, obind_some, pos_nat, Int.toNat_natCast, apOk_le (b := 8) (n := a.length) (m := 1) (by decide) (by omega)]
    unfold numS
    cases x.2.1 != 0 <;> cases x.2.2 != 0 <;> simp [apOk_le (b := 8) (n := a.length) (m := 1) (by decide) (by omega), apOk_le (b := 8) (n := a.length + 1) (m := 1) (by decide) (by omega)]) (fun a => by simp)]
  rfl

def hasI (l : List Int) (n : Int) : Bool := !(l.all fun x => !(x == n))

theorem i_hasI {l : List Int} {n : Int} (h : l.length ≤ 68719476736) : i_hasInt l n = some (hasI l n) := by
  unfold i_hasInt hasI
  rw [loop_scan (l := l) (fun _ x => if !(x == n) then none else some true) (by omega) (fun k x hi hd hw hm hk => by
    simp only [hd, hi, hw, cond_true, obind_some]
    cases x == n <;> rfl) (by simp), scanA (fun x : Int => !(x == n))]
  cases l.all (fun x => !(x == n)) <;> rfl

theorem s_hasI {l : List Int} {n : Int} (h : l.length ≤ 68719476736) : s_l9Has l n = some (hasI l n) := by
  unfold s_l9Has hasI
  rw [loop_scan (l := l) (fun _ x => if !(x == n) then none else some true) (by omega) (fun k x hi hd hw hm hk => by
    simp only [hd, hi, hw, cond_true, obind_some]
    cases x == n <;> rfl) (by simp), scanA (fun x : Int => !(x == n))]
  cases l.all (fun x => !(x == n)) <;> rfl

theorem usedI_len (p : den tPath) : (usedI p).length ≤ 2 * tot tPath p := by
  have h := foldI_m (f := fun _ s (a : List Int) => numS s a) (m := List.length) (cost := fun _ => 2) (fun k x a => numS_len x a) (steps p) 0 []
  have hl := steps_len p
  rw [sum_two] at h
  unfold usedI
  simp at h
  omega

def validH (h : den tHop) : Bool := inR h.1 0 7 && (inR h.2.1 0 6 && (inR h.2.2.1 0 6 && (!(h.2.1 == h.2.2.1) && (inR h.2.2.2.1 0 1000000 && resid h.2.2.2.2))))

theorem i_validH (h : den tHop) : i_ValidHop h = some (validH h) := by
  unfold i_ValidHop validH
  simp only [i_in, i_resid, obind_some, bne]
  cases inR h.1 0 7 <;> cases inR h.2.1 0 6 <;> cases inR h.2.2.1 0 6 <;> cases h.2.1 == h.2.2.1 <;> cases inR h.2.2.2.1 0 1000000 <;> rfl

theorem s_validH (h : den tHop) : s_ValidHop h = some (validH h) := by
  unfold s_ValidHop validH
  simp only [s_in, s_resid, obind_some, bne]
  cases inR h.1 0 7 <;> cases inR h.2.1 0 6 <;> cases inR h.2.2.1 0 6 <;> cases h.2.1 == h.2.2.1 <;> cases inR h.2.2.2.1 0 1000000 <;> rfl

theorem gt_not (n k : Nat) : decide ((n : Int) > (k : Int)) = !decide (n ≤ k) := by rw [Bool.eq_iff_iff]; simp

def hopsE (l : List (den tHop)) : Bool := decide (l.length ≤ 8) && l.all validH

theorem i_hopsE {l : List (den tHop)} (h : l.length ≤ 68719476736) : i_hopsEncodable l = some (hopsE l) := by
  unfold i_hopsEncodable hopsE
  rw [loop_scan (l := l) (fun _ x => if validH x then none else some false) (by omega) (fun k x hi hd hw hm hk => by
    simp only [hd, hi, hw, cond_true, obind_some, peta, i_validH]
    cases validH x <;> rfl) (by simp), scanA validH]
  have e := gt_not l.length 8
  rw [show ((8 : Nat) : Int) = 8 from rfl] at e
  rw [e]
  cases decide (l.length ≤ 8) <;> cases l.all validH <;> rfl

def encPt (p : den tPathPart) : Bool := inR p.1 1 4 && (inR p.2.1 0 1000000 && (resid p.2.2.1 && hopsE p.2.2.2))

theorem s_encS {p : den tSegment} (h : p.2.2.length ≤ 68719476736) : s_Encodable p = some (inR p.1 0 1000000 && (resid p.2.1 && hopsE p.2.2)) := by
  unfold s_Encodable hopsE
  rw [loop_scan (l := p.2.2) (fun _ x => if validH x then none else some false) (by omega) (fun k x hi hd hw hm hk => by
    simp only [hd, hi, hw, cond_true, obind_some, peta, s_validH]
    cases validH x <;> rfl) (by simp), scanA validH]
  have e := gt_not p.2.2.length 8
  rw [show ((8 : Nat) : Int) = 8 from rfl] at e
  rw [e, s_in, s_resid]
  cases inR p.1 0 1000000 <;> cases resid p.2.1 <;> cases decide (p.2.2.length ≤ 8) <;> cases p.2.2.all validH <;> rfl

def encP (p : den tPath) : Bool := decide (p.length ≤ 3) && p.all encPt

theorem i_encP {p : den tPath} (h : SmB 68719476736 tPath p) : i_EncodablePath p = some (encP p) := by
  unfold i_EncodablePath encP
  rw [loop_scan (l := p) (fun _ x => if encPt x then none else some false) (Nat.le_trans h.1 (by decide)) (fun k x hi hd hw hm hk => by
    have hx := (h.2 x hm).2.2.2.1
    simp only [hd, hi, hw, cond_true, obind_some, peta, i_in, i_resid, i_hopsE hx]
    unfold encPt
    cases inR x.1 1 4 <;> cases inR x.2.1 0 1000000 <;> cases resid x.2.2.1 <;> cases hopsE x.2.2.2 <;> rfl) (by simp), scanA encPt]
  have e := gt_not p.length 3
  rw [show ((3 : Nat) : Int) = 3 from rfl] at e
  rw [e]
  cases decide (p.length ≤ 3) <;> cases p.all encPt <;> rfl

theorem s_encP {p : den tPath} (h : SmB 68719476736 tPath p) : s_EncodablePath p = some (encP p) := by
  unfold s_EncodablePath encP
  rw [loop_scan (l := p) (fun _ x => if encPt x then none else some false) (Nat.le_trans h.1 (by decide)) (fun k x hi hd hw hm hk => by
    have hx := (h.2 x hm).2.2.2.1
    have hs := s_encS (p := (x.2.1, x.2.2.1, x.2.2.2)) hx
    simp only [hd, hi, hw, cond_true, obind_some, peta, s_in]
    simp only [peta] at hs
    simp only [hs, obind_some]
    unfold encPt
    cases inR x.1 1 4 <;> cases inR x.2.1 0 1000000 <;> cases resid x.2.2.1 <;> cases hopsE x.2.2.2 <;> rfl) (by simp), scanA encPt]
  have e := gt_not p.length 3
  rw [show ((3 : Nat) : Int) = 3 from rfl] at e
  rw [e]
  cases decide (p.length ≤ 3) <;> cases p.all encPt <;> rfl

def full (x : den tPathPart) : Bool := !((x.2.2.2.length : Int) == 0)

def validK (p : den tPacket) : Bool := inR p.1 1 3 && (encP p.2.2.2.1 && (hasHop p && (resid p.2.2.2.2.2.2.1 && (p.2.2.2.1.all full && (inR p.2.1 0 7 && (inR p.2.2.1 0 7 && (inR p.2.2.2.2.2.2.2.1 0 100000 && (inR p.2.2.2.2.2.2.2.2.1 0 100000 && decide ((p.2.2.2.2.2.2.2.2.2.length : Int) ≤ 40)))))))))

theorem hop_as {p : den tPacket} (h : encP p.2.2.2.1 = true) : decide (curAS p < 0) = !hasHop p := by
  cases c : hasHop p with
  | false => rw [curAS_no c]; rfl
  | true =>
    obtain ⟨i, j, x, y, h1, h2, h3, h4, h5⟩ := hasHop_iff c
    rw [h5]
    unfold encP at h
    have ha := (Bool.and_eq_true _ _ ▸ h : _ ∧ _).2
    have hx := List.all_eq_true.1 ha x (List.mem_of_getElem? h3)
    unfold encPt hopsE at hx
    simp only [Bool.and_eq_true] at hx
    have hy := List.all_eq_true.1 hx.2.2.2.2 y (List.mem_of_getElem? h4)
    unfold validH at hy
    simp only [Bool.and_eq_true, inR_iff] at hy
    have := hy.1.1
    simp; omega

theorem i_validK {p : den tPacket} (h : SmB 68719476736 tPacket p) : i_ValidPacket p = some (validK p) := by
  unfold i_ValidPacket validK
  rw [loop_scan (l := p.2.2.2.1) (fun _ x => if full x then none else some false) (Nat.le_trans h.2.2.2.1.1 (by decide)) (fun k x hi hd hw hm hk => by
    simp only [hd, hi, hw, cond_true, obind_some]
    unfold full
    cases (x.2.2.2.length : Int) == 0 <;> rfl) (by simp), scanA full]
  simp only [i_in, peta, i_curAS h, i_encP h.2.2.2.1, i_resid, obind_some]
  cases inR p.1 1 3
  · rfl
  · cases he : encP p.2.2.2.1
    · rfl
    · rw [hop_as he]
      cases hz : (p.2.2.2.1.length : Int) == 0
      · cases hasHop p <;> simp only [Bool.not_true, Bool.not_false, cond_true, cond_false, obind_some, Bool.false_and, Bool.true_and]
        cases resid p.2.2.2.2.2.2.1 <;> simp only [Bool.not_true, Bool.not_false, cond_true, cond_false, obind_some, Bool.false_and, Bool.true_and]
        cases p.2.2.2.1.all full <;> cases inR p.2.1 0 7 <;> cases inR p.2.2.1 0 7 <;> cases inR p.2.2.2.2.2.2.2.1 0 100000 <;> cases inR p.2.2.2.2.2.2.2.2.1 0 100000 <;> rfl
      · have hh : hasHop p = false := by
          have hl : (p.2.2.2.1.length : Int) = 0 := by simpa using hz
          unfold hasHop
          have : inR p.2.2.2.2.1 0 ((p.2.2.2.1.length : Int) - 1) = false := by rw [inR_not]; omega
          rw [this]; rfl
        rw [hh]
        rfl

theorem s_validK {p : den tPacket} (h : SmB 68719476736 tPacket p) : s_ValidPacket p = some (validK p) := by
  have l1 := h.2.2.2.1.1
  unfold s_ValidPacket validK
  rw [loop_scan (l := p.2.2.2.1) (fun _ x => if full x then none else some false) (Nat.le_trans h.2.2.2.1.1 (by decide)) (fun k x hi hd hw hm hk => by
    simp only [hd, hi, hw, cond_true, obind_some]
    unfold full
    cases (x.2.2.2.length : Int) == 0 <;> rfl) (by simp), scanA full]
  simp only [s_in, wr_len l1, s_encP h.2.2.2.1, s_resid, obind_some]
  unfold hasHop
  cases inR p.1 1 3
  · rfl
  · cases he : encP p.2.2.2.1
    · rfl
    · cases c1 : inR p.2.2.2.2.1 0 ((p.2.2.2.1.length : Int) - 1)
      · rfl
      · rw [inR_iff] at c1
        obtain ⟨x, hx⟩ := get_some c1.1 c1.2
        have l2 := (h.2.2.2.1.2 _ (List.mem_of_getElem? hx)).2.2.2.1
        rw [idx_of c1.1 hx, hx]
        simp only [Bool.not_true, cond_false, obind_some, Option.getD_some, wr_len l2, Bool.true_and]
        cases resid p.2.2.2.2.2.2.1 <;> cases inR p.2.2.2.2.2.1 0 ((x.2.2.2.length : Int) - 1) <;> cases p.2.2.2.1.all full <;> cases inR p.2.1 0 7 <;> cases inR p.2.2.1 0 7 <;> cases inR p.2.2.2.2.2.2.2.1 0 100000 <;> cases inR p.2.2.2.2.2.2.2.2.1 0 100000 <;> rfl

theorem wr_less {n : Nat} (h : n ≤ 68719476736) : wr ((n : Int) - 1) = (n : Int) - 1 := wrap_in (by omega) (by omega)

def asOk (t : den tTopology) (r : Int) : Bool := inR r 0 ((t.1.length : Int) - 1)

theorem i_asOk {t : den tTopology} {r : Int} (h : t.1.length ≤ 68719476736) : i_isAS t r = some (asOk t r) := by
  unfold i_isAS asOk
  rw [wr_less h, i_in]; rfl

theorem s_asOk {t : den tTopology} {r : Int} (h : t.1.length ≤ 68719476736) : s_l5Realm t r = some (asOk t r) := by
  unfold s_l5Realm asOk
  rw [wr_less h, s_in]; rfl

def endsL (l : den tLink) (r d : Int) : Bool := (l.1 == r && l.2.1 == d) || (l.2.2.1 == r && l.2.2.2.1 == d)

theorem i_endsL (l : den tLink) (r d : Int) : i_usesInterface l r d = some (endsL l r d) := by
  unfold i_usesInterface endsL
  cases l.1 == r <;> cases l.2.1 == d <;> cases l.2.2.1 == r <;> cases l.2.2.2.1 == d <;> rfl

theorem as_at {t : den tTopology} {r : Int} (h : asOk t r = true) : ∃ x, t.1[r.toNat]? = some x ∧ idx t.1 r = some x := by
  obtain ⟨h0, h1⟩ := inR_iff.1 h
  obtain ⟨x, hx⟩ := get_some h0 h1
  exact ⟨x, hx, idx_of h0 hx⟩

theorem slOk_take {k n : Nat} (h : k < n) : slOk (0 : Int) (k : Int) (n : Int) = true := by
  have := slOk_nat (a := 0) (b := k) (n := n)
  rw [show ((0 : Nat) : Int) = 0 from rfl] at this
  rw [this]; simp; omega

theorem len_take {α : Type} {l : List α} {k : Nat} (h : k < l.length) : (l.take k).length = k := by simp; omega

def atFrom (a b : Int) (x : den tInbox) : Bool := x.1 == a && x.2.1 == b

def findX (l : List (den tInbox)) (a b : Int) : Int := ((l.findIdx? (atFrom a b)).map (fun i => ((0 + i : Nat) : Int))).getD (-1)

def found (w : den tNetwork) (k : Nat) (f : den tFlow) : Bool := findX w.2.2.2.2.2.2.2.1 f.2.1 f.1 == (k : Int)

theorem zip_iff {α : Type} (p : Nat → α → Bool) (l : List α) : (l.zipIdx 0).all (fun z => p z.2 z.1) = true ↔ ∀ k x, l[k]? = some x → p k x = true := by
  rw [List.all_eq_true]
  constructor
  · intro h k x hx
    exact h (x, k) (List.mem_zipIdx_iff_getElem?.2 (by simpa using hx))
  · rintro h ⟨x, k⟩ hz
    exact h k x (by simpa using List.mem_zipIdx_iff_getElem?.1 hz)

def modP (n : Int) : Int := Int.tmod (wr ((Int.tmod n 2147483647) + 2147483647)) 2147483647

theorem i_modP (n : Int) : i_Mod n 2147483647 = some (modP n) := by unfold i_Mod; rw [i_in]; rfl

def digS (a x : Int) : Int := Int.tmod (wr ((wr ((wr (a * (1000003 : Int))) + modP x)) + (11 : Int))) (2147483647 : Int)

def digest (l : List Int) : Int := foldI (fun _ x a => digS a x) 0 l 7

theorem i_digest {l : List Int} (h : l.length ≤ 68719476736) : i_Digest l = some (digest l) := by
  unfold i_Digest digest
  rw [loopG (fun k (a : Int) => (a, (k : Int))) ((7 : Int), (0 : Int)) 7 l (fun _ x a => digS a x) (fun _ => 0) (fun _ => 0) 1 id rfl (by omega) (by rw [sum_nil]; omega) (fun k x a => by omega) (fun k x a hi hx hd hw hk hb => by
    simp only [hd, hi, hw, cond_true, obind_some, i_modP]
    rfl) (fun a => by simp)]
  rfl

def hops (p : den tPath) : List (den tHop) := foldI (fun _ x a => a ++ x.2.2.2) 0 p []

def linkIx (t : den tTopology) (r d : Int) : Int :=
  match scanI (fun k x => if endsL x r d then some (k : Int) else none) 0 t.2 with
  | some i => i
  | none => -1

theorem linkIx_at (t : den tTopology) (r d : Int) : linkIx t r d = -1 ∨ ∃ (j : Nat) (x : den tLink), linkIx t r d = (j : Int) ∧ t.2[j]? = some x ∧ endsL x r d = true := by
  unfold linkIx
  cases h : scanI (fun k x => if endsL x r d then some (k : Int) else none) 0 t.2 with
  | none => exact .inl rfl
  | some i =>
    obtain ⟨j, x, h1, h2, h3⟩ := scanI_at h
    exact .inr ⟨j, x, by simpa using h2, h1, h3⟩

theorem i_linkIx {t : den tTopology} {r d : Int} (h : t.2.length ≤ 68719476736) : i_LinkIndex t r d = some (linkIx t r d) := by
  unfold i_LinkIndex
  rw [loop_scan (l := t.2) (fun k x => if endsL x r d then some (k : Int) else none) (by omega) (fun k x hi hd hw hx hk => by
    simp only [hd, hi, hw, cond_true, obind_some, i_endsL]
    cases endsL x r d <;> rfl) (by simp)]
  unfold linkIx
  cases scanI (fun k x => if endsL x r d then some (k : Int) else none) 0 t.2 <;> rfl

theorem s_linkIx {t : den tTopology} {r d : Int} (h : t.2.length ≤ 68719476736) : s_LinkIndex t r d = some (linkIx t r d) :=
  (show s_LinkIndex t r d = i_LinkIndex t r d from rfl).trans (i_linkIx h)

/-- The other end of a link, seen from one of its ends. -/
def farE (x : den tLink) (r d : Int) : Int × Int := cond (x.1 == r && x.2.1 == d) (x.2.2.1, x.2.2.2.1) (x.1, x.2.1)

def remote (t : den tTopology) (r d : Int) : Int × Int := if linkIx t r d < 0 then (-1, 0) else farE ((t.2[(linkIx t r d).toNat]?).getD (0, 0, 0, 0, 0)) r d

theorem i_remote {t : den tTopology} {r d : Int} (h : t.2.length ≤ 68719476736) : i_RemoteEnd t r d = some (remote t r d) := by
  unfold i_RemoteEnd remote
  simp only [peta, i_linkIx h, obind_some]
  rcases linkIx_at t r d with e | ⟨j, x, e, hx, he⟩
  · rw [e]; rfl
  · rw [e, decide_eq_false (by omega), cond_false, if_neg (by omega), idx_nat, hx, Int.toNat_natCast, hx, obind_some, Option.getD_some]
    unfold farE
    cases x.1 == r <;> cases x.2.1 == d <;> rfl

theorem s_remote {t : den tTopology} {r d : Int} (h : t.2.length ≤ 68719476736) : s_RemoteEnd t r d = some (remote t r d) :=
  (show s_RemoteEnd t r d = i_RemoteEnd t r d from rfl).trans (i_remote h)

def kindL (x : den tLink) (r d : Int) : Int := cond (x.2.2.2.2 == 1) 1 (cond (x.2.2.2.2 == 3) 4 (cond (x.2.2.2.2 == 2) (cond (x.1 == r && x.2.1 == d) 2 3) 0))

def kindI (t : den tTopology) (r d : Int) : Int := cond (d == 0) 5 (if linkIx t r d < 0 then 0 else kindL ((t.2[(linkIx t r d).toNat]?).getD (0, 0, 0, 0, 0)) r d)

theorem i_kindI {t : den tTopology} {r d : Int} (h : t.2.length ≤ 68719476736) : i_InterfaceKind t r d = some (kindI t r d) := by
  unfold i_InterfaceKind kindI
  simp only [peta, i_linkIx h, obind_some]
  cases d == 0
  · rcases linkIx_at t r d with e | ⟨j, x, e, hx, he⟩
    · rw [e]; rfl
    · rw [e, decide_eq_false (by omega), cond_false, cond_false, cond_false, if_neg (by omega), idx_nat, hx, Int.toNat_natCast, hx, obind_some, Option.getD_some]
      unfold kindL
      rw [show (x.2.2.2.2 != 2) = !(x.2.2.2.2 == 2) from rfl]
      cases x.2.2.2.2 == 1 <;> cases x.2.2.2.2 == 3 <;> cases x.2.2.2.2 == 2 <;> cases x.1 == r <;> cases x.2.1 == d <;> rfl
  · rfl

theorem s_kindI {t : den tTopology} {r d : Int} (h : t.2.length ≤ 68719476736) : s_InterfaceKind t r d = some (kindI t r d) := by
  unfold s_InterfaceKind kindI
  simp only [peta, s_linkIx h, obind_some]
  cases d == 0
  · rcases linkIx_at t r d with e | ⟨j, x, e, hx, he⟩
    · rw [e]; rfl
    · rw [e, decide_eq_false (by omega), cond_false, cond_false, cond_false, if_neg (by omega), idx_nat, hx, Int.toNat_natCast, hx, obind_some, Option.getD_some]
      unfold kindL
      cases x.2.2.2.2 == 1 <;> cases x.2.2.2.2 == 3 <;> cases x.2.2.2.2 == 2 <;> cases x.1 == r <;> cases x.2.1 == d <;> rfl
  · rfl

def transit (a b : Int) : Bool := cond (a == 5 || a == 2) (b == 2 || b == 5 || (b == 1 || b == 3)) (cond (a == 3) (b == 2 || b == 5) (cond (a == 1) (b == 2 || b == 5 || b == 1) false))

theorem i_transit (a b : Int) : i_TransitAllowed a b = some (transit a b) := by
  unfold i_TransitAllowed transit
  cases c5 : a == 5 <;> cases c2 : a == 2 <;> cases a == 3 <;> cases a == 1 <;> cases b == 2 <;> cases b == 5 <;> cases b == 1 <;> cases b == 3 <;> first | rfl | (simp at c5 c2; omega)

theorem s_transit (a b : Int) : s_TransitAllowed a b = some (transit a b) := by
  unfold s_TransitAllowed transit
  cases c5 : a == 5 <;> cases c2 : a == 2 <;> cases a == 3 <;> cases a == 1 <;> cases b == 2 <;> cases b == 5 <;> cases b == 1 <;> cases b == 3 <;> first | rfl | (simp at c5 c2; omega)

def stepA (t : den tTopology) (s : den tStep) : Bool := transit (kindI t s.1 s.2.1) (kindI t s.1 s.2.2) && (!(s.2.1 == s.2.2) || s.2.1 == 0)

theorem i_stepA {t : den tTopology} {s : den tStep} (h : t.2.length ≤ 68719476736) : i_StepAllowed t s = some (stepA t s) := by
  unfold i_StepAllowed stepA
  simp only [peta, i_kindI h, i_transit, obind_some]
  rw [show (s.2.1 != s.2.2) = !(s.2.1 == s.2.2) from rfl]
  cases transit (kindI t s.1 s.2.1) (kindI t s.1 s.2.2) <;> cases s.2.1 == s.2.2 <;> cases s.2.1 == 0 <;> rfl

theorem s_stepA {t : den tTopology} {s : den tStep} (h : t.2.length ≤ 68719476736) : s_StepAllowed t s = some (stepA t s) := by
  unfold s_StepAllowed stepA
  simp only [peta, s_kindI h, s_transit, obind_some]
  rw [show (s.2.1 != 0) = !(s.2.1 == 0) from rfl]
  cases transit (kindI t s.1 s.2.1) (kindI t s.1 s.2.2) <;> cases s.2.1 == s.2.2 <;> cases s.2.1 == 0 <;> rfl

def inSet (s i : Int) : Bool := inR s 0 65535 && (inR i 0 15 && (bAnd .i64 (shr .i64 s i) 1 == 1))

theorem u64_small {i : Int} (h : inR i 0 15 = true) : IntKind.wrap .u64 i = i := by
  obtain ⟨h0, h1⟩ := inR_iff.1 h
  have := u64_wrap (n := i.toNat) (by omega)
  rwa [Int.toNat_of_nonneg h0] at this

theorem i_inSet (s i : Int) : i_Contains s i = some (inSet s i) := by
  unfold i_Contains inSet i_ValidSet
  simp only [i_in, obind_some]
  cases inR s 0 65535
  · rfl
  · cases c : inR i 0 15
    · rfl
    · rw [u64_small c, decide_eq_false (by have := inR_iff.1 c; omega)]
      rfl

theorem s_inSet (s i : Int) : s_Contains s i = some (inSet s i) := by
  unfold s_Contains inSet s_ValidSet s_l4One
  simp only [s_in, obind_some]
  cases inR s 0 65535
  · rfl
  · cases c : inR i 0 15
    · rfl
    · simp only [cond_true, obind_some, decide_eq_false (show ¬ i < 0 by have := inR_iff.1 c; omega), cond_false, Bool.true_and]

def addE (s i : Int) : Int := cond (inR s 0 65535 && inR i 0 15) (bOr .i64 s (shl .i64 1 i)) s

theorem i_addE (s i : Int) : i_AddElement s i = some (addE s i) := by
  unfold i_AddElement addE i_ValidSet
  simp only [i_in, obind_some]
  cases inR s 0 65535
  · rfl
  · cases c : inR i 0 15
    · rfl
    · rw [u64_small c, decide_eq_false (by have := inR_iff.1 c; omega)]
      rfl

theorem s_addE (s i : Int) : s_AddElement s i = some (addE s i) := by
  unfold s_AddElement addE s_ValidSet s_l4One
  simp only [s_in, obind_some]
  cases inR s 0 65535
  · rfl
  · cases c : inR i 0 15
    · rfl
    · rw [decide_eq_false (by have := inR_iff.1 c; omega)]
      rfl

theorem forL_pos {α : Type} (p : α → Bool) (N : Int) : ∀ (l : List α) (k : Nat), N = ((k + l.length : Nat) : Int) → forL (fun k x (_ : Unit) => if p x then .inl () else .inr (k : Int)) (fun _ => N) k l () = ((k + l.findIdx (fun x => !p x) : Nat) : Int)
  | [], k, h => by simpa [forL] using h
  | x :: xs, k, h => by
    simp only [forL, List.findIdx_cons]
    cases hp : p x with
    | true =>
      have := forL_pos p N xs (k + 1) (by rw [h]; simp; omega)
      simp only [if_true, this, Bool.not_true, cond_false]
      omega
    | false => simp

def posI (l : List Int) (n : Int) : Nat := l.findIdx fun x => !decide (x < n)

theorem posI_le (l : List Int) (n : Int) : posI l n ≤ l.length := List.findIdx_le_length

theorem posI_loop {l : List Int} {n : Int} {step : Int → Option (Int ⊕ Int)} (hl : l.length ≤ 68719476736)
    (h : ∀ (k : Nat) (x : Int), idx l (k : Int) = some x → l[k]? = some x → decide ((k : Int) < (l.length : Int)) = true → IntKind.i64.wrap ((k : Int) + 1) = ((k + 1 : Nat) : Int) → step (k : Int) = some (if decide (x < n) then .inl ((k + 1 : Nat) : Int) else .inr (k : Int)))
    (he : step (l.length : Int) = some (.inr (l.length : Int))) : loopM step (0 : Int) = some (posI l n : Int) := by
  rw [loopE (fun k (_ : Unit) => (k : Int)) (0 : Int) () l (fun k x _ => if decide (x < n) then .inl () else .inr (k : Int)) (fun _ _ => True) (fun _ => (l.length : Int)) rfl (by omega) trivial (fun k x a hi hx hd hw hk _ => by
    refine ⟨?_, fun _ _ => trivial⟩
    rw [h k x hi hx hd hw]
    cases decide (x < n) <;> rfl) (fun _ _ => he)]
  rw [forL_pos (fun x => decide (x < n)) (l.length : Int) l 0 (by simp)]
  simp [posI]

/-- A number put among ascending ones. -/
def insI (l : List Int) (n : Int) : List Int := if l[posI l n]? = some n then l else l.take (posI l n) ++ [n] ++ l.drop (posI l n)

theorem insI_len (l : List Int) (n : Int) : (insI l n).length ≤ l.length + 1 := by
  unfold insI
  split
  · omega
  · simp; omega

theorem slOk_to {k n : Nat} (h : k ≤ n) : slOk (0 : Int) (k : Int) (n : Int) = true := by
  simp only [slOk, Bool.and_eq_true, decide_eq_true_eq]; omega

theorem slOk_from {k n : Nat} (h : k ≤ n) : slOk (k : Int) (n : Int) (n : Int) = true := by
  simp only [slOk, Bool.and_eq_true, decide_eq_true_eq]; omega

theorem cut_from {α : Type} {l : List α} {k : Nat} : cut l (k : Int) (l.length : Int) = l.drop k := by
  unfold cut
  rw [Int.toNat_natCast]
  apply List.take_of_length_le
  simp

theorem i_copyI {l : List Int} (h : l.length ≤ 68719476736) : i_copyInts l = some l := by
  unfold i_copyInts
  rw [apOk_le (n := ([] : List Int).length) (by decide) (by simpa using h)]; rfl

theorem ins_at {l : List Int} {n : Int} {b : Bool} (hb : (l[posI l n]? = some n) = (b = true)) : insI l n = cond b l (l.take (posI l n) ++ [n] ++ l.drop (posI l n)) := by
  unfold insI
  cases b with
  | true => rw [if_pos (by rw [hb])]; rfl
  | false => rw [if_neg (by rw [hb]; simp)]; rfl

theorem i_insI {l : List Int} {n : Int} (h : l.length ≤ 4294967296) : i_insertInt l n = some (insI l n) := by
  have hp := posI_le l n
  unfold i_insertInt
  rw [posI_loop (l := l) (n := n) (by omega) (fun k x hi hx hd hw => by
    simp only [hd, cond_true, hi, obind_some, hw]
    cases decide (x < n) <;> rfl) (by simp)]
  simp only [obind_some, slOk_to hp, slOk_from hp, cut_take, cut_from, cond_true, both_self, i_copyI (l := l.take (posI l n)) (by simp; omega)]
  rw [apOk_le (b := 8) (n := (l.take (posI l n)).length) (m := 1) (by decide) (by simp; omega), apOk_le (b := 8) (m := (l.drop (posI l n)).length) (by decide) (by simp; omega)]
  by_cases hlt : posI l n < l.length
  · have hx : l[posI l n]? = some l[posI l n] := List.getElem?_eq_getElem hlt
    rw [decide_eq_true (by omega), cond_true, idx_nat, hx, obind_some, obind_some]
    rw [ins_at (b := l[posI l n] == n) (by rw [hx]; simp)]
    cases l[posI l n] == n <;> rfl
  · rw [decide_eq_false (by omega), cond_false, obind_some]
    rw [ins_at (b := false) (by rw [List.getElem?_eq_none (by omega)]; simp)]
    rfl

theorem s_insI {l : List Int} {n : Int} (h : l.length ≤ 4294967296) : s_l5Put'r l n = some (insI l n) := by
  have hp := posI_le l n
  unfold s_l5Put'r
  rw [posI_loop (l := l) (n := n) (by omega) (fun k x hi hx hd hw => by
    simp only [hd, cond_true, pos_nat, Int.toNat_natCast, hx, obind_some, hw]
    cases decide (x < n) <;> rfl) (by simp)]
  simp only [obind_some, slOk_to hp, slOk_from hp, cut_take, cut_from, cond_true, both_self, List.nil_append, List.length_nil]
  rw [apOk_le (b := 8) (n := 0) (m := (l.take (posI l n)).length) (by decide) (by simp; omega), apOk_le (b := 8) (n := (l.take (posI l n)).length) (m := 1) (by decide) (by simp; omega), apOk_le (b := 8) (m := (l.drop (posI l n)).length) (by decide) (by simp; omega)]
  by_cases hlt : posI l n < l.length
  · have hx : l[posI l n]? = some l[posI l n] := List.getElem?_eq_getElem hlt
    rw [decide_eq_true (by omega), cond_true, pos_nat, cond_true, cond_true, Int.toNat_natCast, hx, obind_some, obind_some]
    rw [ins_at (b := l[posI l n] == n) (by rw [hx]; simp)]
    cases l[posI l n] == n <;> rfl
  · rw [decide_eq_false (by omega), cond_false, obind_some]
    rw [ins_at (b := false) (by rw [List.getElem?_eq_none (by omega)]; simp)]
    rfl

/-- The interfaces of an AS. -/
def doorS (r : Int) (x : den tLink) (a : List Int) : List Int := cond (x.2.2.1 == r) (insI (cond (x.1 == r) (insI a x.2.1) a) x.2.2.2.1) (cond (x.1 == r) (insI a x.2.1) a)

theorem doorS_len (r : Int) (x : den tLink) (a : List Int) : (doorS r x a).length ≤ a.length + 2 := by
  unfold doorS
  have h1 := insI_len a x.2.1
  have h2 := insI_len (insI a x.2.1) x.2.2.2.1
  have h3 := insI_len a x.2.2.2.1
  cases x.1 == r <;> cases x.2.2.1 == r <;> simp only [cond_true, cond_false] <;> omega

def doors (t : den tTopology) (r : Int) : List Int := foldI (fun _ x a => doorS r x a) 0 t.2 []

theorem doors_len (t : den tTopology) (r : Int) : (doors t r).length ≤ 2 * t.2.length := by
  have h := foldI_m (f := fun _ x (a : List Int) => doorS r x a) (m := List.length) (cost := fun _ => 2) (fun k x a => doorS_len r x a) t.2 0 []
  rw [sum_two] at h
  simpa [doors] using h

theorem i_doors {t : den tTopology} {r : Int} (h : t.2.length ≤ 1073741824) : i_Interfaces t r = some (doors t r) := by
  unfold i_Interfaces
  rw [(loopF (fun k (a : List Int) => (a, (k : Int))) ([], (0 : Int)) [] t.2 (fun _ x a => doorS r x a) List.length (fun _ => 2) 4294967296 id rfl (by omega) (by rw [sum_two]; simp; omega) (fun k x a hi hx hd hw hk hb => by
    refine ⟨?_, doorS_len r x a⟩
    have h1 := insI_len a x.2.1
    simp only [hd, hi, hw, cond_true, obind_some, i_insI (l := a) (by omega), i_insI (l := insI a x.2.1) (by omega)]
    unfold doorS
    cases x.1 == r <;> cases x.2.2.1 == r <;> simp only [cond_true, cond_false, obind_some, i_insI (l := a) (by omega), i_insI (l := insI a x.2.1) (by omega)]) (fun a => by simp)).1]
  rfl

theorem s_doors {t : den tTopology} {r : Int} (h : t.2.length ≤ 1073741824) : s_Interfaces t r = some (doors t r) := by
  unfold s_Interfaces
  rw [(loopF (fun k (a : List Int) => ((k : Int), a)) ((0 : Int), []) [] t.2 (fun _ x a => doorS r x a) List.length (fun _ => 2) 4294967296 id rfl (by omega) (by rw [sum_two]; simp; omega) (fun k x a hi hx hd hw hk hb => by
    refine ⟨?_, doorS_len r x a⟩
    have h1 := insI_len a x.2.1
    simp only [hd, hi, hw, cond_true, obind_some, s_insI (l := a) (by omega), s_insI (l := insI a x.2.1) (by omega)]
    unfold doorS
    cases x.1 == r <;> cases x.2.2.1 == r <;> simp only [cond_true, cond_false, obind_some, s_insI (l := a) (by omega), s_insI (l := insI a x.2.1) (by omega)]) (fun a => by simp)).1]
  rfl

theorem sum_zero {α : Type} (l : List α) : (l.map fun _ => 0).sum = 0 := by
  induction l with
  | nil => rfl
  | cons x l ih => rw [List.map_cons, List.sum_cons, ih]

/-- The interfaces that have failed, as a set. -/
def deadE (t : den tTopology) (dead : List Int) (r : Int) : Int := foldI (fun _ x a => cond (hasI dead (linkIx t r x)) (addE a x) a) 0 (doors t r) 0

theorem i_deadE {t : den tTopology} {dead : List Int} {r : Int} (h : t.2.length ≤ 1073741824) (hd : dead.length ≤ 68719476736) : i_FailedInterfaces t dead r = some (deadE t dead r) := by
  have hl := doors_len t r
  unfold i_FailedInterfaces
  simp only [peta, i_doors h, obind_some]
  rw [loopG (fun k (a : Int) => (a, (k : Int))) ((0 : Int), (0 : Int)) 0 (doors t r) (fun _ x a => cond (hasI dead (linkIx t r x)) (addE a x) a) (fun _ => 0) (fun _ => 0) 0 id rfl (by omega) (by rw [sum_zero]; exact Nat.le_refl _) (fun _ _ _ => Nat.le_refl _) (fun k x a hi hx hd' hw hk hb => by
    simp only [hd', hi, hw, cond_true, obind_some, i_linkIx (t := t) (r := r) (d := x) (by omega), i_hasI hd, i_addE]
    cases hasI dead (linkIx t r x) <;> rfl) (fun a => by simp)]
  rfl

theorem s_deadE {t : den tTopology} {dead : List Int} {r : Int} (h : t.2.length ≤ 1073741824) (hd : dead.length ≤ 68719476736) : s_FailedInterfaces t dead r = some (deadE t dead r) := by
  have hl := doors_len t r
  unfold s_FailedInterfaces
  simp only [peta, s_doors h, obind_some]
  rw [loopG (fun k (a : Int) => (a, (k : Int))) ((0 : Int), (0 : Int)) 0 (doors t r) (fun _ x a => cond (hasI dead (linkIx t r x)) (addE a x) a) (fun _ => 0) (fun _ => 0) 0 id rfl (by omega) (by rw [sum_zero]; exact Nat.le_refl _) (fun _ _ _ => Nat.le_refl _) (fun k x a hi hx hd' hw hk hb => by
    simp only [hd', pos_nat, Int.toNat_natCast, hx, hw, cond_true, obind_some, s_linkIx (t := t) (r := r) (d := x) (by omega), s_hasI hd, s_addE]
    cases hasI dead (linkIx t r x) <;> rfl) (fun a => by simp)]
  rfl

def macH (key ts beta : Int) (h : den tHop) : Int := digest (([key] ++ [ts, beta, h.1, h.2.1, h.2.2.1, h.2.2.2.1]) ++ [key])

theorem i_macH (key ts beta : Int) (h : den tHop) : i_HopMAC key ts beta h = some (macH key ts beta h) := by
  unfold i_HopMAC i_ComputeMAC macH
  rw [apOk_le (b := 8) (n := [key].length) (by decide) (by simp), apOk_le (b := 8) (by decide) (by simp), i_digest (by simp)]
  rfl

def h0 : den tHop := (0, 0, 0, 0, 0)

def keyOf (t : den tTopology) (r : Int) : Int := ((t.1[r.toNat]?).getD (0, false, 0)).2.2

def verH (t : den tTopology) (ts beta : Int) (h : den tHop) : Bool := validH h && (asOk t h.1 && (h.2.2.2.2 == macH (keyOf t h.1) ts beta h))

theorem i_verH {t : den tTopology} {ts beta : Int} {h : den tHop} (ht : t.1.length ≤ 68719476736) : i_VerifyHop t ts beta h = some (verH t ts beta h) := by
  unfold i_VerifyHop verH
  simp only [peta, i_validH, i_asOk ht, obind_some, i_macH]
  cases validH h
  · rfl
  · cases c : asOk t h.1
    · rfl
    · obtain ⟨x, hx, ix⟩ := as_at c
      rw [ix, keyOf, hx]
      rfl

theorem s_verH {t : den tTopology} {ts beta : Int} {h : den tHop} (ht : t.1.length ≤ 68719476736) : s_VerifyHop t ts beta h = some (verH t ts beta h) :=
  (show s_VerifyHop t ts beta h = i_VerifyHop t ts beta h from rfl).trans (i_verH ht)

def hopP (t : den tTopology) (l : List (den tHop)) (k : Nat) (x : den tHop) : Bool := validH x && (asOk t x.1 && (l.take k).all fun y => !(y.1 == x.1))

def hopsV (t : den tTopology) (l : List (den tHop)) : Bool := (l.zipIdx 0).all fun z => hopP t l z.2 z.1

theorem i_hopsV {t : den tTopology} {l : List (den tHop)} (ht : t.1.length ≤ 68719476736) (hl : l.length ≤ 68719476736) : i_hopsOk t l = some (inR (l.length : Int) 1 8 && hopsV t l) := by
  unfold i_hopsOk hopsV
  rw [loop_scan (l := l) (fun k x => if hopP t l k x then none else some false) (by omega) (fun k x hi hd hw hm hk => by
    simp only [hd, hi, cond_true, obind_some, peta, i_validH, i_asOk ht, slOk_take hk, cut_take, hw]
    rw [loop_scan (l := l.take k) (fun _ y => if !(y.1 == x.1) then none else some (Sum.inr (Sum.inr false))) (by rw [len_take hk]; omega) (fun j y hi hd hw hm hk => by
      simp only [hd, hi, hw, cond_true, obind_some]
      cases y.1 == x.1 <;> rfl) (by simp), scanA (fun y : den tHop => !(y.1 == x.1))]
    unfold hopP
    cases validH x <;> cases asOk t x.1 <;> cases (l.take k).all (fun y => !(y.1 == x.1)) <;> rfl) (by simp), scanB (hopP t l)]
  rw [i_in, obind_some]
  cases inR (l.length : Int) 1 8 <;> cases (l.zipIdx 0).all (fun z => hopP t l z.2 z.1) <;> rfl

def lnkP (t : den tTopology) (p : den tPathPart) (x y : den tHop) : Bool := !(pEg p x == 0) && ((remote t x.1 (pEg p x)).1 == y.1 && (remote t x.1 (pEg p x)).2 == pIn p y)

def lnkAt (t : den tTopology) (p : den tPathPart) (k : Nat) (y : den tHop) : Bool := decide (k = 0) || lnkP t p ((p.2.2.2[k - 1]?).getD h0) y

def validPt (t : den tTopology) (p : den tPathPart) : Bool :=
  inR (p.2.2.2.length : Int) 1 8 && (inR p.1 1 4 && (inR p.2.1 0 1000000 && (resid p.2.2.1 && (hopsV t p.2.2.2 && (p.2.2.2.zipIdx 0).all fun z => lnkAt t p z.2 z.1))))

theorem drop_all (t : den tTopology) (p : den tPathPart) : ((p.2.2.2.drop 1).zipIdx 0).all (fun z => lnkP t p ((p.2.2.2[z.2]?).getD h0) z.1) = (p.2.2.2.zipIdx 0).all (fun z => lnkAt t p z.2 z.1) := by
  rw [Bool.eq_iff_iff, zip_iff (fun k x => lnkP t p ((p.2.2.2[k]?).getD h0) x), zip_iff (lnkAt t p)]
  constructor
  · intro h k x hx
    cases k with
    | zero => rfl
    | succ k =>
      have := h k x (by rw [List.getElem?_drop, Nat.add_comm]; exact hx)
      simpa [lnkAt] using this
  · intro h k x hx
    rw [List.getElem?_drop, Nat.add_comm] at hx
    have := h (k + 1) x hx
    simpa [lnkAt] using this

theorem ne_beq (a b : Int) : (a != b) = !(a == b) := rfl

theorem i_validPt {t : den tTopology} {p : den tPathPart} (ht : t.1.length ≤ 68719476736) (ht2 : t.2.length ≤ 68719476736) (hl : p.2.2.2.length ≤ 68719476736) : i_ValidPart t p = some (validPt t p) := by
  unfold i_ValidPart validPt
  rw [loop_scan (l := p.2.2.2.drop 1) (fun k y => if lnkP t p ((p.2.2.2[k]?).getD h0) y then none else some false) (by rw [List.length_drop]; omega) (fun k y hi hd hw hm hk => by
    have hy : p.2.2.2[k + 1]? = some y := by rw [idx_nat, List.getElem?_drop, Nat.add_comm] at hi; exact hi
    have hlt : k + 1 < p.2.2.2.length := (List.getElem?_eq_some_iff.1 hy).1
    obtain ⟨x, hx⟩ : ∃ x, p.2.2.2[k]? = some x := ⟨_, List.getElem?_eq_getElem (by omega)⟩
    have hd' : decide ((k : Int) < wr ((p.2.2.2.length : Int) - 1)) = true := by rw [wr_less hl]; simp; omega
    have hy' : idx p.2.2.2 ((k + 1 : Nat) : Int) = some y := by rw [idx_nat]; exact hy
    simp only [hd', cond_true, peta, i_pEg hx hl, obind_some, idx_nat, hx, hw, hy, i_pIn hy hl, i_remote ht2, Option.getD_some, ne_beq]
    unfold lnkP
    cases pEg p x == 0 <;> cases (remote t x.1 (pEg p x)).1 == y.1 <;> cases (remote t x.1 (pEg p x)).2 == pIn p y <;> rfl) (by
      rw [List.length_drop, wr_less hl, decide_eq_false (by omega)]; rfl), scanB (fun k y => lnkP t p ((p.2.2.2[k]?).getD h0) y), drop_all]
  simp only [peta, i_in, i_hopsV ht hl, i_resid, obind_some]
  cases inR (p.2.2.2.length : Int) 1 8 <;> cases inR p.1 1 4 <;> cases inR p.2.1 0 1000000 <;> cases resid p.2.2.1 <;> cases hopsV t p.2.2.2 <;> cases (p.2.2.2.zipIdx 0).all (fun z => lnkAt t p z.2 z.1) <;> rfl

theorem forL_all {α S : Type} (p : Nat → α → Bool) (o r : S) : ∀ (l : List α) (k : Nat), forL (fun k x (_ : Unit) => if p k x then .inl () else .inr r) (fun _ => o) k l () = if (l.zipIdx k).all (fun z => p z.2 z.1) then o else r
  | [], _ => rfl
  | x :: xs, k => by
    simp only [forL, List.zipIdx_cons, List.all_cons]
    rcases Bool.eq_false_or_eq_true (p k x) with h | h
    · simp only [h, if_true, Bool.true_and]; exact forL_all p o r xs (k + 1)
    · simp [h]

theorem s_realms {p : den tPathPart} (hl : p.2.2.2.length ≤ 68719476736) : s_l21Realms p = some (p.2.2.2.map (·.1)) := by
  unfold s_l21Realms
  rw [(loopF (fun k (a : List Int) => ((k : Int), a)) ((0 : Int), []) [] p.2.2.2 (fun _ x a => a ++ [x.1]) List.length (fun _ => 1) 68719476736 id rfl (by omega) (by rw [sum_one]; simpa using hl) (fun k x a hi hx hd hw hk hb => by
    simp only [hd, hi, hw, cond_true, obind_some, apOk_le (b := 8) (by decide) hb]
    simp) (fun a => by simp)).1, foldI_map (fun x : den tHop => x.1)]
  simp

theorem hasI_map (l : List (den tHop)) (k : Nat) (n : Int) : hasI ((l.map (·.1)).take k) n = !((l.take k).all fun y => !(y.1 == n)) := by
  unfold hasI
  rw [← List.map_take, List.all_map]
  rfl

theorem s_validPt {t : den tTopology} {p : den tPathPart} (ht : t.1.length ≤ 68719476736) (ht2 : t.2.length ≤ 68719476736) (hl : p.2.2.2.length ≤ 68719476736) : s_ValidPart t p = some (validPt t p) := by
  unfold s_ValidPart validPt
  simp only [peta, s_realms hl, obind_some]
  have hR : (p.2.2.2.map (·.1)).length = p.2.2.2.length := by simp
  rw [loopE (fun k (_ : Unit) => (p.2.2.2.map (·.1), (k : Int))) (p.2.2.2.map (·.1), (0 : Int)) () p.2.2.2 (fun k x _ => if (hopP t p.2.2.2 k x && lnkAt t p k x) then .inl () else .inr (.inr false)) (fun _ _ => True) (fun _ => .inl ()) rfl (by omega) trivial (fun k x a hi hx hd hw hk _ => by
    refine ⟨?_, fun _ _ => trivial⟩
    have hr : (p.2.2.2.map (·.1))[k]? = some x.1 := by rw [List.getElem?_map, hx]; rfl
    have hs : slOk (0 : Int) (k : Int) ((p.2.2.2.map (·.1)).length : Int) = true := by rw [hR]; exact slOk_take hk
    have hh : s_l9Has ((p.2.2.2.map (·.1)).take k) x.1 = some (!((p.2.2.2.take k).all fun y => !(y.1 == x.1))) := by
      rw [s_hasI (by simp; omega), hasI_map]
    simp only [hd, cond_true, hi, idx_nat, hr, obind_some, s_validH, s_asOk ht, hs, cut_take, hh, hw]
    cases k with
    | zero =>
      rw [show decide (((0 : Nat) : Int) > 0) = false from by decide]
      unfold hopP lnkAt
      cases validH x <;> cases asOk t x.1 <;> cases (p.2.2.2.take 0).all (fun y => !(y.1 == x.1)) <;> rfl
    | succ j =>
      have hw1 : wr (((j + 1 : Nat) : Int) - 1) = (j : Int) := (wrap_in (by omega) (by omega)).trans (by omega)
      obtain ⟨y, hy⟩ : ∃ y, p.2.2.2[j]? = some y := ⟨_, List.getElem?_eq_getElem (by omega)⟩
      have hr1 : (p.2.2.2.map (·.1))[j]? = some y.1 := by rw [List.getElem?_map, hy]; rfl
      rw [show decide (((j + 1 : Nat) : Int) > 0) = true from by simp]
      simp only [hw1, idx_nat, hr1, obind_some, s_pEg hy hl, s_pIn hx hl, s_remote ht2, cond_true, ne_beq]
      unfold hopP lnkAt lnkP
      rw [Nat.add_sub_cancel, hy, Option.getD_some]
      cases validH x <;> cases asOk t x.1 <;> cases (p.2.2.2.take (j + 1)).all (fun y => !(y.1 == x.1)) <;> cases pEg p y == 0 <;> cases (remote t y.1 (pEg p y)).1 == x.1 <;> cases (remote t y.1 (pEg p y)).2 == pIn p x <;> rfl) (fun a _ => by simp)]
  rw [forL_all (fun k x => hopP t p.2.2.2 k x && lnkAt t p k x)]
  have hsplit : (p.2.2.2.zipIdx 0).all (fun z => hopP t p.2.2.2 z.2 z.1 && lnkAt t p z.2 z.1) = (hopsV t p.2.2.2 && (p.2.2.2.zipIdx 0).all fun z => lnkAt t p z.2 z.1) := by
    unfold hopsV
    rw [Bool.eq_iff_iff]
    simp only [List.all_eq_true, Bool.and_eq_true]
    exact ⟨fun h => ⟨fun z hz => (h z hz).1, fun z hz => (h z hz).2⟩, fun h z hz => ⟨h.1 z hz, h.2 z hz⟩⟩
  rw [hsplit]
  simp only [s_in, s_resid, obind_some]
  cases inR (p.2.2.2.length : Int) 1 8 <;> cases inR p.1 1 4 <;> cases inR p.2.1 0 1000000 <;> cases resid p.2.2.1 <;> cases hopsV t p.2.2.2 <;> cases (p.2.2.2.zipIdx 0).all (fun z => lnkAt t p z.2 z.1) <;> rfl

def placeK (k : Int) : Int := cond (k == 1) 1 (cond (k == 2 || k == 3) 2 3)

theorem i_placeK (k : Int) : i_placeOf k = some (placeK k) := by
  unfold i_placeOf placeK
  cases k == 1 <;> cases k == 2 <;> cases k == 3 <;> rfl

theorem s_placeK (k : Int) : s_l22Rank k = some (placeK k) := i_placeK k

def pt0 : den tPathPart := (0, 0, 0, [])

def lastH (y : den tPathPart) : den tHop := (y.2.2.2[y.2.2.2.length - 1]?).getD h0

def headH (y : den tPathPart) : den tHop := (y.2.2.2[0]?).getD h0

def joinP (y x : den tPathPart) : Bool := !decide (placeK y.1 ≥ placeK x.1) && (lastH y).1 == (headH x).1

def wfAt (t : den tTopology) (p : den tPath) (k : Nat) (x : den tPathPart) : Bool := validPt t x && (decide (k = 0) || joinP ((p[k - 1]?).getD pt0) x)

def wfP (t : den tTopology) (p : den tPath) : Bool := inR (p.length : Int) 1 3 && (p.zipIdx 0).all fun z => wfAt t p z.2 z.1

theorem validPt_pos {t : den tTopology} {p : den tPathPart} (h : validPt t p = true) : 0 < p.2.2.2.length := by
  unfold validPt at h
  rw [Bool.and_eq_true] at h
  have := inR_iff.1 h.1
  omega

theorem last_idx {y : den tPathPart} (h : 0 < y.2.2.2.length) (hl : y.2.2.2.length ≤ 68719476736) : idx y.2.2.2 (wr ((y.2.2.2.length : Int) - 1)) = some (lastH y) := by
  rw [wr_pos hl h, idx_nat]
  unfold lastH
  rw [List.getElem?_eq_getElem (show y.2.2.2.length - 1 < y.2.2.2.length by omega)]
  rfl

theorem head_idx {y : den tPathPart} (h : 0 < y.2.2.2.length) : idx y.2.2.2 (0 : Int) = some (headH y) := by
  have : idx y.2.2.2 ((0 : Nat) : Int) = y.2.2.2[0]? := idx_nat
  rw [show (0 : Int) = ((0 : Nat) : Int) from rfl, this]
  unfold headH
  rw [List.getElem?_eq_getElem h]
  rfl

theorem i_wfP {t : den tTopology} {p : den tPath} (ht : t.1.length ≤ 68719476736) (ht2 : t.2.length ≤ 68719476736) (h : SmB 68719476736 tPath p) : i_WellFormedPath t p = some (wfP t p) := by
  have lp := h.1
  have lh : ∀ (k : Nat) (x : den tPathPart), p[k]? = some x → x.2.2.2.length ≤ 68719476736 := fun k x hx => (h.2 x (List.mem_of_getElem? hx)).2.2.2.1
  unfold i_WellFormedPath wfP
  rw [loopE (fun k (_ : Unit) => (k : Int)) (0 : Int) () p (fun k x _ => if wfAt t p k x then .inl () else .inr (.inr false)) (fun k _ => ∀ j y, j < k → p[j]? = some y → 0 < y.2.2.2.length) (fun _ => .inl ()) rfl (by omega) (fun j y hj => absurd hj (Nat.not_lt_zero _)) (fun k x a hi hx hd hw hk hI => by
    have hlx := lh k x hx
    refine ⟨?_, fun a' ha j y hj hy => ?_⟩
    · simp only [hd, cond_true, hi, obind_some, peta, i_validPt ht ht2 hlx, hw]
      cases hv : validPt t x with
      | false => unfold wfAt; rw [hv]; rfl
      | true =>
        cases k with
        | zero =>
          rw [show decide (((0 : Nat) : Int) > 0) = false from by decide]
          unfold wfAt; rw [hv]; rfl
        | succ j =>
          have hw1 : wr (((j + 1 : Nat) : Int) - 1) = (j : Int) := (wrap_in (by omega) (by omega)).trans (by omega)
          obtain ⟨y, hy⟩ : ∃ y, p[j]? = some y := ⟨_, List.getElem?_eq_getElem (by omega)⟩
          rw [show decide (((j + 1 : Nat) : Int) > 0) = true from by simp]
          simp only [hw1, idx_nat, hy, obind_some, i_placeK, last_idx (hI j y (Nat.lt_succ_self j) hy) (lh j y hy), head_idx (validPt_pos hv), cond_true, ne_beq, Bool.not_true, cond_false]
          unfold wfAt joinP
          rw [Nat.add_sub_cancel, hy, Option.getD_some, hv]
          cases decide (placeK y.1 ≥ placeK x.1) <;> cases (lastH y).1 == (headH x).1 <;> rfl
    · rcases Nat.lt_succ_iff_lt_or_eq.1 hj with hj | rfl
      · exact hI j y hj hy
      · rw [hx] at hy
        injection hy with hy
        subst hy
        rcases Bool.eq_false_or_eq_true (wfAt t p j x) with hb | hb
        · unfold wfAt at hb
          rw [Bool.and_eq_true] at hb
          exact validPt_pos hb.1
        · simp [hb] at ha) (fun a _ => by simp)]
  rw [forL_all (wfAt t p), i_in, obind_some]
  cases inR (p.length : Int) 1 3 <;> cases (p.zipIdx 0).all (fun z => wfAt t p z.2 z.1) <;> rfl

theorem s_wfP {t : den tTopology} {p : den tPath} (ht : t.1.length ≤ 68719476736) (ht2 : t.2.length ≤ 68719476736) (h : SmB 68719476736 tPath p) : s_WellFormedPath t p = some (wfP t p) := by
  have lp := h.1
  have lh : ∀ (k : Nat) (x : den tPathPart), p[k]? = some x → x.2.2.2.length ≤ 68719476736 := fun k x hx => (h.2 x (List.mem_of_getElem? hx)).2.2.2.1
  unfold s_WellFormedPath wfP
  rw [loopE (fun k (_ : Unit) => (k : Int)) (0 : Int) () p (fun k x _ => if wfAt t p k x then .inl () else .inr (.inr false)) (fun k _ => ∀ j y, j < k → p[j]? = some y → 0 < y.2.2.2.length) (fun _ => .inl ()) rfl (by omega) (fun j y hj => absurd hj (Nat.not_lt_zero _)) (fun k x a hi hx hd hw hk hI => by
    have hlx := lh k x hx
    refine ⟨?_, fun a' ha j y hj hy => ?_⟩
    · simp only [hd, cond_true, hi, obind_some, peta, s_validPt ht ht2 hlx, hw]
      cases hv : validPt t x with
      | false => unfold wfAt; rw [hv]; rfl
      | true =>
        cases k with
        | zero =>
          rw [show decide (((0 : Nat) : Int) > 0) = false from by decide]
          unfold wfAt; rw [hv]; rfl
        | succ j =>
          have hw1 : wr (((j + 1 : Nat) : Int) - 1) = (j : Int) := (wrap_in (by omega) (by omega)).trans (by omega)
          obtain ⟨y, hy⟩ : ∃ y, p[j]? = some y := ⟨_, List.getElem?_eq_getElem (by omega)⟩
          rw [show decide (((j + 1 : Nat) : Int) > 0) = true from by simp]
          simp only [hw1, idx_nat, hy, obind_some, s_placeK, last_idx (hI j y (Nat.lt_succ_self j) hy) (lh j y hy), head_idx (validPt_pos hv), cond_true, ne_beq, Bool.not_true, cond_false]
          unfold wfAt joinP
          rw [Nat.add_sub_cancel, hy, Option.getD_some, hv]
          cases decide (placeK y.1 ≥ placeK x.1) <;> cases (lastH y).1 == (headH x).1 <;> rfl
    · rcases Nat.lt_succ_iff_lt_or_eq.1 hj with hj | rfl
      · exact hI j y hj hy
      · rw [hx] at hy
        injection hy with hy
        subst hy
        rcases Bool.eq_false_or_eq_true (wfAt t p j x) with hb | hb
        · unfold wfAt at hb
          rw [Bool.and_eq_true] at hb
          exact validPt_pos hb.1
        · simp [hb] at ha) (fun a _ => by simp)]
  rw [forL_all (wfAt t p), s_in, obind_some]
  cases inR (p.length : Int) 1 3 <;> cases (p.zipIdx 0).all (fun z => wfAt t p z.2 z.1) <;> rfl

def newAt (l : List Int) (k : Nat) (n : Int) : Bool := !hasI (l.take k) n

def simpleP (t : den tTopology) (p : den tPath) : Bool := wfP t p && ((usedI p).zipIdx 0).all fun z => newAt (usedI p) z.2 z.1

theorem path_sm {p : den tPath} (h : tot tPath p ≤ 1073741824) : SmB 68719476736 tPath p := (sm_of_tot h).mono (by decide)

theorem i_simpleP {t : den tTopology} {p : den tPath} (ht : t.1.length ≤ 68719476736) (ht2 : t.2.length ≤ 68719476736) (h : tot tPath p ≤ 1073741824) : i_SimplePath t p = some (simpleP t p) := by
  have hu := usedI_len p
  unfold i_SimplePath simpleP
  simp only [peta, i_wfP ht ht2 (path_sm h), i_usedI h, obind_some]
  rw [loopE (fun k (_ : Unit) => (usedI p, usedI p, (k : Int))) (usedI p, usedI p, (0 : Int)) () (usedI p) (fun k x _ => if newAt (usedI p) k x then .inl () else .inr (.inr false)) (fun _ _ => True) (fun _ => .inl ()) rfl (by omega) trivial (fun k x a hi hx hd hw hk _ => by
    refine ⟨?_, fun _ _ => trivial⟩
    simp only [hd, cond_true, hi, obind_some, slOk_take hk, cut_take, hw, i_hasI (l := (usedI p).take k) (n := x) (by simp; omega)]
    unfold newAt
    cases hasI ((usedI p).take k) x <;> rfl) (fun a _ => by simp)]
  rw [forL_all (newAt (usedI p))]
  cases wfP t p <;> cases ((usedI p).zipIdx 0).all (fun z => newAt (usedI p) z.2 z.1) <;> rfl

theorem s_simpleP {t : den tTopology} {p : den tPath} (ht : t.1.length ≤ 68719476736) (ht2 : t.2.length ≤ 68719476736) (h : tot tPath p ≤ 1073741824) : s_SimplePath t p = some (simpleP t p) := by
  have hu := usedI_len p
  unfold s_SimplePath simpleP
  simp only [peta, s_wfP ht ht2 (path_sm h), s_usedI h, obind_some]
  rw [loopE (fun k (_ : Unit) => (usedI p, (k : Int))) (usedI p, (0 : Int)) () (usedI p) (fun k x _ => if newAt (usedI p) k x then .inl () else .inr (.inr false)) (fun _ _ => True) (fun _ => .inl ()) rfl (by omega) trivial (fun k x a hi hx hd hw hk _ => by
    refine ⟨?_, fun _ _ => trivial⟩
    simp only [hd, cond_true, hi, obind_some, slOk_take hk, cut_take, hw, s_hasI (l := (usedI p).take k) (n := x) (by simp; omega)]
    unfold newAt
    cases hasI ((usedI p).take k) x <;> rfl) (fun a _ => by simp)]
  rw [forL_all (newAt (usedI p))]
  cases wfP t p <;> cases ((usedI p).zipIdx 0).all (fun z => newAt (usedI p) z.2 z.1) <;> rfl

def curPt (p : den tPacket) : den tPathPart := (p.2.2.2.1[p.2.2.2.2.1.toNat]?).getD pt0

def curHp (p : den tPacket) : den tHop := ((curPt p).2.2.2[p.2.2.2.2.2.1.toNat]?).getD h0

theorem hop_at {p : den tPacket} (h : hasHop p = true) : ∃ (i j : Nat), p.2.2.2.2.1 = (i : Int) ∧ p.2.2.2.2.2.1 = (j : Int) ∧ p.2.2.2.1[i]? = some (curPt p) ∧ (curPt p).2.2.2[j]? = some (curHp p) ∧ curAS p = (curHp p).1 := by
  obtain ⟨i, j, x, y, h1, h2, h3, h4, h5⟩ := hasHop_iff h
  have e1 : curPt p = x := by unfold curPt; rw [h1, Int.toNat_natCast, h3]; rfl
  have e2 : curHp p = y := by unfold curHp; rw [e1, h2, Int.toNat_natCast, h4]; rfl
  exact ⟨i, j, h1, h2, by rw [e1]; exact h3, by rw [e1, e2]; exact h4, by rw [e2]; exact h5⟩

theorem cur_hop {p : den tPacket} (h : 0 ≤ curAS p) : hasHop p = true := by
  cases c : hasHop p with
  | true => rfl
  | false => rw [curAS_no c] at h; omega

theorem pk_sm {p : den tPacket} (h : tot tPacket p ≤ 34359738368) : SmB 68719476736 tPacket p := (sm_of_tot h).mono (by decide)

theorem pt_len {p : den tPacket} (h : SmB 68719476736 tPacket p) {i : Nat} {x : den tPathPart} (hx : p.2.2.2.1[i]? = some x) : x.2.2.2.length ≤ 68719476736 := (h.2.2.2.1.2 x (List.mem_of_getElem? hx)).2.2.2.1

/-- Is the current hop the last one of its part? -/
def lastPt (p : den tPacket) : Bool := p.2.2.2.2.2.1 == ((curPt p).2.2.2.length : Int) - 1

def lastIn (p : den tPacket) : Bool := p.2.2.2.2.1 == (p.2.2.2.1.length : Int) - 1

def atLast (p : den tPacket) : Bool := decide (curAS p ≥ 0) && (lastPt p && lastIn p)

theorem i_lastPt {p : den tPacket} (h : SmB 68719476736 tPacket p) (hh : hasHop p = true) : i_lastOfPart p = some (lastPt p) := by
  obtain ⟨i, j, h1, h2, h3, h4, _⟩ := hop_at hh
  unfold i_lastOfPart lastPt
  rw [h1, idx_nat, h3, obind_some, wr_less (pt_len h h3)]

theorem i_atLast {p : den tPacket} (h : SmB 68719476736 tPacket p) : i_AtLastHop p = some (atLast p) := by
  unfold i_AtLastHop atLast
  simp only [peta, i_curAS h, obind_some]
  cases c : decide (curAS p ≥ 0)
  · rfl
  · have hh := cur_hop (of_decide_eq_true c)
    have l1 := h.2.2.2.1.1
    simp only [cond_true, i_lastPt h hh, obind_some, wr_less l1]
    unfold lastIn
    cases lastPt p <;> rfl

theorem s_atLast {p : den tPacket} (h : SmB 68719476736 tPacket p) : s_AtLastHop p = some (atLast p) := by
  unfold s_AtLastHop atLast
  simp only [peta, s_curAS h, obind_some]
  cases c : decide (curAS p ≥ 0)
  · rfl
  · have hh := cur_hop (of_decide_eq_true c)
    have l1 := h.2.2.2.1.1
    obtain ⟨i, j, h1, h2, h3, h4, _⟩ := hop_at hh
    simp only [cond_true, wr_less l1]
    unfold lastIn lastPt
    rw [h1, idx_nat, h3, obind_some, wr_less (pt_len h h3)]
    cases p.2.2.2.2.2.1 == ((curPt p).2.2.2.length : Int) - 1 <;> cases (i : Int) == (p.2.2.2.1.length : Int) - 1 <;> rfl

theorem i_copyK {p : den tPacket} (h : SmB 68719476736 tPacket p) : i_copyPacket p = some (pkR p) := by
  unfold i_copyPacket pkR
  rw [i_copyP h.2.2.2.1, i_copyB h.2.2.2.2.2.2.2.2.2.1]
  rfl

theorem s_copyK {p : den tPacket} (h : SmB 68719476736 tPacket p) : s_l26Copy p = some (pkR p) := by
  unfold s_l26Copy pkR
  rw [s_copyP h.2.2.2.1, apOk_le (b := 1) (n := ([] : List Int).length) (by decide) (by simpa using h.2.2.2.2.2.2.2.2.2.1)]
  simp

/-- The packet at another hop. -/
def goTo (p : den tPacket) (i j b : Int) : den tPacket := (p.1, p.2.1, p.2.2.1, p.2.2.2.1, i, j, b, p.2.2.2.2.2.2.2.1, p.2.2.2.2.2.2.2.2.1, p.2.2.2.2.2.2.2.2.2)

def nextPt (p : den tPacket) : den tPathPart := (p.2.2.2.1[p.2.2.2.2.1.toNat + 1]?).getD pt0

def adv (p : den tPacket) : den tPacket :=
  if decide (curAS p < 0) || atLast p then p
  else if lastPt p then goTo p (p.2.2.2.2.1 + 1) 0 (nextPt p).2.2.1 else goTo p p.2.2.2.2.1 (p.2.2.2.2.2.1 + 1) p.2.2.2.2.2.2.1

theorem next_at {p : den tPacket} (hh : hasHop p = true) (h0 : 0 ≤ curAS p) (hl : lastPt p = true) (ha : atLast p = false) : ∃ i : Nat, p.2.2.2.2.1 = (i : Int) ∧ p.2.2.2.1[i + 1]? = some (nextPt p) := by
  obtain ⟨i, j, h1, h2, h3, h4, _⟩ := hop_at hh
  refine ⟨i, h1, ?_⟩
  have hlt := (List.getElem?_eq_some_iff.1 h3).1
  have hne : lastIn p = false := by
    unfold atLast at ha
    rw [hl, decide_eq_true h0] at ha
    simpa using ha
  unfold lastIn at hne
  rw [h1] at hne
  have hne : ¬ ((i : Int) = (p.2.2.2.1.length : Int) - 1) := by simpa using hne
  unfold nextPt
  rw [h1, Int.toNat_natCast, List.getElem?_eq_getElem (show i + 1 < p.2.2.2.1.length by omega)]
  rfl

theorem i_adv {p : den tPacket} (h : SmB 68719476736 tPacket p) : i_AdvanceHop p = some (pkR (adv p)) := by
  unfold i_AdvanceHop adv
  simp only [peta, i_copyK h, i_curAS h, i_atLast h, obind_some]
  cases c : decide (curAS p < 0)
  · cases ca : atLast p
    · have h0 : 0 ≤ curAS p := by have := of_decide_eq_false c; omega
      have hh := cur_hop h0
      obtain ⟨i, j, h1, h2, h3, h4, _⟩ := hop_at hh
      have hlt := (List.getElem?_eq_some_iff.1 h3).1
      have hlt2 := (List.getElem?_eq_some_iff.1 h4).1
      have l1 : List.length p.2.2.2.1 ≤ 68719476736 := h.2.2.2.1.1
      have l2 := pt_len h h3
      simp only [cond_false, obind_some, i_lastPt h hh, Bool.or_self, Bool.false_eq_true, if_false]
      cases cl : lastPt p
      · simp only [cond_false, obind_some, Bool.false_eq_true, if_false]
        unfold pkR goTo
        rw [h2, show wr ((j : Int) + 1) = (j : Int) + 1 from wrap_in (by omega) (by omega)]
      · obtain ⟨i', e1, e2⟩ := next_at hh h0 cl ca
        have : i' = i := Int.ofNat.inj (e1.symm.trans h1)
        subst this
        have hw : wr (((i' : Nat) : Int) + 1) = ((i' + 1 : Nat) : Int) := (wrap_in (by omega) (by omega)).trans (by omega)
        simp only [cond_true, if_true]
        unfold pkR goTo
        simp only [h1, hw, idx_nat, e2, obind_some]
        rw [show ((i' + 1 : Nat) : Int) = (i' : Int) + 1 by omega]
    · rfl
  · rfl

theorem s_adv {p : den tPacket} (h : SmB 68719476736 tPacket p) : s_AdvanceHop p = some (pkR (adv p)) := by
  unfold s_AdvanceHop adv
  simp only [peta, s_copyK h, s_curAS h, s_atLast h, obind_some]
  cases c : decide (curAS p < 0)
  · cases ca : atLast p
    · have h0 : 0 ≤ curAS p := by have := of_decide_eq_false c; omega
      have hh := cur_hop h0
      obtain ⟨i, j, h1, h2, h3, h4, _⟩ := hop_at hh
      have hlt := (List.getElem?_eq_some_iff.1 h3).1
      have hlt2 := (List.getElem?_eq_some_iff.1 h4).1
      have l1 : List.length p.2.2.2.1 ≤ 68719476736 := h.2.2.2.1.1
      have l2 := pt_len h h3
      have hd : decide ((j : Int) < ((curPt p).2.2.2.length : Int) - 1) = !lastPt p := by
        have key : decide ((j : Int) < ((curPt p).2.2.2.length : Int) - 1) = !((j : Int) == ((curPt p).2.2.2.length : Int) - 1) := by
          rw [Bool.eq_iff_iff]
          simp only [decide_eq_true_eq, Bool.not_eq_true', beq_eq_false_iff_ne, ne_eq]
          omega
        unfold lastPt
        rw [h2]
        exact key
      simp only [cond_false, obind_some, Bool.or_self, Bool.false_eq_true, if_false, h1, h2, idx_nat, h3, wr_less l2, hd]
      cases cl : lastPt p
      · simp only [Bool.not_false, cond_true, Bool.false_eq_true, if_false]
        unfold pkR goTo
        rw [show wr ((j : Int) + 1) = (j : Int) + 1 from wrap_in (by omega) (by omega)]
        simp only [h1]
      · obtain ⟨i', e1, e2⟩ := next_at hh h0 cl ca
        have : i' = i := Int.ofNat.inj (e1.symm.trans h1)
        subst this
        have hw : wr (((i' : Nat) : Int) + 1) = ((i' + 1 : Nat) : Int) := (wrap_in (by omega) (by omega)).trans (by omega)
        simp only [Bool.not_true, cond_false, if_true]
        unfold pkR goTo
        simp only [hw, idx_nat, e2, obind_some]
        rw [show ((i' + 1 : Nat) : Int) = (i' : Int) + 1 by omega]
    · rfl
  · rfl

def bef (p : den tPacket) : Int := if isRev (curPt p).1 then subM p.2.2.2.2.2.2.1 (curHp p).2.2.2.2 else p.2.2.2.2.2.2.1

def aft (p : den tPacket) : Int := if isRev (curPt p).1 then subM p.2.2.2.2.2.2.1 (curHp p).2.2.2.2 else addM p.2.2.2.2.2.2.1 (curHp p).2.2.2.2

def sealOk (t : den tTopology) (p : den tPacket) : Bool := hasHop p && verH t (curPt p).2.1 (bef p) (curHp p)

def sealed (t : den tTopology) (p : den tPacket) : den tPacket := if sealOk t p then goTo p p.2.2.2.2.1 p.2.2.2.2.2.1 (aft p) else p

def sealR (p : den tPacket) (b : Bool) : Int × Int × Int × Int × Int × Int × Int × Int × Bool × (List (den tPathPart)) × (List Int) := (p.1, p.2.1, p.2.2.1, p.2.2.2.2.1, p.2.2.2.2.2.1, p.2.2.2.2.2.2.1, p.2.2.2.2.2.2.2.1, p.2.2.2.2.2.2.2.2.1, b, p.2.2.2.1, p.2.2.2.2.2.2.2.2.2)

theorem i_seal {t : den tTopology} {p : den tPacket} (ht : t.1.length ≤ 68719476736) (h : SmB 68719476736 tPacket p) : i_VerifyCurrentHop t p = some (sealR (sealed t p) (sealOk t p)) := by
  unfold i_VerifyCurrentHop sealed sealOk
  simp only [peta, i_copyK h, i_hop h, obind_some]
  cases c : hasHop p
  · rfl
  · obtain ⟨i, j, h1, h2, h3, h4, _⟩ := hop_at c
    simp only [h1, h2, idx_nat, h3, h4, obind_some, i_isRev, i_addM, i_subM, Bool.not_true, cond_false, Bool.true_and]
    unfold bef aft
    cases isRev (curPt p).1
    · simp only [cond_false, obind_some, i_verH ht, Bool.false_eq_true, if_false]
      cases verH t (curPt p).2.1 p.2.2.2.2.2.2.1 (curHp p)
      · simp only [Bool.not_false, cond_true, Bool.false_eq_true, if_false]; unfold sealR pkR; simp only [h1, h2]
      · simp only [Bool.not_true, cond_false, if_true]; unfold sealR pkR goTo; simp only [h1, h2]
    · simp only [cond_true, obind_some, i_verH ht, if_true]
      cases verH t (curPt p).2.1 (subM p.2.2.2.2.2.2.1 (curHp p).2.2.2.2) (curHp p)
      · simp only [Bool.not_false, cond_true, Bool.false_eq_true, if_false]; unfold sealR pkR; simp only [h1, h2]
      · simp only [Bool.not_true, cond_false, if_true]; unfold sealR pkR goTo; simp only [h1, h2]

theorem verH_as {t : den tTopology} {ts b : Int} {h : den tHop} (hv : h.1 < 0) : verH t ts b h = false := by
  unfold verH validH
  rw [inR_not.2 (fun hh => absurd hv (Int.not_lt.2 hh.1))]
  rfl

theorem s_seal {t : den tTopology} {p : den tPacket} (ht : t.1.length ≤ 68719476736) (h : SmB 68719476736 tPacket p) : s_VerifyCurrentHop t p = some (sealR (sealed t p) (sealOk t p)) := by
  unfold s_VerifyCurrentHop sealed sealOk
  simp only [peta, s_copyK h, s_curAS h, obind_some]
  cases c : hasHop p
  · rw [curAS_no c]; rfl
  · obtain ⟨i, j, h1, h2, h3, h4, h5⟩ := hop_at c
    rw [h5]
    by_cases hn : (curHp p).1 < 0
    · rw [decide_eq_true hn, verH_as hn]; rfl
    · simp only [decide_eq_false hn, cond_false, h1, h2, idx_nat, h3, h4, obind_some, s_isRev, s_addM, s_subM, Bool.true_and, s_verH ht]
      unfold bef aft
      cases isRev (curPt p).1
      · simp only [cond_false, Bool.false_eq_true, if_false]
        cases verH t (curPt p).2.1 p.2.2.2.2.2.2.1 (curHp p)
        · simp only [Bool.not_false, cond_true, Bool.false_eq_true, if_false]; unfold sealR pkR; simp only [h1, h2]
        · simp only [Bool.not_true, cond_false, if_true]; unfold sealR pkR goTo; simp only [h1, h2]
      · simp only [cond_true, if_true]
        cases verH t (curPt p).2.1 (subM p.2.2.2.2.2.2.1 (curHp p).2.2.2.2) (curHp p)
        · simp only [Bool.not_false, cond_true, Bool.false_eq_true, if_false]; unfold sealR pkR; simp only [h1, h2]
        · simp only [Bool.not_true, cond_false, if_true]; unfold sealR pkR goTo; simp only [h1, h2]

def inTime (p : den tPacket) (now : Int) : Bool := !decide (curAS p < 0) && (decide ((curPt p).2.1 ≤ now) && decide (now ≤ (curHp p).2.2.2.1))

theorem i_inTime {p : den tPacket} {now : Int} (h : SmB 68719476736 tPacket p) : i_CurrentHopValid p now = some (inTime p now) := by
  unfold i_CurrentHopValid inTime
  simp only [peta, i_curAS h, obind_some]
  cases c : decide (curAS p < 0)
  · have hh := cur_hop (p := p) (by have := of_decide_eq_false c; omega)
    obtain ⟨i, j, h1, h2, h3, h4, h5⟩ := hop_at hh
    simp only [cond_false, h1, h2, idx_nat, h3, h4, obind_some, i_HopValidAt]
    cases decide ((curPt p).2.1 ≤ now) <;> rfl
  · rfl

theorem s_inTime {p : den tPacket} {now : Int} (h : SmB 68719476736 tPacket p) : s_CurrentHopValid p now = some (inTime p now) := by
  unfold s_CurrentHopValid inTime
  simp only [peta, s_curAS h, obind_some]
  cases c : decide (curAS p < 0)
  · have hh := cur_hop (p := p) (by have := of_decide_eq_false c; omega)
    obtain ⟨i, j, h1, h2, h3, h4, h5⟩ := hop_at hh
    simp only [cond_false, h1, h2, idx_nat, h3, h4, obind_some, s_HopValidAt]
    cases decide ((curPt p).2.1 ≤ now) <;> rfl
  · rfl

def chkC (t : den tTopology) (now : Int) (p : den tPacket) : Int := if sealOk t p then (if inTime p now then 0 else 5) else 4

def goC (t : den tTopology) (now : Int) : Nat → den tPacket → Int × den tPacket
  | 0, p => (chkC t now p, sealed t p)
  | n + 1, p => if chkC t now p == 0 && (lastPt (sealed t p) && !atLast (sealed t p)) then goC t now n (adv (sealed t p)) else (chkC t now p, sealed t p)

theorem sealed_tot (t : den tTopology) (p : den tPacket) : tot tPacket (sealed t p) = tot tPacket p := by
  unfold sealed; split <;> rfl

theorem adv_tot (p : den tPacket) : tot tPacket (adv p) = tot tPacket p := by
  unfold adv; split
  · rfl
  · split <;> rfl

theorem sealed_time (t : den tTopology) (p : den tPacket) (now : Int) : inTime (sealed t p) now = inTime p now := by
  unfold sealed; split <;> rfl

theorem sealed_cur (t : den tTopology) (p : den tPacket) : hasHop (sealed t p) = hasHop p ∧ curAS (sealed t p) = curAS p ∧ curHp (sealed t p) = curHp p ∧ (sealed t p).2.2.2.1 = p.2.2.2.1 ∧ (sealed t p).2.2.2.2.1 = p.2.2.2.2.1 := by
  unfold sealed; split <;> exact ⟨rfl, rfl, rfl, rfl, rfl⟩

theorem chk_zero {t : den tTopology} {now : Int} {p : den tPacket} (h : chkC t now p = 0) : hasHop p = true ∧ 0 ≤ curAS p := by
  unfold chkC at h
  split at h
  · rename_i hs
    unfold sealOk at hs
    rw [Bool.and_eq_true] at hs
    refine ⟨hs.1, ?_⟩
    obtain ⟨i, j, h1, h2, h3, h4, h5⟩ := hop_at hs.1
    rw [h5]
    by_cases hn : (curHp p).1 < 0
    · rw [verH_as hn] at hs; cases hs.2
    · exact Int.not_lt.1 hn
  · cases h

theorem adv_part {p : den tPacket} (h0 : 0 ≤ curAS p) (hc : (lastPt p && !atLast p) = true) : (adv p).2.2.2.1 = p.2.2.2.1 ∧ (adv p).2.2.2.2.1 = p.2.2.2.2.1 + 1 := by
  rw [Bool.and_eq_true] at hc
  have ha : atLast p = false := by simpa using hc.2
  unfold adv
  rw [decide_eq_false (by omega), ha, hc.1]
  exact ⟨rfl, rfl⟩

theorem go_loop {t : den tTopology} {now : Int} {S R : Type} (enc : Int → den tPacket → S) (out : S → R) {step : S → Option (S ⊕ R)} (st : den tPacket → den tPacket) (hst : ∀ p, chkC t now p = 0 → st p = sealed t p)
    (hstop : ∀ c p, c ≠ 0 → step (enc c p) = some (.inr (out (enc c p))))
    (hgo : ∀ q, tot tPacket q ≤ 34359738368 → hasHop q = true → 0 ≤ curAS q → step (enc 0 q) = some (if lastPt q && !atLast q then .inl (enc (chkC t now (adv q)) (st (adv q))) else .inr (out (enc 0 q)))) :
    ∀ (n : Nat) (p : den tPacket), tot tPacket p ≤ 34359738368 → p.2.2.2.1.length - p.2.2.2.2.1.toNat ≤ n → ∃ r, loopM step (enc (chkC t now p) (st p)) = some (out (enc (goC t now n p).1 r)) ∧ ((goC t now n p).1 = 0 → r = (goC t now n p).2) := by
  intro n
  induction n with
  | zero =>
    intro p hp hm
    by_cases hc : chkC t now p = 0
    · obtain ⟨hh, h0⟩ := chk_zero hc
      obtain ⟨i, j, h1, h2, h3, h4, h5⟩ := hop_at hh
      have hlt := (List.getElem?_eq_some_iff.1 h3).1
      rw [h1, Int.toNat_natCast] at hm
      exact absurd hlt (by omega)
    · exact ⟨_, loopM_done (hstop _ _ hc), fun h => absurd h hc⟩
  | succ n ih =>
    intro p hp hm
    by_cases hc : chkC t now p = 0
    · obtain ⟨hh, h0⟩ := chk_zero hc
      obtain ⟨e1, e2, e3, e4, e5⟩ := sealed_cur t p
      have hq := hgo (sealed t p) (by rw [sealed_tot]; exact hp) (by rw [e1]; exact hh) (by rw [e2]; exact h0)
      rw [hst p hc]
      cases hb : lastPt (sealed t p) && !atLast (sealed t p) with
      | false =>
        rw [hb] at hq
        have hg : goC t now (n + 1) p = (chkC t now p, sealed t p) := by
          show (if _ then _ else _) = _
          rw [hb, Bool.and_false]; rfl
        rw [hg, hc]
        exact ⟨sealed t p, loopM_done hq, fun _ => rfl⟩
      | true =>
        rw [hb, if_pos rfl] at hq
        have hg : goC t now (n + 1) p = goC t now n (adv (sealed t p)) := by
          show (if _ then _ else _) = _
          rw [hb, hc]; rfl
        rw [hg, hc, loopM_next hq]
        obtain ⟨a1, a2⟩ := adv_part (p := sealed t p) (by rw [e2]; exact h0) hb
        obtain ⟨i, j, h1, h2, h3, h4, h5⟩ := hop_at hh
        refine ih (adv (sealed t p)) (by rw [adv_tot, sealed_tot]; exact hp) ?_
        rw [a1, a2, e4, e5, h1]
        rw [h1, Int.toNat_natCast] at hm
        have : ((i : Int) + 1).toNat = i + 1 := by omega
        rw [this]
        omega
    · have hg : goC t now (n + 1) p = (chkC t now p, sealed t p) := by
        show (if _ then _ else _) = _
        rw [show (chkC t now p == 0) = false from by simpa using hc]; rfl
      rw [hg]
      exact ⟨_, loopM_done (hstop _ _ hc), fun h => absurd h hc⟩

def wantI (p : den tPacket) : Int := if p.2.2.2.2.1 == 0 && p.2.2.2.2.2.1 == 0 then 0 else pIn (curPt p) (curHp p)

/-- The packet when its hops are checked. -/
def gone (t : den tTopology) (now : Int) (p : den tPacket) : Int × den tPacket := goC t now (p.2.2.2.1.length - p.2.2.2.2.1.toNat) p

/-- What Forward decides: code, egress, packet; and the egress that was found. -/
def fwd (t : den tTopology) (r now dead inn : Int) (p : den tPacket) : Int × Int × den tPacket × Int :=
  if !validK p || (!simpleP t p.2.2.2.1 || !(curAS p == r)) then (2, 0, p, 0)
  else if !(inn == wantI p) then (3, 0, p, 0)
  else if !((gone t now p).1 == 0) then ((gone t now p).1, 0, p, 0)
  else if atLast (gone t now p).2 then (if (gone t now p).2.2.2.1 == r then (1, 0, (gone t now p).2, 0) else (2, 0, p, 0))
  else if !stepA t (r, inn, pEg (curPt (gone t now p).2) (curHp (gone t now p).2)) then (6, 0, p, 0)
  else if inSet dead (pEg (curPt (gone t now p).2) (curHp (gone t now p).2)) then (7, 0, p, pEg (curPt (gone t now p).2) (curHp (gone t now p).2))
  else (0, pEg (curPt (gone t now p).2) (curHp (gone t now p).2), adv (gone t now p).2, pEg (curPt (gone t now p).2) (curHp (gone t now p).2))

def fwI (v : Int × Int × den tPacket × Int) : Int × Int × Int × Int × Int × (List (den tPathPart)) × Int × Int × Int × Int × Int × (List Int) × Int :=
  (v.1, v.2.1, v.2.2.1.1, v.2.2.1.2.1, v.2.2.1.2.2.1, v.2.2.1.2.2.2.1, v.2.2.1.2.2.2.2.1, v.2.2.1.2.2.2.2.2.1, v.2.2.1.2.2.2.2.2.2.1, v.2.2.1.2.2.2.2.2.2.2.1, v.2.2.1.2.2.2.2.2.2.2.2.1, v.2.2.1.2.2.2.2.2.2.2.2.2, v.2.2.2)

def fwS (v : Int × Int × den tPacket × Int) : Int × Int × Int × Int × Int × Int × Int × Int × Int × Int × (List (den tPathPart)) × (List Int) := (v.1, v.2.1, pkR v.2.2.1)

theorem goC_hop {t : den tTopology} {now : Int} : ∀ (n : Nat) (p : den tPacket), (goC t now n p).1 = 0 → hasHop (goC t now n p).2 = true ∧ 0 ≤ curAS (goC t now n p).2 ∧ tot tPacket (goC t now n p).2 = tot tPacket p
  | 0, p, h => by
    obtain ⟨h1, h2⟩ := chk_zero (show chkC t now p = 0 from h)
    obtain ⟨e1, e2, _⟩ := sealed_cur t p
    exact ⟨e1.trans h1, by rw [show (goC t now 0 p).2 = sealed t p from rfl, e2]; exact h2, sealed_tot t p⟩
  | n + 1, p, h => by
    unfold goC at h ⊢
    split at h
    · rename_i hc
      rw [if_pos hc]
      obtain ⟨h1, h2, h3⟩ := goC_hop n _ h
      exact ⟨h1, h2, by rw [h3, adv_tot, sealed_tot]⟩
    · rename_i hc
      rw [if_neg hc]
      obtain ⟨h1, h2⟩ := chk_zero (show chkC t now p = 0 from h)
      obtain ⟨e1, e2, _⟩ := sealed_cur t p
      exact ⟨e1.trans h1, by rw [show (chkC t now p, sealed t p).2 = sealed t p from rfl, e2]; exact h2, sealed_tot t p⟩

def chkR (t : den tTopology) (now : Int) (p : den tPacket) : den tPacket := if chkC t now p = 0 then sealed t p else p

def chkI (p : den tPacket) (c : Int) : Int × Int × Int × (List (den tPathPart)) × Int × Int × Int × Int × Int × (List Int) × Int := (p.1, p.2.1, p.2.2.1, p.2.2.2.1, p.2.2.2.2.1, p.2.2.2.2.2.1, p.2.2.2.2.2.2.1, p.2.2.2.2.2.2.2.1, p.2.2.2.2.2.2.2.2.1, p.2.2.2.2.2.2.2.2.2, c)

def chkS (p : den tPacket) (c : Int) : Int × Int × Int × Int × Int × Int × Int × Int × Int × (List (den tPathPart)) × (List Int) := (p.1, p.2.1, p.2.2.1, p.2.2.2.2.1, p.2.2.2.2.2.1, p.2.2.2.2.2.2.1, p.2.2.2.2.2.2.2.1, p.2.2.2.2.2.2.2.2.1, c, p.2.2.2.1, p.2.2.2.2.2.2.2.2.2)

theorem i_chk {t : den tTopology} {now : Int} {p : den tPacket} (ht : t.1.length ≤ 68719476736) (h : tot tPacket p ≤ 34359738368) : i_checkHop t now p = some (chkI (chkR t now p) (chkC t now p)) := by
  unfold i_checkHop
  simp only [peta, i_seal ht (pk_sm h), obind_some]
  unfold chkR chkC
  cases c : sealOk t p
  · simp only [sealR, Bool.not_false, cond_true, Bool.false_eq_true, if_false]; rfl
  · have hs : tot tPacket (sealed t p) ≤ 34359738368 := by rw [sealed_tot]; exact h
    have key : i_CurrentHopValid ((sealR (sealed t p) true).1, (sealR (sealed t p) true).2.1, (sealR (sealed t p) true).2.2.1, (sealR (sealed t p) true).2.2.2.2.2.2.2.2.2.1, (sealR (sealed t p) true).2.2.2.1, (sealR (sealed t p) true).2.2.2.2.1, (sealR (sealed t p) true).2.2.2.2.2.1, (sealR (sealed t p) true).2.2.2.2.2.2.1, (sealR (sealed t p) true).2.2.2.2.2.2.2.1, (sealR (sealed t p) true).2.2.2.2.2.2.2.2.2.2) now = some (inTime p now) := by
      rw [← sealed_time t p now]
      exact i_inTime (pk_sm hs)
    rw [key]
    simp only [sealR, Bool.not_true, cond_false, obind_some, if_true]
    cases inTime p now
    · simp only [Bool.not_false, cond_true, Bool.false_eq_true, if_false]; rfl
    · simp only [Bool.not_true, cond_false, if_true]; rfl

theorem s_chk {t : den tTopology} {now : Int} {p : den tPacket} (ht : t.1.length ≤ 68719476736) (h : tot tPacket p ≤ 34359738368) : s_l28Check t now p = some (chkS (sealed t p) (chkC t now p)) := by
  unfold s_l28Check
  simp only [peta, s_seal ht (pk_sm h), s_inTime (pk_sm h), obind_some]
  unfold chkC
  cases c : sealOk t p
  · simp only [sealR, Bool.not_false, cond_true, Bool.false_eq_true, if_false]; rfl
  · simp only [sealR, Bool.not_true, cond_false, if_true]
    cases inTime p now
    · simp only [Bool.not_false, cond_true, Bool.false_eq_true, if_false]; rfl
    · simp only [Bool.not_true, cond_false, if_true]; rfl

theorem validK_hop {p : den tPacket} (h : validK p = true) : hasHop p = true := by
  unfold validK at h
  simp only [Bool.and_eq_true] at h
  exact h.2.2.1

theorem i_rej {c : Int} {p : den tPacket} (h : tot tPacket p ≤ 34359738368) : i_decide_1 c p = some (c, 0, p.1, p.2.1, p.2.2.1, p.2.2.2.2.1, p.2.2.2.2.2.1, p.2.2.2.2.2.2.1, p.2.2.2.2.2.2.2.1, p.2.2.2.2.2.2.2.2.1, p.2.2.2.1, p.2.2.2.2.2.2.2.2.2, p.1, p.2.1, p.2.2.1, p.2.2.2.1, p.2.2.2.2.1, p.2.2.2.2.2.1, p.2.2.2.2.2.2.1, p.2.2.2.2.2.2.2.1, p.2.2.2.2.2.2.2.2.1, p.2.2.2.2.2.2.2.2.2) := by
  unfold i_decide_1
  simp only [peta, i_copyK (pk_sm h), obind_some]
  rfl

theorem s_rej {c : Int} {p : den tPacket} (h : tot tPacket p ≤ 34359738368) : s_l28No c p = some (c, 0, pkR p) := by
  unfold s_l28No
  simp only [peta, s_copyK (pk_sm h), obind_some]

theorem i_fwd {t : den tTopology} {r now dead inn : Int} {p : den tPacket} (ht : t.1.length ≤ 68719476736) (ht2 : t.2.length ≤ 68719476736) (h : tot tPacket p ≤ 34359738368) (hpp : tot tPath p.2.2.2.1 ≤ 1073741824) : i_decide t r now dead inn p = some (fwI (fwd t r now dead inn p)) := by
  unfold i_decide fwd
  simp only [peta, i_validK (pk_sm h), i_simpleP ht ht2 hpp, i_curAS (pk_sm h), obind_some, ne_beq, i_rej h]
  cases cv : validK p
  · simp only [Bool.not_false, Bool.true_or, cond_true, obind_some, if_true]; rfl
  · cases cs : simpleP t p.2.2.2.1
    · simp only [Bool.not_true, Bool.not_false, Bool.true_or, Bool.or_true, cond_true, cond_false, obind_some, if_true]; rfl
    · cases cr : curAS p == r
      · simp only [Bool.not_true, Bool.not_false, Bool.true_or, Bool.or_true, cond_true, cond_false, obind_some, if_true]; rfl
      · simp only [Bool.not_true, Bool.or_self, cond_false, obind_some, Bool.false_eq_true, if_false]
        obtain ⟨i, j, h1, h2, h3, h4, h5⟩ := hop_at (validK_hop cv)
        have hl := pt_len (pk_sm h) h3
        have hw : (@Option.bind Bool Int (cond (p.2.2.2.2.1 == (0 : Int)) (some (p.2.2.2.2.2.1 == (0 : Int))) (some false)) fun (s8 : Bool) => cond s8 (some (0 : Int)) (some (pIn (curPt p) (curHp p)))) = some (wantI p) := by
          unfold wantI
          cases p.2.2.2.2.1 == 0 <;> cases p.2.2.2.2.2.1 == 0 <;> rfl
        have hp1 : idx p.2.2.2.1 p.2.2.2.2.1 = some (curPt p) := by rw [h1, idx_nat]; exact h3
        have hp2 : i_PartIngress (curPt p) p.2.2.2.2.2.1 = some (pIn (curPt p) (curHp p)) := by rw [h2]; exact i_pIn h4 hl
        rw [hp1, obind_some, hp2, obind_some, hw, obind_some]
        cases ci : inn == wantI p
        · simp only [Bool.not_false, cond_true, if_true, obind_some]; rfl
        · simp only [Bool.not_true, cond_false, Bool.false_eq_true, if_false, i_copyK (pk_sm h), obind_some]
          have hc : i_checkHop t now ((pkR p).1, (pkR p).2.1, (pkR p).2.2.1, (pkR p).2.2.2.2.2.2.2.2.1, (pkR p).2.2.2.1, (pkR p).2.2.2.2.1, (pkR p).2.2.2.2.2.1, (pkR p).2.2.2.2.2.2.1, (pkR p).2.2.2.2.2.2.2.1, (pkR p).2.2.2.2.2.2.2.2.2) = some (chkI (chkR t now p) (chkC t now p)) := i_chk ht h
          rw [hc]
          simp only [obind_some, both_self]
          obtain ⟨q, hq1, hq2⟩ := go_loop (t := t) (now := now) (S := Int × den tPacket) (R := Int × den tPacket) (fun c p => (c, p)) id (step := fun s23 => @Option.bind Bool _ (cond (s23.1 == (0 : Int)) (Option.bind (i_lastOfPart s23.2) fun y24 => cond y24 (Option.bind (i_AtLastHop s23.2) fun y25 => some (!y25)) (some false)) (some false)) fun (s26 : Bool) => cond s26 (Option.bind (i_AdvanceHop s23.2) fun y27 => Option.bind (i_checkHop t now (y27.1, y27.2.1, y27.2.2.1, y27.2.2.2.2.2.2.2.2.1, y27.2.2.2.1, y27.2.2.2.2.1, y27.2.2.2.2.2.1, y27.2.2.2.2.2.2.1, y27.2.2.2.2.2.2.2.1, y27.2.2.2.2.2.2.2.2.2)) fun y28 => some (Sum.inl (y28.2.2.2.2.2.2.2.2.2.2, y28.1, y28.2.1, y28.2.2.1, y28.2.2.2.1, y28.2.2.2.2.1, y28.2.2.2.2.2.1, y28.2.2.2.2.2.2.1, y28.2.2.2.2.2.2.2.1, y28.2.2.2.2.2.2.2.2.1, y28.2.2.2.2.2.2.2.2.2.1))) (some (Sum.inr s23))) (chkR t now) (fun p hp => if_pos hp) (fun c p hc => by
              have : (c == 0) = false := by simpa using hc
              simp only [this, cond_false, obind_some, id]) (fun q hq hh h0 => by
              have e : i_checkHop t now ((pkR (adv q)).1, (pkR (adv q)).2.1, (pkR (adv q)).2.2.1, (pkR (adv q)).2.2.2.2.2.2.2.2.1, (pkR (adv q)).2.2.2.1, (pkR (adv q)).2.2.2.2.1, (pkR (adv q)).2.2.2.2.2.1, (pkR (adv q)).2.2.2.2.2.2.1, (pkR (adv q)).2.2.2.2.2.2.2.1, (pkR (adv q)).2.2.2.2.2.2.2.2.2) = some (chkI (chkR t now (adv q)) (chkC t now (adv q))) := i_chk (p := adv q) ht (by rw [adv_tot]; exact hq)
              simp only [beq_self_eq_true, cond_true, i_lastPt (pk_sm hq) hh, i_atLast (pk_sm hq), i_adv (pk_sm hq), obind_some, e]
              cases lastPt q <;> cases atLast q <;> rfl) _ p h (Nat.le_refl _)
          have hq1 : loopM _ (chkC t now p, chkR t now p) = some ((gone t now p).1, q) := hq1
          have hq2 : (gone t now p).1 = 0 → q = (gone t now p).2 := hq2
          have e0 : (((chkI (chkR t now p) (chkC t now p)).2.2.2.2.2.2.2.2.2.2, (chkI (chkR t now p) (chkC t now p)).1, (chkI (chkR t now p) (chkC t now p)).2.1, (chkI (chkR t now p) (chkC t now p)).2.2.1, (chkI (chkR t now p) (chkC t now p)).2.2.2.1, (chkI (chkR t now p) (chkC t now p)).2.2.2.2.1, (chkI (chkR t now p) (chkC t now p)).2.2.2.2.2.1, (chkI (chkR t now p) (chkC t now p)).2.2.2.2.2.2.1, (chkI (chkR t now p) (chkC t now p)).2.2.2.2.2.2.2.1, (chkI (chkR t now p) (chkC t now p)).2.2.2.2.2.2.2.2.1, (chkI (chkR t now p) (chkC t now p)).2.2.2.2.2.2.2.2.2.1) : Int × den tPacket) = (chkC t now p, chkR t now p) := rfl
          rw [e0, hq1, obind_some]
          by_cases hz : (gone t now p).1 = 0
          · have hqq := hq2 hz
            subst hqq
            obtain ⟨g1, g2, g3⟩ := goC_hop _ p hz
            have g1 : hasHop (gone t now p).2 = true := g1
            have g2 : 0 ≤ curAS (gone t now p).2 := g2
            have g3 : tot tPacket (gone t now p).2 = tot tPacket p := g3
            have hg : tot tPacket (gone t now p).2 ≤ 34359738368 := by rw [g3]; exact h
            obtain ⟨i', j', k1, k2, k3, k4, k5⟩ := hop_at g1
            have hl' := pt_len (pk_sm hg) k3
            have q1 : idx (gone t now p).2.2.2.2.1 (gone t now p).2.2.2.2.2.1 = some (curPt (gone t now p).2) := by rw [k1, idx_nat]; exact k3
            have q2 : i_PartEgress (curPt (gone t now p).2) (gone t now p).2.2.2.2.2.2.1 = some (pEg (curPt (gone t now p).2) (curHp (gone t now p).2)) := by rw [k2]; exact i_pEg k4 hl'
            simp only [hz, beq_self_eq_true, Bool.not_true, cond_false, Bool.false_eq_true, if_false, i_atLast (pk_sm hg), obind_some]
            cases ca : atLast (gone t now p).2
            · simp only [cond_false, Bool.false_eq_true, if_false, q1, q2, obind_some, i_stepA ht2, i_inSet]
              cases stepA t (r, inn, pEg (curPt (gone t now p).2) (curHp (gone t now p).2))
              · simp only [Bool.not_false, cond_true, if_true]; rfl
              · simp only [Bool.not_true, cond_false, Bool.false_eq_true, if_false]
                cases inSet dead (pEg (curPt (gone t now p).2) (curHp (gone t now p).2))
                · simp only [cond_false, Bool.false_eq_true, if_false, i_adv (pk_sm hg), obind_some]; rfl
                · simp only [cond_true, if_true]; rfl
            · simp only [cond_true, if_true]
              cases (gone t now p).2.2.2.1 == r
              · simp only [Bool.not_false, cond_true, Bool.false_eq_true, if_false]; rfl
              · simp only [Bool.not_true, cond_false, if_true]; rfl
          · have hz' : ((gone t now p).1 == 0) = false := by simpa using hz
            simp only [hz', Bool.not_false, cond_true, if_true, i_rej h, obind_some]; rfl

theorem i_forward {t : den tTopology} {r now dead inn : Int} {p : den tPacket} (ht : t.1.length ≤ 68719476736) (ht2 : t.2.length ≤ 68719476736) (h : tot tPacket p ≤ 34359738368) (hpp : tot tPath p.2.2.2.1 ≤ 1073741824) : i_Forward t r now dead inn p = some ((fwd t r now dead inn p).1, (fwd t r now dead inn p).2.1, (fwd t r now dead inn p).2.2.1) := by
  unfold i_Forward
  simp only [peta, i_fwd ht ht2 h hpp, obind_some]
  rfl

/-- A checked packet as the reference keeps it. -/
def encS (c : Int) (p : den tPacket) : Int × Int × Int × Int × Int × Int × Int × Int × Int × (List (den tPathPart)) × (List Int) := (c, p.1, p.2.1, p.2.2.1, p.2.2.2.2.1, p.2.2.2.2.2.1, p.2.2.2.2.2.2.1, p.2.2.2.2.2.2.2.1, p.2.2.2.2.2.2.2.2.1, p.2.2.2.1, p.2.2.2.2.2.2.2.2.2)

theorem more_key {q : den tPacket} (hh : hasHop q = true) (h0 : 0 ≤ curAS q) : (lastPt q && decide (q.2.2.2.2.1 < (q.2.2.2.1.length : Int) - 1)) = (lastPt q && !atLast q) := by
  obtain ⟨i, j, h1, h2, h3, h4, h5⟩ := hop_at hh
  have hlt := (List.getElem?_eq_some_iff.1 h3).1
  unfold atLast lastIn
  rw [decide_eq_true (p := curAS q ≥ 0) h0, h1]
  have key : decide ((i : Int) < (q.2.2.2.1.length : Int) - 1) = !((i : Int) == (q.2.2.2.1.length : Int) - 1) := by
    rw [Bool.eq_iff_iff]
    simp only [decide_eq_true_eq, Bool.not_eq_true', beq_eq_false_iff_ne, ne_eq]
    omega
  rw [key]
  cases lastPt q <;> simp

theorem s_fwd {t : den tTopology} {r now dead inn : Int} {p : den tPacket} (ht : t.1.length ≤ 68719476736) (ht2 : t.2.length ≤ 68719476736) (h : tot tPacket p ≤ 34359738368) (hpp : tot tPath p.2.2.2.1 ≤ 1073741824) : s_Forward t r now dead inn p = some (fwS (fwd t r now dead inn p)) := by
  unfold s_Forward fwd
  simp only [peta, s_validK (pk_sm h), s_simpleP ht ht2 hpp, s_curAS (pk_sm h), obind_some, ne_beq, s_rej h]
  cases cv : validK p
  · simp only [Bool.not_false, Bool.true_or, cond_true, obind_some, if_true]; rfl
  · cases cs : simpleP t p.2.2.2.1
    · simp only [Bool.not_true, Bool.not_false, Bool.true_or, Bool.or_true, cond_true, cond_false, obind_some, if_true]; rfl
    · cases cr : curAS p == r
      · simp only [Bool.not_true, Bool.not_false, Bool.true_or, Bool.or_true, cond_true, cond_false, obind_some, if_true]; rfl
      · simp only [Bool.not_true, Bool.or_self, cond_false, obind_some, Bool.false_eq_true, if_false]
        obtain ⟨i, j, h1, h2, h3, h4, h5⟩ := hop_at (validK_hop cv)
        have hl := pt_len (pk_sm h) h3
        have hw : (@Option.bind Bool Int (cond (p.2.2.2.2.1 == (0 : Int)) (some (p.2.2.2.2.2.1 == (0 : Int))) (some false)) fun (s8 : Bool) => cond s8 (some (0 : Int)) (some (pIn (curPt p) (curHp p)))) = some (wantI p) := by
          unfold wantI
          cases p.2.2.2.2.1 == 0 <;> cases p.2.2.2.2.2.1 == 0 <;> rfl
        have hp1 : idx p.2.2.2.1 p.2.2.2.2.1 = some (curPt p) := by rw [h1, idx_nat]; exact h3
        have hp2 : s_PartIngress (curPt p) p.2.2.2.2.2.1 = some (pIn (curPt p) (curHp p)) := by rw [h2]; exact s_pIn h4 hl
        rw [hp1, obind_some, hp2, obind_some, hw, obind_some]
        cases ci : inn == wantI p
        · simp only [Bool.not_false, cond_true, if_true, obind_some]; rfl
        · simp only [Bool.not_true, cond_false, Bool.false_eq_true, if_false, s_chk ht h, obind_some]
          obtain ⟨q, hq1, hq2⟩ := go_loop (t := t) (now := now) encS id (step := fun s17 => @Option.bind Bool _ (cond (s17.1 == (0 : Int)) (cond (decide ((0 : Int) ≤ s17.2.2.2.2.1)) (cond (decide (s17.2.2.2.2.1 < (s17.2.2.2.2.2.2.2.2.2.1.length : Int))) (Option.bind s17.2.2.2.2.2.2.2.2.2.1[s17.2.2.2.2.1.toNat]? fun x18 => cond (s17.2.2.2.2.2.1 == (wr ((x18.2.2.2.length : Int) - (1 : Int)))) (some (decide (s17.2.2.2.2.1 < (wr ((s17.2.2.2.2.2.2.2.2.2.1.length : Int) - (1 : Int)))))) (some false)) none) none) (some false)) fun (s19 : Bool) => cond s19 (Option.bind (s_AdvanceHop (s17.2.1, s17.2.2.1, s17.2.2.2.1, s17.2.2.2.2.2.2.2.2.2.1, s17.2.2.2.2.1, s17.2.2.2.2.2.1, s17.2.2.2.2.2.2.1, s17.2.2.2.2.2.2.2.1, s17.2.2.2.2.2.2.2.2.1, s17.2.2.2.2.2.2.2.2.2.2)) fun y20 => Option.bind (s_l28Check t now (y20.1, y20.2.1, y20.2.2.1, y20.2.2.2.2.2.2.2.2.1, y20.2.2.2.1, y20.2.2.2.2.1, y20.2.2.2.2.2.1, y20.2.2.2.2.2.2.1, y20.2.2.2.2.2.2.2.1, y20.2.2.2.2.2.2.2.2.2)) fun y21 => some (Sum.inl (y21.2.2.2.2.2.2.2.2.1, y21.1, y21.2.1, y21.2.2.1, y21.2.2.2.1, y21.2.2.2.2.1, y21.2.2.2.2.2.1, y21.2.2.2.2.2.2.1, y21.2.2.2.2.2.2.2.1, y21.2.2.2.2.2.2.2.2.2.1, y21.2.2.2.2.2.2.2.2.2.2))) (some (Sum.inr s17))) (sealed t) (fun p hp => rfl) (fun c p hc => by
              have : (c == 0) = false := by simpa using hc
              simp only [encS, this, cond_false, obind_some, id]) (fun q hq hh h0 => by
              have e : s_l28Check t now ((pkR (adv q)).1, (pkR (adv q)).2.1, (pkR (adv q)).2.2.1, (pkR (adv q)).2.2.2.2.2.2.2.2.1, (pkR (adv q)).2.2.2.1, (pkR (adv q)).2.2.2.2.1, (pkR (adv q)).2.2.2.2.2.1, (pkR (adv q)).2.2.2.2.2.2.1, (pkR (adv q)).2.2.2.2.2.2.2.1, (pkR (adv q)).2.2.2.2.2.2.2.2.2) = some (chkS (sealed t (adv q)) (chkC t now (adv q))) := s_chk (p := adv q) ht (by rw [adv_tot]; exact hq)
              obtain ⟨i', j', k1, k2, k3, k4, k5⟩ := hop_at hh
              have hlt := (List.getElem?_eq_some_iff.1 k3).1
              have l1 : List.length q.2.2.2.1 ≤ 68719476736 := (pk_sm hq).2.2.2.1.1
              have hm := more_key hh h0
              simp only [encS, beq_self_eq_true, cond_true, peta, s_adv (pk_sm hq), obind_some, e]
              rw [← hm]
              have hd : decide ((i' : Int) < (q.2.2.2.1.length : Int)) = true := decide_eq_true (by omega)
              simp only [k1, pos_nat, hd, cond_true, Int.toNat_natCast, k3, obind_some, wr_less (pt_len (pk_sm hq) k3), wr_less l1]
              unfold lastPt
              cases q.2.2.2.2.2.1 == ((curPt q).2.2.2.length : Int) - 1 <;> cases decide ((i' : Int) < (q.2.2.2.1.length : Int) - 1) <;> rfl) _ p h (Nat.le_refl _)
          have hq1 : loopM _ (encS (chkC t now p) (sealed t p)) = some (encS (gone t now p).1 q) := hq1
          have hq2 : (gone t now p).1 = 0 → q = (gone t now p).2 := hq2
          have e0 : (((chkS (sealed t p) (chkC t now p)).2.2.2.2.2.2.2.2.1, (chkS (sealed t p) (chkC t now p)).1, (chkS (sealed t p) (chkC t now p)).2.1, (chkS (sealed t p) (chkC t now p)).2.2.1, (chkS (sealed t p) (chkC t now p)).2.2.2.1, (chkS (sealed t p) (chkC t now p)).2.2.2.2.1, (chkS (sealed t p) (chkC t now p)).2.2.2.2.2.1, (chkS (sealed t p) (chkC t now p)).2.2.2.2.2.2.1, (chkS (sealed t p) (chkC t now p)).2.2.2.2.2.2.2.1, (chkS (sealed t p) (chkC t now p)).2.2.2.2.2.2.2.2.2.1, (chkS (sealed t p) (chkC t now p)).2.2.2.2.2.2.2.2.2.2)) = encS (chkC t now p) (sealed t p) := rfl
          rw [e0, hq1, obind_some]
          by_cases hz : (gone t now p).1 = 0
          · have hqq := hq2 hz
            subst hqq
            obtain ⟨g1, g2, g3⟩ := goC_hop _ p hz
            have g1 : hasHop (gone t now p).2 = true := g1
            have g2 : 0 ≤ curAS (gone t now p).2 := g2
            have g3 : tot tPacket (gone t now p).2 = tot tPacket p := g3
            have hg : tot tPacket (gone t now p).2 ≤ 34359738368 := by rw [g3]; exact h
            obtain ⟨i', j', k1, k2, k3, k4, k5⟩ := hop_at g1
            have hlt := (List.getElem?_eq_some_iff.1 k3).1
            have hl' := pt_len (pk_sm hg) k3
            have q2 : s_PartEgress (curPt (gone t now p).2) (gone t now p).2.2.2.2.2.2.1 = some (pEg (curPt (gone t now p).2) (curHp (gone t now p).2)) := by rw [k2]; exact s_pEg k4 hl'
            simp only [encS, peta, hz, beq_self_eq_true, Bool.not_true, cond_false, Bool.false_eq_true, if_false, s_atLast (pk_sm hg), obind_some]
            cases ca : atLast (gone t now p).2
            · simp only [cond_false, obind_some, Bool.false_eq_true, if_false]
              have hd : decide ((i' : Int) < ((gone t now p).2.2.2.2.1.length : Int)) = true := decide_eq_true (by omega)
              simp only [k1, pos_nat, hd, cond_true, Int.toNat_natCast, k3, obind_some, q2, s_stepA ht2, s_inSet]
              cases stepA t (r, inn, pEg (curPt (gone t now p).2) (curHp (gone t now p).2))
              · simp only [Bool.not_false, cond_true, if_true]; rfl
              · simp only [Bool.not_true, cond_false, Bool.false_eq_true, if_false]
                cases inSet dead (pEg (curPt (gone t now p).2) (curHp (gone t now p).2))
                · simp only [cond_false, Bool.false_eq_true, if_false, s_adv (pk_sm hg), obind_some]; rfl
                · simp only [cond_true, if_true]; rfl
            · simp only [cond_true, obind_some]
              cases (gone t now p).2.2.2.1 == r
              · simp only [cond_false, cond_true, Bool.false_eq_true, if_false, if_true]; rfl
              · simp only [cond_true, if_true]; rfl
          · have hz' : ((gone t now p).1 == 0) = false := by simpa using hz
            simp only [encS, hz', Bool.not_false, cond_true, if_true, s_rej h, obind_some]; rfl

theorem fwd_tot (t : den tTopology) (r now dead inn : Int) (p : den tPacket) : tot tPacket (fwd t r now dead inn p).2.2.1 = tot tPacket p := by
  unfold fwd
  split
  · rfl
  · split
    · rfl
    · split
      · rfl
      · rename_i hz
        have hz : (gone t now p).1 = 0 := by simpa using hz
        obtain ⟨_, _, g3⟩ := goC_hop _ p hz
        have g3 : tot tPacket (gone t now p).2 = tot tPacket p := g3
        split
        · split
          · exact g3
          · rfl
        · split
          · rfl
          · split
            · rfl
            · show tot tPacket (adv (gone t now p).2) = _
              rw [adv_tot]; exact g3

theorem goC_path {t : den tTopology} {now : Int} : ∀ (n : Nat) (p : den tPacket), (goC t now n p).2.2.2.2.1 = p.2.2.2.1
  | 0, p => (sealed_cur t p).2.2.2.1
  | n + 1, p => by
    unfold goC
    split
    · rw [goC_path n]
      rw [← (sealed_cur t p).2.2.2.1]
      unfold adv
      split
      · rfl
      · split <;> rfl
    · exact (sealed_cur t p).2.2.2.1

theorem adv_path (p : den tPacket) : (adv p).2.2.2.1 = p.2.2.2.1 := by
  unfold adv
  split
  · rfl
  · split <;> rfl

theorem fwd_path (t : den tTopology) (r now dead inn : Int) (p : den tPacket) : (fwd t r now dead inn p).2.2.1.2.2.2.1 = p.2.2.2.1 := by
  have hg : (gone t now p).2.2.2.2.1 = p.2.2.2.1 := goC_path _ p
  unfold fwd
  repeat' split
  all_goals first
    | rfl
    | exact hg
    | exact (adv_path _).trans hg

theorem goC_code {t : den tTopology} {now : Int} : ∀ (n : Nat) (p : den tPacket), 0 ≤ (goC t now n p).1
  | 0, p => by
    show 0 ≤ chkC t now p
    unfold chkC
    repeat' split
    all_goals decide
  | n + 1, p => by
    unfold goC
    split
    · exact goC_code n _
    · show 0 ≤ chkC t now p
      unfold chkC
      repeat' split
      all_goals decide

theorem fwd_code (t : den tTopology) (r now dead inn : Int) (p : den tPacket) : 0 ≤ (fwd t r now dead inn p).1 := by
  have hg : 0 ≤ (gone t now p).1 := goC_code _ p
  unfold fwd
  repeat' split
  all_goals first
    | exact hg
    | simp

theorem fwd_ok (t : den tTopology) (r now dead inn : Int) (p : den tPacket) : decide ((fwd t r now dead inn p).1 > 1) = !((fwd t r now dead inn p).1 == 0 || (fwd t r now dead inn p).1 == 1) := by
  have h := fwd_code t r now dead inn p
  generalize (fwd t r now dead inn p).1 = c at h
  rw [Bool.eq_iff_iff]
  simp only [decide_eq_true_eq, Bool.not_eq_true', Bool.or_eq_false_iff, beq_eq_false_iff_ne, ne_eq]
  omega

def stepV (t : den tTopology) (now : Int) (dead : List Int) (r inn : Int) (p : den tPacket) : Int × Int × den tPacket × Int := fwd t r now (deadE t dead r) inn p

def walk (t : den tTopology) (now : Int) (dead : List Int) : Nat → Int → Int → den tPacket → List (den tStep) → Int × den tPacket × List (den tStep)
  | 0, _, _, p, st => (0, p, st)
  | n + 1, r, inn, p, st =>
    if (stepV t now dead r inn p).1 == 0 || (stepV t now dead r inn p).1 == 1 then
      (if (stepV t now dead r inn p).1 == 1 then (1, (stepV t now dead r inn p).2.2.1, st ++ [(r, inn, (stepV t now dead r inn p).2.1)])
       else walk t now dead n (remote t r (stepV t now dead r inn p).2.1).1 (remote t r (stepV t now dead r inn p).2.1).2 (stepV t now dead r inn p).2.2.1 (st ++ [(r, inn, (stepV t now dead r inn p).2.1)]))
    else ((stepV t now dead r inn p).1, (stepV t now dead r inn p).2.2.1, st)

theorem walk_loop {t : den tTopology} {now : Int} {dead : List Int} {S R : Type} (enc : Nat → Int → Int → den tPacket → List (den tStep) → S) (out out2 : Int × den tPacket × List (den tStep) → R) (N : Nat) (b : Bool) {step : S → Option (S ⊕ R)}
    (H : ∀ (k : Nat) (r inn : Int) (p : den tPacket) (st : List (den tStep)), k < N → st.length ≤ k → tot tPacket p ≤ 34359738368 → tot tPath p.2.2.2.1 ≤ 1073741824 → step (enc k r inn p st) = some (
      if (stepV t now dead r inn p).1 == 0 || (stepV t now dead r inn p).1 == 1 then
        (if (stepV t now dead r inn p).1 == 1 then .inr (out (1, (stepV t now dead r inn p).2.2.1, st ++ [(r, inn, (stepV t now dead r inn p).2.1)]))
         else if b && decide (k + 1 = N) then .inr (out (0, (stepV t now dead r inn p).2.2.1, st ++ [(r, inn, (stepV t now dead r inn p).2.1)]))
         else .inl (enc (k + 1) (remote t r (stepV t now dead r inn p).2.1).1 (remote t r (stepV t now dead r inn p).2.1).2 (stepV t now dead r inn p).2.2.1 (st ++ [(r, inn, (stepV t now dead r inn p).2.1)])))
      else .inr (out ((stepV t now dead r inn p).1, (stepV t now dead r inn p).2.2.1, st))))
    (he : b = false → ∀ r inn p st, step (enc N r inn p st) = some (.inr (out2 (0, p, st)))) :
    ∀ (n k : Nat) (r inn : Int) (p : den tPacket) (st : List (den tStep)), k + n = N → (n = 0 → b = false) → st.length ≤ k → tot tPacket p ≤ 34359738368 → tot tPath p.2.2.2.1 ≤ 1073741824 → loopM step (enc k r inn p st) = some (out (walk t now dead n r inn p st)) ∨ loopM step (enc k r inn p st) = some (out2 (walk t now dead n r inn p st)) := by
  intro n
  induction n with
  | zero =>
    intro k r inn p st hk hb hs hp hq
    have : k = N := by omega
    subst this
    exact .inr (loopM_done (he (hb rfl) r inn p st))
  | succ n ih =>
    intro k r inn p st hk hb hs hp hq
    have h := H k r inn p st (by omega) hs hp hq
    unfold walk
    cases c01 : (stepV t now dead r inn p).1 == 0 || (stepV t now dead r inn p).1 == 1 with
    | false =>
      rw [c01] at h
      exact .inl (loopM_done h)
    | true =>
      rw [c01, if_pos rfl] at h
      rw [if_pos rfl]
      cases c1 : (stepV t now dead r inn p).1 == 1 with
      | true =>
        rw [c1] at h
        exact .inl (loopM_done h)
      | false =>
        rw [c1] at h
        simp only [Bool.false_eq_true, if_false] at h ⊢
        cases hl : b && decide (k + 1 = N) with
        | true =>
          rw [hl, if_pos rfl] at h
          rw [Bool.and_eq_true, decide_eq_true_eq] at hl
          have : n = 0 := by omega
          subst this
          exact .inl (loopM_done h)
        | false =>
          rw [hl] at h
          simp only [Bool.false_eq_true, if_false] at h
          rw [loopM_next h]
          refine ih (k + 1) _ _ _ _ (by omega) (fun hn => ?_) (by simp; omega) ?_ ?_
          · subst hn
            cases b with
            | false => rfl
            | true => simp at hl; omega
          · unfold stepV; rw [fwd_tot]; exact hp
          · unfold stepV; rw [fwd_path]; exact hq

def travI (x : Int × den tPacket × List (den tStep)) : Int × Int × Int × Int × (List (den tPathPart)) × Int × Int × Int × Int × Int × (List Int) × (List (den tStep)) :=
  (x.1, x.2.1.1, x.2.1.2.1, x.2.1.2.2.1, x.2.1.2.2.2.1, x.2.1.2.2.2.2.1, x.2.1.2.2.2.2.2.1, x.2.1.2.2.2.2.2.2.1, x.2.1.2.2.2.2.2.2.2.1, x.2.1.2.2.2.2.2.2.2.2.1, x.2.1.2.2.2.2.2.2.2.2.2, x.2.2)

def encI' (k : Nat) (r inn : Int) (p : den tPacket) (st : List (den tStep)) : Int × Int × Int × Int × Int × Int × Int × (List (den tPathPart)) × Int × Int × Int × Int × Int × (List Int) × (List (den tStep)) :=
  (r, inn, ((k + 1 : Nat) : Int), 0, p.1, p.2.1, p.2.2.1, p.2.2.2.1, p.2.2.2.2.1, p.2.2.2.2.2.1, p.2.2.2.2.2.2.1, p.2.2.2.2.2.2.2.1, p.2.2.2.2.2.2.2.2.1, p.2.2.2.2.2.2.2.2.2, st)

def trav (t : den tTopology) (now : Int) (dead : List Int) (p : den tPacket) : Int × den tPacket × List (den tStep) := walk t now dead 30 p.2.1 0 p []

theorem i_trav {t : den tTopology} {now : Int} {dead : List Int} {p : den tPacket} (ht : t.1.length ≤ 68719476736) (ht2 : t.2.length ≤ 1073741824) (hd : dead.length ≤ 68719476736) (h : tot tPacket p ≤ 34359738368) (hpp : tot tPath p.2.2.2.1 ≤ 1073741824) : i_Traverse t now dead p = some (travI (trav t now dead p)) := by
  unfold i_Traverse
  simp only [peta, i_copyK (pk_sm h), obind_some]
  have e0 : (p.2.1, (0 : Int), (1 : Int), (0 : Int), (pkR p).1, (pkR p).2.1, (pkR p).2.2.1, (pkR p).2.2.2.2.2.2.2.2.1, (pkR p).2.2.2.1, (pkR p).2.2.2.2.1, (pkR p).2.2.2.2.2.1, (pkR p).2.2.2.2.2.2.1, (pkR p).2.2.2.2.2.2.2.1, (pkR p).2.2.2.2.2.2.2.2.2, ([] : List (den tStep))) = encI' 0 p.2.1 0 p [] := rfl
  rw [e0]
  refine (walk_loop (t := t) (now := now) (dead := dead) encI' travI travI 30 true ?_ (fun hb => by cases hb) 30 0 p.2.1 0 p [] rfl (fun h => by cases h) (Nat.le_refl _) h hpp).elim id id
  intro k r inn p st hk hs hp hq
  have hw : wr (((k + 1 : Nat) : Int) + 1) = ((k + 1 + 1 : Nat) : Int) := (wrap_in (by omega) (by omega)).trans (by omega)
  have h30 : (((k + 1 : Nat) : Int) == 30) = decide (k + 1 = 30) := by rw [Bool.eq_iff_iff]; simp only [beq_iff_eq, decide_eq_true_eq]; omega
  simp only [encI', peta, i_deadE ht2 hd, i_forward ht (Nat.le_trans ht2 (by decide)) hp hq, i_remote (t := t) (Nat.le_trans ht2 (by decide)), obind_some, both_self, ne_beq, apOk_le (b := 24) (n := st.length) (m := 1) (by decide) (by omega), cond_true, hw, h30]
  rw [show fwd t r now (deadE t dead r) inn p = stepV t now dead r inn p from rfl]
  have hx : ∀ c : Int, (c == 0) = true → (c == 1) = false := fun c hc => by
    have : c = 0 := by simpa using hc
    subst this; rfl
  cases c0 : (stepV t now dead r inn p).1 == 0 with
  | true =>
    rw [hx _ c0]
    have e0 : (stepV t now dead r inn p).1 = 0 := by simpa using c0
    simp only [Bool.not_true, Bool.not_false, cond_false, cond_true, obind_some, Bool.true_or, if_true, Bool.false_eq_true, if_false, Bool.true_and, e0]
    cases decide (k + 1 = 30) <;> rfl
  | false =>
    cases c1 : (stepV t now dead r inn p).1 == 1 with
    | true =>
      have e1 : (stepV t now dead r inn p).1 = 1 := by simpa using c1
      simp only [Bool.not_true, Bool.not_false, cond_false, cond_true, obind_some, Bool.or_true, if_true, e1]
      rfl
    | false =>
      simp only [Bool.not_false, cond_true, obind_some, Bool.or_self, Bool.false_eq_true, if_false]
      rfl

def travS (x : Int × den tPacket × List (den tStep)) : Int × Int × Int × Int × Int × Int × Int × Int × Int × (List (den tStep)) × (List (den tPathPart)) × (List Int) :=
  (x.1, x.2.1.1, x.2.1.2.1, x.2.1.2.2.1, x.2.1.2.2.2.2.1, x.2.1.2.2.2.2.2.1, x.2.1.2.2.2.2.2.2.1, x.2.1.2.2.2.2.2.2.2.1, x.2.1.2.2.2.2.2.2.2.2.1, x.2.2, x.2.1.2.2.2.1, x.2.1.2.2.2.2.2.2.2.2.2)

def encS' (k : Nat) (r inn : Int) (p : den tPacket) (st : List (den tStep)) : Int × Int × Int × Int × Int × Int × Int × Int × Int × Int × Int × Int × (List (den tStep)) × (List (den tPathPart)) × (List Int) :=
  (r, inn, (k : Int), 0, p.1, p.2.1, p.2.2.1, p.2.2.2.2.1, p.2.2.2.2.2.1, p.2.2.2.2.2.2.1, p.2.2.2.2.2.2.2.1, p.2.2.2.2.2.2.2.2.1, st, p.2.2.2.1, p.2.2.2.2.2.2.2.2.2)

theorem s_trav {t : den tTopology} {now : Int} {dead : List Int} {p : den tPacket} (ht : t.1.length ≤ 68719476736) (ht2 : t.2.length ≤ 1073741824) (hd : dead.length ≤ 68719476736) (h : tot tPacket p ≤ 34359738368) (hpp : tot tPath p.2.2.2.1 ≤ 1073741824) : s_Traverse t now dead p = some (travS (trav t now dead p)) := by
  unfold s_Traverse
  simp only [peta, s_copyK (pk_sm h), obind_some]
  have e0 : (p.2.1, (0 : Int), (0 : Int), (0 : Int), (pkR p).1, (pkR p).2.1, (pkR p).2.2.1, (pkR p).2.2.2.1, (pkR p).2.2.2.2.1, (pkR p).2.2.2.2.2.1, (pkR p).2.2.2.2.2.2.1, (pkR p).2.2.2.2.2.2.2.1, ([] : List (den tStep)), (pkR p).2.2.2.2.2.2.2.2.1, (pkR p).2.2.2.2.2.2.2.2.2) = encS' 0 p.2.1 0 p [] := rfl
  have hl := walk_loop (t := t) (now := now) (dead := dead) encS' (fun x => (Sum.inr (travS x) : _ ⊕ _)) (fun x => Sum.inl (travS x)) 30 false (step := fun s10 => cond (decide (s10.2.2.1 < (30 : Int))) (Option.bind (both (Option.bind (s_FailedInterfaces t dead s10.1) fun y11 => both (Option.bind (s_Forward t s10.1 now y11 s10.2.1 (s10.2.2.2.2.1, s10.2.2.2.2.2.1, s10.2.2.2.2.2.2.1, s10.2.2.2.2.2.2.2.2.2.2.2.2.2.1, s10.2.2.2.2.2.2.2.1, s10.2.2.2.2.2.2.2.2.1, s10.2.2.2.2.2.2.2.2.2.1, s10.2.2.2.2.2.2.2.2.2.2.1, s10.2.2.2.2.2.2.2.2.2.2.2.1, s10.2.2.2.2.2.2.2.2.2.2.2.2.2.2)) fun y12 => some y12) (Option.bind (s_Forward t s10.1 now y11 s10.2.1 (s10.2.2.2.2.1, s10.2.2.2.2.2.1, s10.2.2.2.2.2.2.1, s10.2.2.2.2.2.2.2.2.2.2.2.2.2.1, s10.2.2.2.2.2.2.2.1, s10.2.2.2.2.2.2.2.2.1, s10.2.2.2.2.2.2.2.2.2.1, s10.2.2.2.2.2.2.2.2.2.2.1, s10.2.2.2.2.2.2.2.2.2.2.2.1, s10.2.2.2.2.2.2.2.2.2.2.2.2.2.2)) fun y13 => some y13)) (Option.bind (s_FailedInterfaces t dead s10.1) fun y14 => Option.bind (s_Forward t s10.1 now y14 s10.2.1 (s10.2.2.2.2.1, s10.2.2.2.2.2.1, s10.2.2.2.2.2.2.1, s10.2.2.2.2.2.2.2.2.2.2.2.2.2.1, s10.2.2.2.2.2.2.2.1, s10.2.2.2.2.2.2.2.2.1, s10.2.2.2.2.2.2.2.2.2.1, s10.2.2.2.2.2.2.2.2.2.2.1, s10.2.2.2.2.2.2.2.2.2.2.2.1, s10.2.2.2.2.2.2.2.2.2.2.2.2.2.2)) fun y15 => some y15)) fun s16 => cond (decide (s16.1 > (1 : Int))) (some (Sum.inr (Sum.inr (s16.1, s16.2.2.1, s16.2.2.2.1, s16.2.2.2.2.1, s16.2.2.2.2.2.1, s16.2.2.2.2.2.2.1, s16.2.2.2.2.2.2.2.1, s16.2.2.2.2.2.2.2.2.1, s16.2.2.2.2.2.2.2.2.2.1, s10.2.2.2.2.2.2.2.2.2.2.2.2.1, s16.2.2.2.2.2.2.2.2.2.2.1, s16.2.2.2.2.2.2.2.2.2.2.2)))) (cond (apOk 24 s10.2.2.2.2.2.2.2.2.2.2.2.2.1.length 1) (cond (s16.1 == (1 : Int)) (some (Sum.inr (Sum.inr (s16.1, s16.2.2.1, s16.2.2.2.1, s16.2.2.2.2.1, s16.2.2.2.2.2.1, s16.2.2.2.2.2.2.1, s16.2.2.2.2.2.2.2.1, s16.2.2.2.2.2.2.2.2.1, s16.2.2.2.2.2.2.2.2.2.1, s10.2.2.2.2.2.2.2.2.2.2.2.2.1 ++ [(s10.1, s10.2.1, s16.2.1)], s16.2.2.2.2.2.2.2.2.2.2.1, s16.2.2.2.2.2.2.2.2.2.2.2)))) (Option.bind (s_RemoteEnd t s10.1 s16.2.1) fun y17 => some (Sum.inl (y17.1, y17.2, wr (s10.2.2.1 + (1 : Int)), s16.1, s16.2.2.1, s16.2.2.2.1, s16.2.2.2.2.1, s16.2.2.2.2.2.1, s16.2.2.2.2.2.2.1, s16.2.2.2.2.2.2.2.1, s16.2.2.2.2.2.2.2.2.1, s16.2.2.2.2.2.2.2.2.2.1, s10.2.2.2.2.2.2.2.2.2.2.2.2.1 ++ [(s10.1, s10.2.1, s16.2.1)], s16.2.2.2.2.2.2.2.2.2.2.1, s16.2.2.2.2.2.2.2.2.2.2.2)))) none)) (some (Sum.inr (Sum.inl s10.2.2.2)))) (by
      intro k r inn p st hk hs hp hq
      have hw : wr ((k : Int) + 1) = ((k + 1 : Nat) : Int) := (wrap_in (by omega) (by omega)).trans (by omega)
      have h30 : decide ((k : Int) < 30) = true := decide_eq_true (by omega)
      show cond (decide ((k : Int) < (30 : Int))) _ _ = some _
      rw [h30, cond_true]
      simp only [encS', peta, s_deadE ht2 hd, s_fwd ht (Nat.le_trans ht2 (by decide)) hp hq, s_remote (t := t) (Nat.le_trans ht2 (by decide)), obind_some, both_self, apOk_le (b := 24) (n := st.length) (m := 1) (by decide) (by omega), cond_true, hw, h30, Bool.false_and]
      rw [show (fwS (fwd t r now (deadE t dead r) inn p)).1 = (fwd t r now (deadE t dead r) inn p).1 from rfl, fwd_ok]
      rw [show fwd t r now (deadE t dead r) inn p = stepV t now dead r inn p from rfl]
      have hx : ∀ c : Int, (c == 0) = true → (c == 1) = false := fun c hc => by
        have : c = 0 := by simpa using hc
        subst this; rfl
      cases c0 : (stepV t now dead r inn p).1 == 0 with
      | true =>
        rw [hx _ c0]
        have e0 : (stepV t now dead r inn p).1 = 0 := by simpa using c0
        simp only [Bool.not_true, cond_false, obind_some, Bool.true_or, if_true, Bool.false_eq_true, if_false, e0]
        rfl
      | false =>
        cases c1 : (stepV t now dead r inn p).1 == 1 with
        | true =>
          have e1 : (stepV t now dead r inn p).1 = 1 := by simpa using c1
          simp only [Bool.not_true, cond_false, cond_true, Bool.or_true, if_true, e1]
          rfl
        | false =>
          simp only [Bool.not_false, cond_true, Bool.or_self, Bool.false_eq_true, if_false]
          rfl) (fun _ r inn p st => rfl) 30 0 p.2.1 0 p [] rfl (fun _ => rfl) (Nat.le_refl _) h hpp
  have hl' : ∀ {s : _}, s = encS' 0 p.2.1 0 p [] → loopM _ s = some (Sum.inr (travS (trav t now dead p))) ∨ loopM _ s = some (Sum.inl (travS (trav t now dead p))) := fun hs => by rw [hs]; exact hl
  rcases hl' e0 with hl | hl
  · rw [hl]; rfl
  · rw [hl]; rfl

def reachP (t : den tTopology) (now : Int) (dead : List Int) (p : den tPath) : Bool := (trav t now dead (newPk 1 p 0 0 [])).1 == 1

theorem i_reachP {t : den tTopology} {now : Int} {dead : List Int} {p : den tPath} (ht : t.1.length ≤ 68719476736) (ht2 : t.2.length ≤ 1073741824) (hd : dead.length ≤ 68719476736) (hp : tot tPath p ≤ 1073741824) : i_Reaches t now dead p = some (reachP t now dead p) := by
  unfold i_Reaches reachP
  have h1 : tot tPacket (newPk 1 p 0 0 []) ≤ 34359738368 := by rw [newPk_tot, tot_nil]; omega
  have e : i_Traverse t now dead ((pkR (newPk 1 p 0 0 [])).1, (pkR (newPk 1 p 0 0 [])).2.1, (pkR (newPk 1 p 0 0 [])).2.2.1, (pkR (newPk 1 p 0 0 [])).2.2.2.2.2.2.2.2.1, (pkR (newPk 1 p 0 0 [])).2.2.2.1, (pkR (newPk 1 p 0 0 [])).2.2.2.2.1, (pkR (newPk 1 p 0 0 [])).2.2.2.2.2.1, (pkR (newPk 1 p 0 0 [])).2.2.2.2.2.2.1, (pkR (newPk 1 p 0 0 [])).2.2.2.2.2.2.2.1, (pkR (newPk 1 p 0 0 [])).2.2.2.2.2.2.2.2.2) = some (travI (trav t now dead (newPk 1 p 0 0 []))) := i_trav ht ht2 hd h1 hp
  simp only [peta, i_newPk (kind := 1) (res := 0) (seq := 0) (p := p) (pay := []) (by omega) (by simp), obind_some, e]
  rfl

theorem s_reachP {t : den tTopology} {now : Int} {dead : List Int} {p : den tPath} (ht : t.1.length ≤ 68719476736) (ht2 : t.2.length ≤ 1073741824) (hd : dead.length ≤ 68719476736) (hp : tot tPath p ≤ 1073741824) : s_Reaches t now dead p = some (reachP t now dead p) := by
  unfold s_Reaches reachP
  have h1 : tot tPacket (newPk 1 p 0 0 []) ≤ 34359738368 := by rw [newPk_tot, tot_nil]; omega
  have e : s_Traverse t now dead ((pkR (newPk 1 p 0 0 [])).1, (pkR (newPk 1 p 0 0 [])).2.1, (pkR (newPk 1 p 0 0 [])).2.2.1, (pkR (newPk 1 p 0 0 [])).2.2.2.2.2.2.2.2.1, (pkR (newPk 1 p 0 0 [])).2.2.2.1, (pkR (newPk 1 p 0 0 [])).2.2.2.2.1, (pkR (newPk 1 p 0 0 [])).2.2.2.2.2.1, (pkR (newPk 1 p 0 0 [])).2.2.2.2.2.2.1, (pkR (newPk 1 p 0 0 [])).2.2.2.2.2.2.2.1, (pkR (newPk 1 p 0 0 [])).2.2.2.2.2.2.2.2.2) = some (travS (trav t now dead (newPk 1 p 0 0 []))) := s_trav ht ht2 hd h1 hp
  simp only [peta, s_newPk (kind := 1) (res := 0) (seq := 0) (p := p) (pay := []) (by omega) (by simp), obind_some, e]
  rfl

def bothP (w : den tNetwork) (p : den tPath) (now : Int) : Bool := reachP w.1 now w.2.2.2.2.1 p && reachP w.1 now w.2.2.2.2.1 (revP p)

def laterW (w : den tNetwork) : Int := wr (w.2.2.2.1 + wr (8 + settleW w))

def workOk (w : den tNetwork) (p : den tPath) : Bool := bothP w p w.2.2.2.1 && bothP w p (laterW w)

def workP (w : den tNetwork) (f : den tFlow) : Int :=
  match scanI (fun k p => if workOk w p then some (k : Int) else none) 0 f.2.2.2.2.2.1 with
  | some i => i
  | none => -1

/-- A network that is not too big. -/
structure NetSm (w : den tNetwork) : Prop where
  as : w.1.1.length ≤ 68719476736
  links : w.1.2.length ≤ 1073741824
  dead : w.2.2.2.2.1.length ≤ 68719476736
  flows : w.2.2.2.2.2.2.1.length ≤ 1073741824

theorem netSm {w : den tNetwork} (h : tot tNetwork w ≤ 1073741824) : NetSm w where
  as := Nat.le_trans (tot_len (t := tAS) _) (Nat.le_trans (tot_l (tot_l h)) (by decide))
  links := Nat.le_trans (tot_len (t := tLink) _) (Nat.le_trans (tot_r (tot_l h)) (by decide))
  dead := Nat.le_trans (tot_len (t := ti) _) (Nat.le_trans (tot_l (tot_r (tot_r (tot_r (tot_r h))))) (by decide))
  flows := Nat.le_trans (tot_len (t := tFlow) _) (tot_l (tot_r (tot_r (tot_r (tot_r (tot_r (tot_r h)))))))

theorem s_bothP {w : den tNetwork} {p : den tPath} {now : Int} (h : NetSm w) (hp : tot tPath p ≤ 1073741824) : s_l39Both w p now = some (bothP w p now) := by
  unfold s_l39Both bothP
  simp only [peta, s_reachP h.as h.links h.dead hp, s_revP (path_sm hp), obind_some, s_reachP h.as h.links h.dead (p := revP p) (by rw [revP_tot]; exact hp)]
  cases reachP w.1 now w.2.2.2.2.1 p <;> rfl

theorem s_workP {w : den tNetwork} {f : den tFlow} (h : NetSm w) (hf : tot tFlow f ≤ 1073741824) : s_WorkingPath w f = some (workP w f) := by
  have hl : f.2.2.2.2.2.1.length ≤ 1073741824 := Nat.le_trans (tot_len (t := tPath) _) (flow_parts hf).2.1
  unfold s_WorkingPath
  simp only [peta, s_settle h.flows, obind_some]
  rw [loop_scan (l := f.2.2.2.2.2.1) (fun k p => if workOk w p then some (k : Int) else none) (by omega) (fun k p hi hd hw hm hk => by
    have hp : tot tPath p ≤ 1073741824 := by have := tot_mem (t := tPath) hm; have := (flow_parts hf).2.1; omega
    simp only [hd, hi, hw, cond_true, obind_some, peta, s_bothP h hp]
    unfold workOk laterW
    cases bothP w p w.2.2.2.1 <;> cases bothP w p (wr (w.2.2.2.1 + wr (8 + settleW w))) <;> rfl) (by simp)]
  unfold workP
  cases scanI (fun k p => if workOk w p then some (k : Int) else none) 0 f.2.2.2.2.2.1 <;> rfl

theorem i_workP {w : den tNetwork} {f : den tFlow} (h : NetSm w) (hf : tot tFlow f ≤ 1073741824) : i_WorkingPath w f = some (workP w f) := by
  have hl : f.2.2.2.2.2.1.length ≤ 1073741824 := Nat.le_trans (tot_len (t := tPath) _) (flow_parts hf).2.1
  unfold i_WorkingPath
  simp only [peta, i_settle h.flows, obind_some]
  rw [loop_scan (l := f.2.2.2.2.2.1) (fun k p => if workOk w p then some (k : Int) else none) (by omega) (fun k p hi hd hw hm hk => by
    have hp : tot tPath p ≤ 1073741824 := by have := tot_mem (t := tPath) hm; have := (flow_parts hf).2.1; omega
    have hr := fun now => i_reachP h.as h.links h.dead (now := now) hp
    have hr2 := fun now => i_reachP h.as h.links h.dead (now := now) (p := revP p) (by rw [revP_tot]; exact hp)
    simp only [hd, hi, hw, cond_true, obind_some, peta, i_revP (path_sm hp), hr, hr2]
    rw [loopG (fun k (b : Bool) => (b, (k : Int))) (true, (0 : Int)) true [w.2.2.2.1, laterW w] (fun _ n b => b && bothP w p n) (fun _ => 0) (fun _ => 0) 0 id rfl (by simp) (by simp) (fun _ _ _ => Nat.le_refl _) (fun k n b hi hx hd hw hk hb => by
      have hd : decide ((k : Int) < (([w.2.2.2.1, wr (w.2.2.2.1 + wr (8 + settleW w))] : List Int).length : Int)) = true := hd
      have hx : ([w.2.2.2.1, wr (w.2.2.2.1 + wr (8 + settleW w))] : List Int)[k]? = some n := hx
      simp only [hd, pos_nat, Int.toNat_natCast, hx, hw, cond_true, obind_some]
      unfold bothP
      cases b <;> cases reachP w.1 n w.2.2.2.2.1 p <;> rfl) (fun a => by simp)]
    show Option.bind (some (id (foldI (fun _ n b => b && bothP w p n) 0 [w.2.2.2.1, laterW w] true))) _ = _
    simp only [foldI, obind_some, id, Bool.true_and]
    unfold workOk
    cases bothP w p w.2.2.2.1 && bothP w p (laterW w) <;> rfl) (by simp)]
  unfold workP
  cases scanI (fun k p => if workOk w p then some (k : Int) else none) 0 f.2.2.2.2.2.1 <;> rfl

def doneF (w : den tNetwork) (f : den tFlow) : Bool := f.2.2.2.1 == (f.2.2.2.2.1.length : Int) || !decide (workP w f ≥ 0)

theorem i_doneW {w : den tNetwork} (h : tot tNetwork w ≤ 1073741824) : i_AllDelivered w = some (w.2.2.2.2.2.2.1.all (doneF w)) := by
  have hs := netSm h
  have hF : tot (.sl tFlow) w.2.2.2.2.2.2.1 ≤ 1073741824 := tot_l (tot_r (tot_r (tot_r (tot_r (tot_r (tot_r h))))))
  unfold i_AllDelivered
  rw [loop_scan (l := w.2.2.2.2.2.2.1) (fun _ f => if doneF w f then none else some false) (Nat.le_trans hs.flows (by decide)) (fun k f hi hd hw hm hk => by
    have hf : tot tFlow f ≤ 1073741824 := by have := tot_mem (t := tFlow) hm; omega
    simp only [hd, hi, hw, cond_true, obind_some, peta, i_workP hs hf, ne_beq]
    unfold doneF
    cases f.2.2.2.1 == (f.2.2.2.2.1.length : Int) <;> cases decide (workP w f ≥ 0) <;> rfl) (by simp), scanA (doneF w)]
  cases w.2.2.2.2.2.2.1.all (doneF w) <;> rfl

theorem s_doneW {w : den tNetwork} (h : tot tNetwork w ≤ 1073741824) : s_AllDelivered w = some (w.2.2.2.2.2.2.1.all (doneF w)) := by
  have hs := netSm h
  have hF : tot (.sl tFlow) w.2.2.2.2.2.2.1 ≤ 1073741824 := tot_l (tot_r (tot_r (tot_r (tot_r (tot_r (tot_r h))))))
  unfold s_AllDelivered
  rw [loop_scan (l := w.2.2.2.2.2.2.1) (fun _ f => if doneF w f then none else some false) (Nat.le_trans hs.flows (by decide)) (fun k f hi hd hw hm hk => by
    have hf : tot tFlow f ≤ 1073741824 := by have := tot_mem (t := tFlow) hm; omega
    simp only [hd, hi, hw, cond_true, obind_some, peta, s_workP hs hf, ne_beq]
    unfold doneF
    cases f.2.2.2.1 == (f.2.2.2.2.1.length : Int) <;> cases decide (workP w f ≥ 0) <;> rfl) (by simp), scanA (doneF w)]
  cases w.2.2.2.2.2.2.1.all (doneF w) <;> rfl

abbrev nFly (w : den tNetwork) : List (den tPacketInFlight) := w.2.2.2.2.2.1

abbrev nFlows (w : den tNetwork) : List (den tFlow) := w.2.2.2.2.2.2.1

def bytesP (p : den tPacket) : Prop := ∀ x ∈ p.2.2.2.2.2.2.2.2.2, 0 ≤ x ∧ x ≤ 255

def bytesL (l : List Int) : Prop := ∀ x ∈ l, 0 ≤ x ∧ x ≤ 255

def SameP (p q : den tPacket) : Prop := p.2.2.2.1 = q.2.2.2.1 ∧ p.2.2.2.2.1 = q.2.2.2.2.1 ∧ p.2.2.2.2.2.1 = q.2.2.2.2.2.1

theorem SameP.trans {p q r : den tPacket} (h : SameP p q) (k : SameP q r) : SameP p r := ⟨h.1.trans k.1, h.2.1.trans k.2.1, h.2.2.trans k.2.2⟩

/-- Payloads and messages are bytes. -/
structure BytesW (w : den tNetwork) : Prop where
  fly : ∀ x ∈ nFly w, bytesP x.2.2
  msg : ∀ f ∈ nFlows w, ∀ m ∈ f.2.2.2.2.1, bytesL m

/-- What a step keeps. -/
structure Keep (B F : Nat) (w : den tNetwork) : Prop where
  tot : Go.V.tot tNetwork w ≤ B
  flows : (nFlows w).length ≤ F
  bytes : BytesW w

theorem Keep.mono {B C F : Nat} {w : den tNetwork} (h : Keep B F w) (hb : B ≤ C) : Keep C F w := ⟨Nat.le_trans h.tot hb, h.flows, h.bytes⟩

end Go.Proofs.YtejfajiolkojlaaGreat
