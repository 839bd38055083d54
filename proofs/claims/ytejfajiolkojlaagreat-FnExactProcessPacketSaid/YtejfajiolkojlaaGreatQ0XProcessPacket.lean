/-
  Facts and plain laws: what the functions compute, in plain words. Conditions: as each says.
-/
import Derived.Test.YtejfajiolkojlaaGreatT0XProcessPacket
set_option linter.unusedVariables false
set_option linter.unusedSimpArgs false
set_option maxRecDepth 100000
namespace Go.Proofs.YtejfajiolkojlaaGreat
open Go.Ab Go.V
theorem sz_ASS {l:den (.sl tAS)} {left:Int} (w:Wf (.sl tAS) l) (h0:0≤left) (h1:left≤1048576):SzT (l_szASS l left) left (tot (.sl tAS) l):=szF_ok (t:=tAS) rfl w.1 h0 h1

theorem sz_LinkS {l:den (.sl tLk)} {left:Int} (w:Wf (.sl tLk) l) (h0:0≤left) (h1:left≤1048576):SzT (l_szLinkS l left) left (tot (.sl tLk) l):=szF_ok (t:=tLk) rfl w.1 h0 h1

theorem sz_Topology {x:den tTo} {left:Int} (w:Wf tTo x) (h0:0≤left) (h1:left≤1048576):SzT (l_szTopology x left) left (tot tTo x):=SzT.eq (sz_field (sz_ASS w.1 h0 h1) h1 fun r0 a0 b0=>sz_field (sz_LinkS w.2 a0 b0) b0 fun r1 a1 b1=>sz_done a1) (by simp [tot,tot_flat]<;>omega)

theorem sz_HopS {l:den (.sl tHop)} {left:Int} (w:Wf (.sl tHop) l) (h0:0≤left) (h1:left≤1048576):SzT (l_szHopS l left) left (tot (.sl tHop) l):=szF_ok (t:=tHop) rfl w.1 h0 h1

theorem sz_Segment {x:den tSg} {left:Int} (w:Wf tSg x) (h0:0≤left) (h1:left≤1048576):SzT (l_szSegment x left) left (tot tSg x):=SzT.eq (sz_field (sz_HopS w.2.2 h0 h1) h1 fun r0 a0 b0=>sz_done a0) (by simp [tot,tot_flat])

theorem sz_SegmentS {l:den (.sl tSg)} {left:Int} (w:Wf (.sl tSg) l) (h0:0≤left) (h1:left≤1048576):SzT (l_szSegmentS l left) left (tot (.sl tSg) l):=szL_ok (t:=tSg) (szE:=l_szSegment) w.1 h0 h1 fun x hx k k0 k1=>sz_Segment (w.2 x hx) k0 k1

theorem sz_SegmentDatabase {x:den tDb} {left:Int} (w:Wf tDb x) (h0:0≤left) (h1:left≤1048576):SzT (l_szSegmentDatabase x left) left (tot tDb x):=SzT.eq (sz_field (sz_SegmentS w.1 h0 h1) h1 fun r0 a0 b0=>sz_field (sz_SegmentS w.2 a0 b0) b0 fun r1 a1 b1=>sz_done a1) (by simp [tot,tot_flat]<;>omega)

theorem sz_ReservationS {l:den (.sl tRs)} {left:Int} (w:Wf (.sl tRs) l) (h0:0≤left) (h1:left≤1048576):SzT (l_szReservationS l left) left (tot (.sl tRs) l):=szF_ok (t:=tRs) rfl w.1 h0 h1

theorem sz_UsageS {l:den (.sl tUs)} {left:Int} (w:Wf (.sl tUs) l) (h0:0≤left) (h1:left≤1048576):SzT (l_szUsageS l left) left (tot (.sl tUs) l):=szF_ok (t:=tUs) rfl w.1 h0 h1

theorem sz_Scheduler {x:den tSc} {left:Int} (w:Wf tSc x) (h0:0≤left) (h1:left≤1048576):SzT (l_szScheduler x left) left (tot tSc x):=SzT.eq (sz_field (sz_ReservationS w.2.1 h0 h1) h1 fun r0 a0 b0=>sz_field (sz_UsageS w.2.2 a0 b0) b0 fun r1 a1 b1=>sz_done a1) (by simp [tot,tot_flat]<;>omega)

theorem sz_IntS {l:den (.sl ti)} {left:Int} (w:Wf (.sl ti) l) (h0:0≤left) (h1:left≤1048576):SzT (l_szIntS l left) left (tot (.sl ti) l):=szF_ok (t:=ti) rfl w.1 h0 h1

theorem sz_PathPart {x:den tPp} {left:Int} (w:Wf tPp x) (h0:0≤left) (h1:left≤1048576):SzT (l_szPathPart x left) left (tot tPp x):=SzT.eq (sz_field (sz_HopS w.2.2.2 h0 h1) h1 fun r0 a0 b0=>sz_done a0) (by simp [tot,tot_flat])

theorem sz_PathPartS {l:den (.sl tPp)} {left:Int} (w:Wf (.sl tPp) l) (h0:0≤left) (h1:left≤1048576):SzT (l_szPathPartS l left) left (tot (.sl tPp) l):=szL_ok (t:=tPp) (szE:=l_szPathPart) w.1 h0 h1 fun x hx k k0 k1=>sz_PathPart (w.2 x hx) k0 k1

theorem sz_Path {x:den tPt} {left:Int} (w:Wf tPt x) (h0:0≤left) (h1:left≤1048576):SzT (l_szPath x left) left (tot tPt x):=SzT.eq (sz_field (sz_PathPartS w h0 h1) h1 fun r0 a0 b0=>sz_done a0) (by simp [tot,tot_flat])

theorem sz_ByteS {l:den (.sl tb)} {left:Int} (w:Wf (.sl tb) l) (h0:0≤left) (h1:left≤1048576):SzT (l_szByteS l left) left (tot (.sl tb) l):=szF_ok (t:=tb) rfl w.1 h0 h1

theorem sz_Packet {x:den tPk} {left:Int} (w:Wf tPk x) (h0:0≤left) (h1:left≤1048576):SzT (l_szPacket x left) left (tot tPk x):=SzT.eq (sz_field (sz_Path w.2.2.2.1 h0 h1) h1 fun r0 a0 b0=>sz_field (sz_ByteS w.2.2.2.2.2.2.2.2.2 a0 b0) b0 fun r1 a1 b1=>sz_done a1) (by simp [tot,tot_flat]<;>omega)

theorem sz_PacketInFlight {x:den tFy} {left:Int} (w:Wf tFy x) (h0:0≤left) (h1:left≤1048576):SzT (l_szPacketInFlight x left) left (tot tFy x):=SzT.eq (sz_field (sz_Packet w.2.2 h0 h1) h1 fun r0 a0 b0=>sz_done a0) (by simp [tot,tot_flat])

theorem sz_PacketInFlightS {l:den (.sl tFy)} {left:Int} (w:Wf (.sl tFy) l) (h0:0≤left) (h1:left≤1048576):SzT (l_szPacketInFlightS l left) left (tot (.sl tFy) l):=szL_ok (t:=tFy) (szE:=l_szPacketInFlight) w.1 h0 h1 fun x hx k k0 k1=>sz_PacketInFlight (w.2 x hx) k0 k1

theorem sz_Message {x:den tMs} {left:Int} (w:Wf tMs x) (h0:0≤left) (h1:left≤1048576):SzT (l_szMessage x left) left (tot tMs x):=SzT.eq (sz_field (sz_ByteS w h0 h1) h1 fun r0 a0 b0=>sz_done a0) (by simp [tot,tot_flat])

theorem sz_MessageS {l:den (.sl tMs)} {left:Int} (w:Wf (.sl tMs) l) (h0:0≤left) (h1:left≤1048576):SzT (l_szMessageS l left) left (tot (.sl tMs) l):=szL_ok (t:=tMs) (szE:=l_szMessage) w.1 h0 h1 fun x hx k k0 k1=>sz_Message (w.2 x hx) k0 k1

theorem sz_PathS {l:den (.sl tPt)} {left:Int} (w:Wf (.sl tPt) l) (h0:0≤left) (h1:left≤1048576):SzT (l_szPathS l left) left (tot (.sl tPt) l):=szL_ok (t:=tPt) (szE:=l_szPath) w.1 h0 h1 fun x hx k k0 k1=>sz_Path (w.2 x hx) k0 k1

theorem sz_RevocationS {l:den (.sl tRv)} {left:Int} (w:Wf (.sl tRv) l) (h0:0≤left) (h1:left≤1048576):SzT (l_szRevocationS l left) left (tot (.sl tRv) l):=szF_ok (t:=tRv) rfl w.1 h0 h1

theorem sz_Flow {x:den tFl} {left:Int} (w:Wf tFl x) (h0:0≤left) (h1:left≤1048576):SzT (l_szFlow x left) left (tot tFl x):=SzT.eq (sz_field (sz_MessageS w.2.2.2.2.1 h0 h1) h1 fun r0 a0 b0=>sz_field (sz_PathS w.2.2.2.2.2.1 a0 b0) b0 fun r1 a1 b1=>sz_field (sz_RevocationS w.2.2.2.2.2.2.2.2 a1 b1) b1 fun r2 a2 b2=>sz_done a2) (by simp [tot,tot_flat]<;>omega)

theorem sz_FlowS {l:den (.sl tFl)} {left:Int} (w:Wf (.sl tFl) l) (h0:0≤left) (h1:left≤1048576):SzT (l_szFlowS l left) left (tot (.sl tFl) l):=szL_ok (t:=tFl) (szE:=l_szFlow) w.1 h0 h1 fun x hx k k0 k1=>sz_Flow (w.2 x hx) k0 k1

theorem sz_Inbox {x:den tIb} {left:Int} (w:Wf tIb x) (h0:0≤left) (h1:left≤1048576):SzT (l_szInbox x left) left (tot tIb x):=SzT.eq (sz_field (sz_MessageS w.2.2.2 h0 h1) h1 fun r0 a0 b0=>sz_done a0) (by simp [tot,tot_flat])

theorem sz_InboxS {l:den (.sl tIb)} {left:Int} (w:Wf (.sl tIb) l) (h0:0≤left) (h1:left≤1048576):SzT (l_szInboxS l left) left (tot (.sl tIb) l):=szL_ok (t:=tIb) (szE:=l_szInbox) w.1 h0 h1 fun x hx k k0 k1=>sz_Inbox (w.2 x hx) k0 k1

theorem sz_Network {x:den tNw} {left:Int} (w:Wf tNw x) (h0:0≤left) (h1:left≤1048576):SzT (l_szNetwork x left) left (tot tNw x):=SzT.eq (sz_field (sz_Topology w.1 h0 h1) h1 fun r0 a0 b0=>sz_field (sz_SegmentDatabase w.2.1 a0 b0) b0 fun r1 a1 b1=>sz_field (sz_Scheduler w.2.2.1 a1 b1) b1 fun r2 a2 b2=>sz_field (sz_IntS w.2.2.2.2.1 a2 b2) b2 fun r3 a3 b3=>sz_field (sz_PacketInFlightS w.2.2.2.2.2.1 a3 b3) b3 fun r4 a4 b4=>sz_field (sz_FlowS w.2.2.2.2.2.2.1 a4 b4) b4 fun r5 a5 b5=>sz_field (sz_InboxS w.2.2.2.2.2.2.2.1 a5 b5) b5 fun r6 a6 b6=>sz_done a6) (by simp [tot,tot_flat]<;>omega)

theorem to_AS {x:den tAS} (h:Sm tAS x):l_toAS x=some x:=by
 unfold l_toAS
 rfl

theorem to_ASS {l:den (.sl tAS)} (h:Sm (.sl tAS) l):l_toASS l=some l:=by
 have :l_toASS l=some (l.map id):=toL_eq (toE:=l_toAS) (g:=id) h.1 (by decide) fun x hx=>to_AS (h.2 x hx)
 simpa using this

theorem to_Link {x:den tLk} (h:Sm tLk x):l_toLink x=some x:=by
 unfold l_toLink
 rfl

theorem to_LinkS {l:den (.sl tLk)} (h:Sm (.sl tLk) l):l_toLinkS l=some l:=by
 have :l_toLinkS l=some (l.map id):=toL_eq (toE:=l_toLink) (g:=id) h.1 (by decide) fun x hx=>to_Link (h.2 x hx)
 simpa using this

theorem to_Topology {x:den tTo} (h:Sm tTo x):l_toTopology x=some x:=by
 unfold l_toTopology
 simp [to_ASS h.1,to_LinkS h.2]

theorem to_Hop {x:den tHop} (h:Sm tHop x):l_toHop x=some x:=by
 unfold l_toHop
 rfl

theorem to_HopS {l:den (.sl tHop)} (h:Sm (.sl tHop) l):l_toHopS l=some l:=by
 have :l_toHopS l=some (l.map id):=toL_eq (toE:=l_toHop) (g:=id) h.1 (by decide) fun x hx=>to_Hop (h.2 x hx)
 simpa using this

theorem to_Segment {x:den tSg} (h:Sm tSg x):l_toSegment x=some x:=by
 unfold l_toSegment
 simp [to_HopS h.2.2]

theorem to_SegmentS {l:den (.sl tSg)} (h:Sm (.sl tSg) l):l_toSegmentS l=some l:=by
 have :l_toSegmentS l=some (l.map id):=toL_eq (toE:=l_toSegment) (g:=id) h.1 (by decide) fun x hx=>to_Segment (h.2 x hx)
 simpa using this

theorem to_SegmentDatabase {x:den tDb} (h:Sm tDb x):l_toSegmentDatabase x=some x:=by
 unfold l_toSegmentDatabase
 simp [to_SegmentS h.1,to_SegmentS h.2]

theorem to_Reservation {x:den tRs} (h:Sm tRs x):l_toReservation x=some x:=by
 unfold l_toReservation
 rfl

theorem to_ReservationS {l:den (.sl tRs)} (h:Sm (.sl tRs) l):l_toReservationS l=some l:=by
 have :l_toReservationS l=some (l.map id):=toL_eq (toE:=l_toReservation) (g:=id) h.1 (by decide) fun x hx=>to_Reservation (h.2 x hx)
 simpa using this

theorem to_Usage {x:den tUs} (h:Sm tUs x):l_toUsage x=some x:=by
 unfold l_toUsage
 rfl

theorem to_UsageS {l:den (.sl tUs)} (h:Sm (.sl tUs) l):l_toUsageS l=some l:=by
 have :l_toUsageS l=some (l.map id):=toL_eq (toE:=l_toUsage) (g:=id) h.1 (by decide) fun x hx=>to_Usage (h.2 x hx)
 simpa using this

theorem to_Scheduler {x:den tSc} (h:Sm tSc x):l_toScheduler x=some x:=by
 unfold l_toScheduler
 simp [to_ReservationS h.2.1,to_UsageS h.2.2]

theorem to_IntS {l:den (.sl ti)} (h:Sm (.sl ti) l):l_toIntS l=some l:=by
 have :l_toIntS l=some (l.map id):=toL_eq (toE:=some) (g:=id) h.1 (by decide) fun x hx=>rfl
 simpa using this

theorem to_PathPart {x:den tPp} (h:Sm tPp x):l_toPathPart x=some x:=by
 unfold l_toPathPart
 simp [to_HopS h.2.2.2]

theorem to_PathPartS {l:den (.sl tPp)} (h:Sm (.sl tPp) l):l_toPathPartS l=some l:=by
 have :l_toPathPartS l=some (l.map id):=toL_eq (toE:=l_toPathPart) (g:=id) h.1 (by decide) fun x hx=>to_PathPart (h.2 x hx)
 simpa using this

theorem to_Path {x:den tPt} (h:Sm tPt x):l_toPath x=some x:=by
 unfold l_toPath
 simp [to_PathPartS h]

theorem to_ByteS {l:den (.sl tb)} (h:Sm (.sl tb) l):l_toByteS l=some l:=by
 have :l_toByteS l=some (l.map id):=toL_eq (toE:=some) (g:=id) h.1 (by decide) fun x hx=>rfl
 simpa using this

theorem to_Packet {x:den tPk} (h:Sm tPk x):l_toPacket x=some (x.1,x.2.1,x.2.2.1,x.2.2.2.2.1,x.2.2.2.2.2.1,x.2.2.2.2.2.2.1,x.2.2.2.2.2.2.2.1,x.2.2.2.2.2.2.2.2.1,x.2.2.2.1,x.2.2.2.2.2.2.2.2.2):=by
 unfold l_toPacket
 simp only [to_Path h.2.2.2.1,to_ByteS h.2.2.2.2.2.2.2.2.2,obind_some,peta]

theorem to_PacketInFlight {x:den tFy} (h:Sm tFy x):l_toPacketInFlight x=some (x.1,x.2.1,x.2.2.1,x.2.2.2.1,x.2.2.2.2.1,x.2.2.2.2.2.2.1,x.2.2.2.2.2.2.2.1,x.2.2.2.2.2.2.2.2.1,x.2.2.2.2.2.2.2.2.2.1,x.2.2.2.2.2.2.2.2.2.2.1,x.2.2.2.2.2.1,x.2.2.2.2.2.2.2.2.2.2.2):=by
 unfold l_toPacketInFlight
 simp only [to_Packet h.2.2,obind_some,peta]

theorem to_PacketInFlightS {l:den (.sl tFy)} (h:Sm (.sl tFy) l):l_toPacketInFlightS l=some l:=by
 unfold l_toPacketInFlightS
 exact toL_run' h.1 (by decide) (fun k L x hi hm h1 h2 h3 h4 hw=>by simp only [h1,h2,h3,h4,hi,to_PacketInFlight (h.2 x hm),obind_some,cond_true,Int.toNat_natCast,hw,peta]) (fun L=>by simp)

theorem to_Message {x:den tMs} (h:Sm tMs x):l_toMessage x=some x:=by
 unfold l_toMessage
 simp [to_ByteS h]

theorem to_MessageS {l:den (.sl tMs)} (h:Sm (.sl tMs) l):l_toMessageS l=some l:=by
 have :l_toMessageS l=some (l.map id):=toL_eq (toE:=l_toMessage) (g:=id) h.1 (by decide) fun x hx=>to_Message (h.2 x hx)
 simpa using this

theorem to_PathS {l:den (.sl tPt)} (h:Sm (.sl tPt) l):l_toPathS l=some l:=by
 have :l_toPathS l=some (l.map id):=toL_eq (toE:=l_toPath) (g:=id) h.1 (by decide) fun x hx=>to_Path (h.2 x hx)
 simpa using this

theorem to_Revocation {x:den tRv} (h:Sm tRv x):l_toRevocation x=some x:=by
 unfold l_toRevocation
 rfl

theorem to_RevocationS {l:den (.sl tRv)} (h:Sm (.sl tRv) l):l_toRevocationS l=some l:=by
 have :l_toRevocationS l=some (l.map id):=toL_eq (toE:=l_toRevocation) (g:=id) h.1 (by decide) fun x hx=>to_Revocation (h.2 x hx)
 simpa using this

theorem to_Flow {x:den tFl} (h:Sm tFl x):l_toFlow x=some (x.1,x.2.1,x.2.2.1,x.2.2.2.1,x.2.2.2.2.2.2.1,x.2.2.2.2.2.2.2.1,x.2.2.2.2.1,x.2.2.2.2.2.1,x.2.2.2.2.2.2.2.2):=by
 unfold l_toFlow
 simp only [to_MessageS h.2.2.2.2.1,to_PathS h.2.2.2.2.2.1,to_RevocationS h.2.2.2.2.2.2.2.2,obind_some,peta]

theorem to_FlowS {l:den (.sl tFl)} (h:Sm (.sl tFl) l):l_toFlowS l=some l:=by
 unfold l_toFlowS
 exact toL_run h.1 (by decide) (fun k L x hi hm h1 h2 h3 h4 hw=>by simp only [h1,h2,h3,h4,hi,to_Flow (h.2 x hm),obind_some,cond_true,Int.toNat_natCast,hw,peta]) (fun L=>by simp)

theorem to_Inbox {x:den tIb} (h:Sm tIb x):l_toInbox x=some x:=by
 unfold l_toInbox
 simp [to_MessageS h.2.2.2]

theorem to_InboxS {l:den (.sl tIb)} (h:Sm (.sl tIb) l):l_toInboxS l=some l:=by
 have :l_toInboxS l=some (l.map id):=toL_eq (toE:=l_toInbox) (g:=id) h.1 (by decide) fun x hx=>to_Inbox (h.2 x hx)
 simpa using this

theorem to_Network {x:den tNw} (h:Sm tNw x):l_toNetwork x=some (x.2.2.1.1,x.2.2.2.1,x.2.2.2.2.2.2.2.2,x.1.1,x.1.2,x.2.1.1,x.2.1.2,x.2.2.1.2.1,x.2.2.1.2.2,x.2.2.2.2.1,x.2.2.2.2.2.1,x.2.2.2.2.2.2.1,x.2.2.2.2.2.2.2.1):=by
 unfold l_toNetwork
 simp only [to_Topology h.1,to_SegmentDatabase h.2.1,to_Scheduler h.2.2.1,to_IntS h.2.2.2.2.1,to_PacketInFlightS h.2.2.2.2.2.1,to_FlowS h.2.2.2.2.2.2.1,to_InboxS h.2.2.2.2.2.2.2.1,obind_some,peta]

theorem eq_AS {x:den tAS} (h:SmB 4611686018427387904 tAS x):l_eqAS x x=some true:=by
 unfold l_eqAS
 simp

theorem eq_ASS {l:den (.sl tAS)} (h:SmB 4611686018427387904 (.sl tAS) l):l_eqASS l l=some true:=eqL_refl (eqE:=l_eqAS) h.1 fun x hx=>eq_AS (h.2 x hx)

theorem eq_Link {x:den tLk} (h:SmB 4611686018427387904 tLk x):l_eqLink x x=some true:=by
 unfold l_eqLink
 simp

theorem eq_LinkS {l:den (.sl tLk)} (h:SmB 4611686018427387904 (.sl tLk) l):l_eqLinkS l l=some true:=eqL_refl (eqE:=l_eqLink) h.1 fun x hx=>eq_Link (h.2 x hx)

theorem eq_Topology {x:den tTo} (h:SmB 4611686018427387904 tTo x):l_eqTopology x x=some true:=by
 unfold l_eqTopology
 simp [eq_ASS h.1,eq_LinkS h.2]

theorem eq_Hop {x:den tHop} (h:SmB 4611686018427387904 tHop x):l_eqHop x x=some true:=by
 unfold l_eqHop
 simp

theorem eq_HopS {l:den (.sl tHop)} (h:SmB 4611686018427387904 (.sl tHop) l):l_eqHopS l l=some true:=eqL_refl (eqE:=l_eqHop) h.1 fun x hx=>eq_Hop (h.2 x hx)

theorem eq_Segment {x:den tSg} (h:SmB 4611686018427387904 tSg x):l_eqSegment x x=some true:=by
 unfold l_eqSegment
 simp [eq_HopS h.2.2]

theorem eq_SegmentS {l:den (.sl tSg)} (h:SmB 4611686018427387904 (.sl tSg) l):l_eqSegmentS l l=some true:=eqL_refl (eqE:=l_eqSegment) h.1 fun x hx=>eq_Segment (h.2 x hx)

theorem eq_SegmentDatabase {x:den tDb} (h:SmB 4611686018427387904 tDb x):l_eqSegmentDatabase x x=some true:=by
 unfold l_eqSegmentDatabase
 simp [eq_SegmentS h.1,eq_SegmentS h.2]

theorem eq_Reservation {x:den tRs} (h:SmB 4611686018427387904 tRs x):l_eqReservation x x=some true:=by
 unfold l_eqReservation
 simp

theorem eq_ReservationS {l:den (.sl tRs)} (h:SmB 4611686018427387904 (.sl tRs) l):l_eqReservationS l l=some true:=eqL_refl (eqE:=l_eqReservation) h.1 fun x hx=>eq_Reservation (h.2 x hx)

theorem eq_Usage {x:den tUs} (h:SmB 4611686018427387904 tUs x):l_eqUsage x x=some true:=by
 unfold l_eqUsage
 simp

theorem eq_UsageS {l:den (.sl tUs)} (h:SmB 4611686018427387904 (.sl tUs) l):l_eqUsageS l l=some true:=eqL_refl (eqE:=l_eqUsage) h.1 fun x hx=>eq_Usage (h.2 x hx)

theorem eq_Scheduler {x:den tSc} (h:SmB 4611686018427387904 tSc x):l_eqScheduler x x=some true:=by
 unfold l_eqScheduler
 simp [eq_ReservationS h.2.1,eq_UsageS h.2.2]

theorem eq_IntS {l:den (.sl ti)} (h:SmB 4611686018427387904 (.sl ti) l):l_eqIntS l l=some true:=eqL_refl (eqE:=(fun x y=>some (x==y))) h.1 fun x hx=>by simp

theorem eq_PathPart {x:den tPp} (h:SmB 4611686018427387904 tPp x):l_eqPathPart x x=some true:=by
 unfold l_eqPathPart
 simp [eq_HopS h.2.2.2]

theorem eq_PathPartS {l:den (.sl tPp)} (h:SmB 4611686018427387904 (.sl tPp) l):l_eqPathPartS l l=some true:=eqL_refl (eqE:=l_eqPathPart) h.1 fun x hx=>eq_PathPart (h.2 x hx)

theorem eq_Path {x:den tPt} (h:SmB 4611686018427387904 tPt x):l_eqPath x x=some true:=by
 unfold l_eqPath
 simp [eq_PathPartS h]

theorem eq_ByteS {l:den (.sl tb)} (h:SmB 4611686018427387904 (.sl tb) l):l_eqByteS l l=some true:=eqL_refl (eqE:=(fun x y=>some (x==y))) h.1 fun x hx=>by simp

theorem eq_Packet {x:den tPk} (h:SmB 4611686018427387904 tPk x):l_eqPacket x x=some true:=by
 unfold l_eqPacket
 simp [eq_Path h.2.2.2.1,eq_ByteS h.2.2.2.2.2.2.2.2.2]

theorem eq_PacketInFlight {x:den tFy} (h:SmB 4611686018427387904 tFy x):l_eqPacketInFlight x x=some true:=by
 unfold l_eqPacketInFlight
 simp [eq_Packet h.2.2]

theorem eq_PacketInFlightS {l:den (.sl tFy)} (h:SmB 4611686018427387904 (.sl tFy) l):l_eqPacketInFlightS l l=some true:=eqL_refl (eqE:=l_eqPacketInFlight) h.1 fun x hx=>eq_PacketInFlight (h.2 x hx)

theorem eq_Message {x:den tMs} (h:SmB 4611686018427387904 tMs x):l_eqMessage x x=some true:=by
 unfold l_eqMessage
 simp [eq_ByteS h]

theorem eq_MessageS {l:den (.sl tMs)} (h:SmB 4611686018427387904 (.sl tMs) l):l_eqMessageS l l=some true:=eqL_refl (eqE:=l_eqMessage) h.1 fun x hx=>eq_Message (h.2 x hx)

theorem eq_PathS {l:den (.sl tPt)} (h:SmB 4611686018427387904 (.sl tPt) l):l_eqPathS l l=some true:=eqL_refl (eqE:=l_eqPath) h.1 fun x hx=>eq_Path (h.2 x hx)

theorem eq_Revocation {x:den tRv} (h:SmB 4611686018427387904 tRv x):l_eqRevocation x x=some true:=by
 unfold l_eqRevocation
 simp

theorem eq_RevocationS {l:den (.sl tRv)} (h:SmB 4611686018427387904 (.sl tRv) l):l_eqRevocationS l l=some true:=eqL_refl (eqE:=l_eqRevocation) h.1 fun x hx=>eq_Revocation (h.2 x hx)

theorem eq_Flow {x:den tFl} (h:SmB 4611686018427387904 tFl x):l_eqFlow x x=some true:=by
 unfold l_eqFlow
 simp [eq_MessageS h.2.2.2.2.1,eq_PathS h.2.2.2.2.2.1,eq_RevocationS h.2.2.2.2.2.2.2.2]

theorem eq_FlowS {l:den (.sl tFl)} (h:SmB 4611686018427387904 (.sl tFl) l):l_eqFlowS l l=some true:=eqL_refl (eqE:=l_eqFlow) h.1 fun x hx=>eq_Flow (h.2 x hx)

theorem eq_Inbox {x:den tIb} (h:SmB 4611686018427387904 tIb x):l_eqInbox x x=some true:=by
 unfold l_eqInbox
 simp [eq_MessageS h.2.2.2]

theorem eq_InboxS {l:den (.sl tIb)} (h:SmB 4611686018427387904 (.sl tIb) l):l_eqInboxS l l=some true:=eqL_refl (eqE:=l_eqInbox) h.1 fun x hx=>eq_Inbox (h.2 x hx)

theorem eq_Network {x:den tNw} (h:SmB 4611686018427387904 tNw x):l_eqNetwork x x=some true:=by
 unfold l_eqNetwork
 simp [eq_Topology h.1,eq_SegmentDatabase h.2.1,eq_Scheduler h.2.2.1,eq_IntS h.2.2.2.2.1,eq_PacketInFlightS h.2.2.2.2.2.1,eq_FlowS h.2.2.2.2.2.2.1,eq_InboxS h.2.2.2.2.2.2.2.1]

theorem mark_ASS {l:den (.sl tAS)} {k:Int} (h:SmB 4611686018427387904 (.sl tAS) l) (hk:0≤k) (hb:k+((lv (.sl tAS) l:Nat):Int)≤4611686018427387904):l_markASS l k=some (k+((lv (.sl tAS) l:Nat):Int),mkT (.sl tAS) l k):=by
 have hc:=cntAll_sum (lv tAS) l
 have hc:k+((cntAll (lv tAS) l:Nat):Int)=k+((lv (.sl tAS) l:Nat):Int):=by rw [hc];rfl
 unfold l_markASS
 rw [mark0 (cE:=lv tAS) (mE:=mkT tAS) (SmB 4611686018427387904 tAS) (fun k i L x hx hi hN hk hb hp=>by
   have hd:decide ((i:Int)<(L.length:Int))=true:=by simpa using hi
   have hd0:decide ((0:Int)≤(i:Int))=true:=by simp
   have hw:IntKind.i64.wrap ((i:Int)+1)=((i+1:Nat):Int):=by rw [wri (by omega) (by omega)];omega
   have hl:k+((lv tAS x:Nat):Int)=k+1+1+1:=by simp only [lv]<;>omega
   rw [hl] at hb
   rw [hl]
   have hE:mkT tAS x k=(k,Int.tmod (k+1) 3==0,k+1+1):=by first | rfl | (simp [mkT,lv];try omega)
   have f0:IntKind.i64.wrap (k+1)=k+1:=wri (by omega) (by omega)
   have f1:IntKind.i64.wrap (k+1+1)=k+1+1:=wri (by omega) (by omega)
   have f2:IntKind.i64.wrap (k+1+1+1)=k+1+1+1:=wri (by omega) (by omega)
   rw [hE]
   simp only [hd,hd0,hw,cond_true,Int.toNat_natCast,hx,obind_some,List.length_set,List.getElem?_set_self hi,List.set_set,f0,f1,f2]) (fun k L=>by simp) h.1 h.2 hk (by rw [hc];exact hb),hc]
 rfl

theorem mark_LinkS {l:den (.sl tLk)} {k:Int} (h:SmB 4611686018427387904 (.sl tLk) l) (hk:0≤k) (hb:k+((lv (.sl tLk) l:Nat):Int)≤4611686018427387904):l_markLinkS l k=some (k+((lv (.sl tLk) l:Nat):Int),mkT (.sl tLk) l k):=by
 have hc:=cntAll_sum (lv tLk) l
 have hc:k+((cntAll (lv tLk) l:Nat):Int)=k+((lv (.sl tLk) l:Nat):Int):=by rw [hc];rfl
 unfold l_markLinkS
 rw [mark0 (cE:=lv tLk) (mE:=mkT tLk) (SmB 4611686018427387904 tLk) (fun k i L x hx hi hN hk hb hp=>by
   have hd:decide ((i:Int)<(L.length:Int))=true:=by simpa using hi
   have hd0:decide ((0:Int)≤(i:Int))=true:=by simp
   have hw:IntKind.i64.wrap ((i:Int)+1)=((i+1:Nat):Int):=by rw [wri (by omega) (by omega)];omega
   have hl:k+((lv tLk x:Nat):Int)=k+1+1+1+1+1:=by simp only [lv]<;>omega
   rw [hl] at hb
   rw [hl]
   have hE:mkT tLk x k=(k,k+1,k+1+1,k+1+1+1,k+1+1+1+1):=by first | rfl | (simp [mkT,lv];try omega)
   have f0:IntKind.i64.wrap (k+1)=k+1:=wri (by omega) (by omega)
   have f1:IntKind.i64.wrap (k+1+1)=k+1+1:=wri (by omega) (by omega)
   have f2:IntKind.i64.wrap (k+1+1+1)=k+1+1+1:=wri (by omega) (by omega)
   have f3:IntKind.i64.wrap (k+1+1+1+1)=k+1+1+1+1:=wri (by omega) (by omega)
   have f4:IntKind.i64.wrap (k+1+1+1+1+1)=k+1+1+1+1+1:=wri (by omega) (by omega)
   rw [hE]
   simp only [hd,hd0,hw,cond_true,Int.toNat_natCast,hx,obind_some,List.length_set,List.getElem?_set_self hi,List.set_set,f0,f1,f2,f3,f4]) (fun k L=>by simp) h.1 h.2 hk (by rw [hc];exact hb),hc]
 rfl

theorem mark_Topology {x:den tTo} {k:Int} (h:SmB 4611686018427387904 tTo x) (hk:0≤k) (hb:k+((lv (.sl tAS) x.1:Nat):Int)+((lv (.sl tLk) x.2:Nat):Int)≤4611686018427387904):l_markTopology x k=some (k+((lv (.sl tAS) x.1:Nat):Int)+((lv (.sl tLk) x.2:Nat):Int),mkT (.sl tAS) x.1 (k),mkT (.sl tLk) x.2 (k+((lv (.sl tAS) x.1:Nat):Int))):=by
 have q0:=mark_ASS (l:=x.1) (k:=k) h.1 (by omega) (by omega)
 have q1:=mark_LinkS (l:=x.2) (k:=k+((lv (.sl tAS) x.1:Nat):Int)) h.2 (by omega) (by omega)
 unfold l_markTopology
 simp only [q0,q1,obind_some,peta]

theorem mark_HopS {l:den (.sl tHop)} {k:Int} (h:SmB 4611686018427387904 (.sl tHop) l) (hk:0≤k) (hb:k+((lv (.sl tHop) l:Nat):Int)≤4611686018427387904):l_markHopS l k=some (k+((lv (.sl tHop) l:Nat):Int),mkT (.sl tHop) l k):=by
 have hc:=cntAll_sum (lv tHop) l
 have hc:k+((cntAll (lv tHop) l:Nat):Int)=k+((lv (.sl tHop) l:Nat):Int):=by rw [hc];rfl
 unfold l_markHopS
 rw [mark0 (cE:=lv tHop) (mE:=mkT tHop) (SmB 4611686018427387904 tHop) (fun k i L x hx hi hN hk hb hp=>by
   have hd:decide ((i:Int)<(L.length:Int))=true:=by simpa using hi
   have hd0:decide ((0:Int)≤(i:Int))=true:=by simp
   have hw:IntKind.i64.wrap ((i:Int)+1)=((i+1:Nat):Int):=by rw [wri (by omega) (by omega)];omega
   have hl:k+((lv tHop x:Nat):Int)=k+1+1+1+1+1:=by simp only [lv]<;>omega
   rw [hl] at hb
   rw [hl]
   have hE:mkT tHop x k=(k,k+1,k+1+1,k+1+1+1,k+1+1+1+1):=by first | rfl | (simp [mkT,lv];try omega)
   have f0:IntKind.i64.wrap (k+1)=k+1:=wri (by omega) (by omega)
   have f1:IntKind.i64.wrap (k+1+1)=k+1+1:=wri (by omega) (by omega)
   have f2:IntKind.i64.wrap (k+1+1+1)=k+1+1+1:=wri (by omega) (by omega)
   have f3:IntKind.i64.wrap (k+1+1+1+1)=k+1+1+1+1:=wri (by omega) (by omega)
   have f4:IntKind.i64.wrap (k+1+1+1+1+1)=k+1+1+1+1+1:=wri (by omega) (by omega)
   rw [hE]
   simp only [hd,hd0,hw,cond_true,Int.toNat_natCast,hx,obind_some,List.length_set,List.getElem?_set_self hi,List.set_set,f0,f1,f2,f3,f4]) (fun k L=>by simp) h.1 h.2 hk (by rw [hc];exact hb),hc]
 rfl

theorem mark_SegmentS {l:den (.sl tSg)} {k:Int} (h:SmB 4611686018427387904 (.sl tSg) l) (hk:0≤k) (hb:k+((lv (.sl tSg) l:Nat):Int)≤4611686018427387904):l_markSegmentS l k=some (k+((lv (.sl tSg) l:Nat):Int),mkT (.sl tSg) l k):=by
 have hc:=cntAll_sum (lv tSg) l
 have hc:k+((cntAll (lv tSg) l:Nat):Int)=k+((lv (.sl tSg) l:Nat):Int):=by rw [hc];rfl
 unfold l_markSegmentS
 rw [mark0 (cE:=lv tSg) (mE:=mkT tSg) (SmB 4611686018427387904 tSg) (fun k i L x hx hi hN hk hb hp=>by
   have hd:decide ((i:Int)<(L.length:Int))=true:=by simpa using hi
   have hd0:decide ((0:Int)≤(i:Int))=true:=by simp
   have hw:IntKind.i64.wrap ((i:Int)+1)=((i+1:Nat):Int):=by rw [wri (by omega) (by omega)];omega
   have hl:k+((lv tSg x:Nat):Int)=k+1+1+((lv (.sl tHop) x.2.2:Nat):Int):=by simp only [lv]<;>omega
   rw [hl] at hb
   rw [hl]
   have hE:mkT tSg x k=(k,k+1,mkT (.sl tHop) x.2.2 (k+1+1)):=by first | rfl | (simp [mkT,lv];try omega)
   have f0:IntKind.i64.wrap (k+1)=k+1:=wri (by omega) (by omega)
   have f1:IntKind.i64.wrap (k+1+1)=k+1+1:=wri (by omega) (by omega)
   have f2:=mark_HopS (l:=x.2.2) (k:=k+1+1) hp.2.2 (by omega) (by omega)
   rw [hE]
   simp only [hd,hd0,hw,cond_true,Int.toNat_natCast,hx,obind_some,List.length_set,List.getElem?_set_self hi,List.set_set,f0,f1,f2]) (fun k L=>by simp) h.1 h.2 hk (by rw [hc];exact hb),hc]
 rfl

theorem mark_SegmentDatabase {x:den tDb} {k:Int} (h:SmB 4611686018427387904 tDb x) (hk:0≤k) (hb:k+((lv (.sl tSg) x.1:Nat):Int)+((lv (.sl tSg) x.2:Nat):Int)≤4611686018427387904):l_markSegmentDatabase x k=some (k+((lv (.sl tSg) x.1:Nat):Int)+((lv (.sl tSg) x.2:Nat):Int),mkT (.sl tSg) x.1 (k),mkT (.sl tSg) x.2 (k+((lv (.sl tSg) x.1:Nat):Int))):=by
 have q0:=mark_SegmentS (l:=x.1) (k:=k) h.1 (by omega) (by omega)
 have q1:=mark_SegmentS (l:=x.2) (k:=k+((lv (.sl tSg) x.1:Nat):Int)) h.2 (by omega) (by omega)
 unfold l_markSegmentDatabase
 simp only [q0,q1,obind_some,peta]

theorem mark_ReservationS {l:den (.sl tRs)} {k:Int} (h:SmB 4611686018427387904 (.sl tRs) l) (hk:0≤k) (hb:k+((lv (.sl tRs) l:Nat):Int)≤4611686018427387904):l_markReservationS l k=some (k+((lv (.sl tRs) l:Nat):Int),mkT (.sl tRs) l k):=by
 have hc:=cntAll_sum (lv tRs) l
 have hc:k+((cntAll (lv tRs) l:Nat):Int)=k+((lv (.sl tRs) l:Nat):Int):=by rw [hc];rfl
 unfold l_markReservationS
 rw [mark0 (cE:=lv tRs) (mE:=mkT tRs) (SmB 4611686018427387904 tRs) (fun k i L x hx hi hN hk hb hp=>by
   have hd:decide ((i:Int)<(L.length:Int))=true:=by simpa using hi
   have hd0:decide ((0:Int)≤(i:Int))=true:=by simp
   have hw:IntKind.i64.wrap ((i:Int)+1)=((i+1:Nat):Int):=by rw [wri (by omega) (by omega)];omega
   have hl:k+((lv tRs x:Nat):Int)=k+1+1+1+1+1:=by simp only [lv]<;>omega
   rw [hl] at hb
   rw [hl]
   have hE:mkT tRs x k=(k,k+1,k+1+1,k+1+1+1,k+1+1+1+1):=by first | rfl | (simp [mkT,lv];try omega)
   have f0:IntKind.i64.wrap (k+1)=k+1:=wri (by omega) (by omega)
   have f1:IntKind.i64.wrap (k+1+1)=k+1+1:=wri (by omega) (by omega)
   have f2:IntKind.i64.wrap (k+1+1+1)=k+1+1+1:=wri (by omega) (by omega)
   have f3:IntKind.i64.wrap (k+1+1+1+1)=k+1+1+1+1:=wri (by omega) (by omega)
   have f4:IntKind.i64.wrap (k+1+1+1+1+1)=k+1+1+1+1+1:=wri (by omega) (by omega)
   rw [hE]
   simp only [hd,hd0,hw,cond_true,Int.toNat_natCast,hx,obind_some,List.length_set,List.getElem?_set_self hi,List.set_set,f0,f1,f2,f3,f4]) (fun k L=>by simp) h.1 h.2 hk (by rw [hc];exact hb),hc]
 rfl

theorem mark_UsageS {l:den (.sl tUs)} {k:Int} (h:SmB 4611686018427387904 (.sl tUs) l) (hk:0≤k) (hb:k+((lv (.sl tUs) l:Nat):Int)≤4611686018427387904):l_markUsageS l k=some (k+((lv (.sl tUs) l:Nat):Int),mkT (.sl tUs) l k):=by
 have hc:=cntAll_sum (lv tUs) l
 have hc:k+((cntAll (lv tUs) l:Nat):Int)=k+((lv (.sl tUs) l:Nat):Int):=by rw [hc];rfl
 unfold l_markUsageS
 rw [mark0 (cE:=lv tUs) (mE:=mkT tUs) (SmB 4611686018427387904 tUs) (fun k i L x hx hi hN hk hb hp=>by
   have hd:decide ((i:Int)<(L.length:Int))=true:=by simpa using hi
   have hd0:decide ((0:Int)≤(i:Int))=true:=by simp
   have hw:IntKind.i64.wrap ((i:Int)+1)=((i+1:Nat):Int):=by rw [wri (by omega) (by omega)];omega
   have hl:k+((lv tUs x:Nat):Int)=k+1+1+1+1:=by simp only [lv]<;>omega
   rw [hl] at hb
   rw [hl]
   have hE:mkT tUs x k=(k,k+1,k+1+1,k+1+1+1):=by first | rfl | (simp [mkT,lv];try omega)
   have f0:IntKind.i64.wrap (k+1)=k+1:=wri (by omega) (by omega)
   have f1:IntKind.i64.wrap (k+1+1)=k+1+1:=wri (by omega) (by omega)
   have f2:IntKind.i64.wrap (k+1+1+1)=k+1+1+1:=wri (by omega) (by omega)
   have f3:IntKind.i64.wrap (k+1+1+1+1)=k+1+1+1+1:=wri (by omega) (by omega)
   rw [hE]
   simp only [hd,hd0,hw,cond_true,Int.toNat_natCast,hx,obind_some,List.length_set,List.getElem?_set_self hi,List.set_set,f0,f1,f2,f3]) (fun k L=>by simp) h.1 h.2 hk (by rw [hc];exact hb),hc]
 rfl

theorem mark_Scheduler {x:den tSc} {k:Int} (h:SmB 4611686018427387904 tSc x) (hk:0≤k) (hb:k+((lv (.sl tRs) x.2.1:Nat):Int)+((lv (.sl tUs) x.2.2:Nat):Int)≤4611686018427387904):l_markScheduler x k=some (k+((lv (.sl tRs) x.2.1:Nat):Int)+((lv (.sl tUs) x.2.2:Nat):Int),mkT (.sl tRs) x.2.1 (k),mkT (.sl tUs) x.2.2 (k+((lv (.sl tRs) x.2.1:Nat):Int))):=by
 have q0:=mark_ReservationS (l:=x.2.1) (k:=k) h.2.1 (by omega) (by omega)
 have q1:=mark_UsageS (l:=x.2.2) (k:=k+((lv (.sl tRs) x.2.1:Nat):Int)) h.2.2 (by omega) (by omega)
 unfold l_markScheduler
 simp only [q0,q1,obind_some,peta]

theorem mark_IntS {l:den (.sl ti)} {k:Int} (h:SmB 4611686018427387904 (.sl ti) l) (hk:0≤k) (hb:k+((lv (.sl ti) l:Nat):Int)≤4611686018427387904):l_markIntS l k=some (k+((lv (.sl ti) l:Nat):Int),mkT (.sl ti) l k):=by
 have hc:=cntAll_sum (lv ti) l
 have hc:k+((cntAll (lv ti) l:Nat):Int)=k+((lv (.sl ti) l:Nat):Int):=by rw [hc];rfl
 unfold l_markIntS
 rw [mark0 (cE:=lv ti) (mE:=mkT ti) (SmB 4611686018427387904 ti) (fun k i L x hx hi hN hk hb hp=>by
   have hd:decide ((i:Int)<(L.length:Int))=true:=by simpa using hi
   have hd0:decide ((0:Int)≤(i:Int))=true:=by simp
   have hw:IntKind.i64.wrap ((i:Int)+1)=((i+1:Nat):Int):=by rw [wri (by omega) (by omega)];omega
   have hl:k+((lv ti x:Nat):Int)=k+1:=by simp only [lv]<;>omega
   rw [hl] at hb
   rw [hl]
   have hE:mkT ti x k=k:=by first | rfl | (simp [mkT,lv];try omega)
   have f0:IntKind.i64.wrap (k+1)=k+1:=wri (by omega) (by omega)
   rw [hE]
   simp only [hd,hd0,hw,cond_true,Int.toNat_natCast,hx,obind_some,List.length_set,List.getElem?_set_self hi,List.set_set,f0]) (fun k L=>by simp) h.1 h.2 hk (by rw [hc];exact hb),hc]
 rfl

theorem mark_PathPartS {l:den (.sl tPp)} {k:Int} (h:SmB 4611686018427387904 (.sl tPp) l) (hk:0≤k) (hb:k+((lv (.sl tPp) l:Nat):Int)≤4611686018427387904):l_markPathPartS l k=some (k+((lv (.sl tPp) l:Nat):Int),mkT (.sl tPp) l k):=by
 have hc:=cntAll_sum (lv tPp) l
 have hc:k+((cntAll (lv tPp) l:Nat):Int)=k+((lv (.sl tPp) l:Nat):Int):=by rw [hc];rfl
 unfold l_markPathPartS
 rw [mark0 (cE:=lv tPp) (mE:=mkT tPp) (SmB 4611686018427387904 tPp) (fun k i L x hx hi hN hk hb hp=>by
   have hd:decide ((i:Int)<(L.length:Int))=true:=by simpa using hi
   have hd0:decide ((0:Int)≤(i:Int))=true:=by simp
   have hw:IntKind.i64.wrap ((i:Int)+1)=((i+1:Nat):Int):=by rw [wri (by omega) (by omega)];omega
   have hl:k+((lv tPp x:Nat):Int)=k+1+1+1+((lv (.sl tHop) x.2.2.2:Nat):Int):=by simp only [lv]<;>omega
   rw [hl] at hb
   rw [hl]
   have hE:mkT tPp x k=(k,k+1,k+1+1,mkT (.sl tHop) x.2.2.2 (k+1+1+1)):=by first | rfl | (simp [mkT,lv];try omega)
   have f0:IntKind.i64.wrap (k+1)=k+1:=wri (by omega) (by omega)
   have f1:IntKind.i64.wrap (k+1+1)=k+1+1:=wri (by omega) (by omega)
   have f2:IntKind.i64.wrap (k+1+1+1)=k+1+1+1:=wri (by omega) (by omega)
   have f3:=mark_HopS (l:=x.2.2.2) (k:=k+1+1+1) hp.2.2.2 (by omega) (by omega)
   rw [hE]
   simp only [hd,hd0,hw,cond_true,Int.toNat_natCast,hx,obind_some,List.length_set,List.getElem?_set_self hi,List.set_set,f0,f1,f2,f3]) (fun k L=>by simp) h.1 h.2 hk (by rw [hc];exact hb),hc]
 rfl

theorem mark_ByteS {l:den (.sl tb)} {k:Int} (h:SmB 4611686018427387904 (.sl tb) l) (hk:0≤k) (hb:k+((lv (.sl tb) l:Nat):Int)≤4611686018427387904):l_markByteS l k=some (k+((lv (.sl tb) l:Nat):Int),mkT (.sl tb) l k):=by
 have hc:=cntAll_sum (lv tb) l
 have hc:k+((cntAll (lv tb) l:Nat):Int)=k+((lv (.sl tb) l:Nat):Int):=by rw [hc];rfl
 unfold l_markByteS
 rw [mark0 (cE:=lv tb) (mE:=mkT tb) (SmB 4611686018427387904 tb) (fun k i L x hx hi hN hk hb hp=>by
   have hd:decide ((i:Int)<(L.length:Int))=true:=by simpa using hi
   have hd0:decide ((0:Int)≤(i:Int))=true:=by simp
   have hw:IntKind.i64.wrap ((i:Int)+1)=((i+1:Nat):Int):=by rw [wri (by omega) (by omega)];omega
   have hl:k+((lv tb x:Nat):Int)=k+1:=by simp only [lv]<;>omega
   rw [hl] at hb
   rw [hl]
   have hE:mkT tb x k=IntKind.u8.wrap (k):=by first | rfl | (simp [mkT,lv];try omega)
   have f0:IntKind.i64.wrap (k+1)=k+1:=wri (by omega) (by omega)
   rw [hE]
   simp only [hd,hd0,hw,cond_true,Int.toNat_natCast,hx,obind_some,List.length_set,List.getElem?_set_self hi,List.set_set,f0]) (fun k L=>by simp) h.1 h.2 hk (by rw [hc];exact hb),hc]
 rfl

theorem mark_PacketInFlightS {l:den (.sl tFy)} {k:Int} (h:SmB 4611686018427387904 (.sl tFy) l) (hk:0≤k) (hb:k+((lv (.sl tFy) l:Nat):Int)≤4611686018427387904):l_markPacketInFlightS l k=some (k+((lv (.sl tFy) l:Nat):Int),mkT (.sl tFy) l k):=by
 have hc:=cntAll_sum (lv tFy) l
 have hc:k+((cntAll (lv tFy) l:Nat):Int)=k+((lv (.sl tFy) l:Nat):Int):=by rw [hc];rfl
 unfold l_markPacketInFlightS
 rw [mark0 (cE:=lv tFy) (mE:=mkT tFy) (SmB 4611686018427387904 tFy) (fun k i L x hx hi hN hk hb hp=>by
   have hd:decide ((i:Int)<(L.length:Int))=true:=by simpa using hi
   have hd0:decide ((0:Int)≤(i:Int))=true:=by simp
   have hw:IntKind.i64.wrap ((i:Int)+1)=((i+1:Nat):Int):=by rw [wri (by omega) (by omega)];omega
   have hl:k+((lv tFy x:Nat):Int)=k+1+1+1+1+1+((lv (.sl tPp) x.2.2.2.2.2.1:Nat):Int)+1+1+1+1+1+((lv (.sl tb) x.2.2.2.2.2.2.2.2.2.2.2:Nat):Int):=by simp only [lv]<;>omega
   rw [hl] at hb
   rw [hl]
   have hE:mkT tFy x k=(k,k+1,(k+1+1,k+1+1+1,k+1+1+1+1,mkT (.sl tPp) x.2.2.2.2.2.1 (k+1+1+1+1+1),k+1+1+1+1+1+((lv (.sl tPp) x.2.2.2.2.2.1:Nat):Int),k+1+1+1+1+1+((lv (.sl tPp) x.2.2.2.2.2.1:Nat):Int)+1,k+1+1+1+1+1+((lv (.sl tPp) x.2.2.2.2.2.1:Nat):Int)+1+1,k+1+1+1+1+1+((lv (.sl tPp) x.2.2.2.2.2.1:Nat):Int)+1+1+1,k+1+1+1+1+1+((lv (.sl tPp) x.2.2.2.2.2.1:Nat):Int)+1+1+1+1,mkT (.sl tb) x.2.2.2.2.2.2.2.2.2.2.2 (k+1+1+1+1+1+((lv (.sl tPp) x.2.2.2.2.2.1:Nat):Int)+1+1+1+1+1))):=by first | rfl | (simp [mkT,lv];try omega)
   have f0:IntKind.i64.wrap (k+1)=k+1:=wri (by omega) (by omega)
   have f1:IntKind.i64.wrap (k+1+1)=k+1+1:=wri (by omega) (by omega)
   have f2:IntKind.i64.wrap (k+1+1+1)=k+1+1+1:=wri (by omega) (by omega)
   have f3:IntKind.i64.wrap (k+1+1+1+1)=k+1+1+1+1:=wri (by omega) (by omega)
   have f4:IntKind.i64.wrap (k+1+1+1+1+1)=k+1+1+1+1+1:=wri (by omega) (by omega)
   have f5:=mark_PathPartS (l:=x.2.2.2.2.2.1) (k:=k+1+1+1+1+1) hp.2.2.2.2.2.1 (by omega) (by omega)
   have f6:IntKind.i64.wrap (k+1+1+1+1+1+((lv (.sl tPp) x.2.2.2.2.2.1:Nat):Int)+1)=k+1+1+1+1+1+((lv (.sl tPp) x.2.2.2.2.2.1:Nat):Int)+1:=wri (by omega) (by omega)
   have f7:IntKind.i64.wrap (k+1+1+1+1+1+((lv (.sl tPp) x.2.2.2.2.2.1:Nat):Int)+1+1)=k+1+1+1+1+1+((lv (.sl tPp) x.2.2.2.2.2.1:Nat):Int)+1+1:=wri (by omega) (by omega)
   have f8:IntKind.i64.wrap (k+1+1+1+1+1+((lv (.sl tPp) x.2.2.2.2.2.1:Nat):Int)+1+1+1)=k+1+1+1+1+1+((lv (.sl tPp) x.2.2.2.2.2.1:Nat):Int)+1+1+1:=wri (by omega) (by omega)
   have f9:IntKind.i64.wrap (k+1+1+1+1+1+((lv (.sl tPp) x.2.2.2.2.2.1:Nat):Int)+1+1+1+1)=k+1+1+1+1+1+((lv (.sl tPp) x.2.2.2.2.2.1:Nat):Int)+1+1+1+1:=wri (by omega) (by omega)
   have f10:IntKind.i64.wrap (k+1+1+1+1+1+((lv (.sl tPp) x.2.2.2.2.2.1:Nat):Int)+1+1+1+1+1)=k+1+1+1+1+1+((lv (.sl tPp) x.2.2.2.2.2.1:Nat):Int)+1+1+1+1+1:=wri (by omega) (by omega)
   have f11:=mark_ByteS (l:=x.2.2.2.2.2.2.2.2.2.2.2) (k:=k+1+1+1+1+1+((lv (.sl tPp) x.2.2.2.2.2.1:Nat):Int)+1+1+1+1+1) hp.2.2.2.2.2.2.2.2.2.2.2 (by omega) (by omega)
   rw [hE]
   simp only [hd,hd0,hw,cond_true,Int.toNat_natCast,hx,obind_some,List.length_set,List.getElem?_set_self hi,List.set_set,f0,f1,f2,f3,f4,f5,f6,f7,f8,f9,f10,f11]) (fun k L=>by simp) h.1 h.2 hk (by rw [hc];exact hb),hc]
 rfl

theorem mark_MessageS {l:den (.sl tMs)} {k:Int} (h:SmB 4611686018427387904 (.sl tMs) l) (hk:0≤k) (hb:k+((lv (.sl tMs) l:Nat):Int)≤4611686018427387904):l_markMessageS l k=some (k+((lv (.sl tMs) l:Nat):Int),mkT (.sl tMs) l k):=by
 have hc:=cntAll_sum (lv tMs) l
 have hc:k+((cntAll (lv tMs) l:Nat):Int)=k+((lv (.sl tMs) l:Nat):Int):=by rw [hc];rfl
 unfold l_markMessageS
 rw [mark0 (cE:=lv tMs) (mE:=mkT tMs) (SmB 4611686018427387904 tMs) (fun k i L x hx hi hN hk hb hp=>by
   have hd:decide ((i:Int)<(L.length:Int))=true:=by simpa using hi
   have hd0:decide ((0:Int)≤(i:Int))=true:=by simp
   have hw:IntKind.i64.wrap ((i:Int)+1)=((i+1:Nat):Int):=by rw [wri (by omega) (by omega)];omega
   have hl:k+((lv tMs x:Nat):Int)=k+((lv (.sl tb) x:Nat):Int):=by simp only [lv]<;>omega
   rw [hl] at hb
   rw [hl]
   have hE:mkT tMs x k=mkT (.sl tb) x (k):=by first | rfl | (simp [mkT,lv];try omega)
   have f0:=mark_ByteS (l:=x) (k:=k) hp (by omega) (by omega)
   rw [hE]
   simp only [hd,hd0,hw,cond_true,Int.toNat_natCast,hx,obind_some,List.length_set,List.getElem?_set_self hi,List.set_set,f0]) (fun k L=>by simp) h.1 h.2 hk (by rw [hc];exact hb),hc]
 rfl

theorem mark_PathS {l:den (.sl tPt)} {k:Int} (h:SmB 4611686018427387904 (.sl tPt) l) (hk:0≤k) (hb:k+((lv (.sl tPt) l:Nat):Int)≤4611686018427387904):l_markPathS l k=some (k+((lv (.sl tPt) l:Nat):Int),mkT (.sl tPt) l k):=by
 have hc:=cntAll_sum (lv tPt) l
 have hc:k+((cntAll (lv tPt) l:Nat):Int)=k+((lv (.sl tPt) l:Nat):Int):=by rw [hc];rfl
 unfold l_markPathS
 rw [mark0 (cE:=lv tPt) (mE:=mkT tPt) (SmB 4611686018427387904 tPt) (fun k i L x hx hi hN hk hb hp=>by
   have hd:decide ((i:Int)<(L.length:Int))=true:=by simpa using hi
   have hd0:decide ((0:Int)≤(i:Int))=true:=by simp
   have hw:IntKind.i64.wrap ((i:Int)+1)=((i+1:Nat):Int):=by rw [wri (by omega) (by omega)];omega
   have hl:k+((lv tPt x:Nat):Int)=k+((lv (.sl tPp) x:Nat):Int):=by simp only [lv]<;>omega
   rw [hl] at hb
   rw [hl]
   have hE:mkT tPt x k=mkT (.sl tPp) x (k):=by first | rfl | (simp [mkT,lv];try omega)
   have f0:=mark_PathPartS (l:=x) (k:=k) hp (by omega) (by omega)
   rw [hE]
   simp only [hd,hd0,hw,cond_true,Int.toNat_natCast,hx,obind_some,List.length_set,List.getElem?_set_self hi,List.set_set,f0]) (fun k L=>by simp) h.1 h.2 hk (by rw [hc];exact hb),hc]
 rfl

theorem mark_RevocationS {l:den (.sl tRv)} {k:Int} (h:SmB 4611686018427387904 (.sl tRv) l) (hk:0≤k) (hb:k+((lv (.sl tRv) l:Nat):Int)≤4611686018427387904):l_markRevocationS l k=some (k+((lv (.sl tRv) l:Nat):Int),mkT (.sl tRv) l k):=by
 have hc:=cntAll_sum (lv tRv) l
 have hc:k+((cntAll (lv tRv) l:Nat):Int)=k+((lv (.sl tRv) l:Nat):Int):=by rw [hc];rfl
 unfold l_markRevocationS
 rw [mark0 (cE:=lv tRv) (mE:=mkT tRv) (SmB 4611686018427387904 tRv) (fun k i L x hx hi hN hk hb hp=>by
   have hd:decide ((i:Int)<(L.length:Int))=true:=by simpa using hi
   have hd0:decide ((0:Int)≤(i:Int))=true:=by simp
   have hw:IntKind.i64.wrap ((i:Int)+1)=((i+1:Nat):Int):=by rw [wri (by omega) (by omega)];omega
   have hl:k+((lv tRv x:Nat):Int)=k+1+1+1:=by simp only [lv]<;>omega
   rw [hl] at hb
   rw [hl]
   have hE:mkT tRv x k=(k,k+1,k+1+1):=by first | rfl | (simp [mkT,lv];try omega)
   have f0:IntKind.i64.wrap (k+1)=k+1:=wri (by omega) (by omega)
   have f1:IntKind.i64.wrap (k+1+1)=k+1+1:=wri (by omega) (by omega)
   have f2:IntKind.i64.wrap (k+1+1+1)=k+1+1+1:=wri (by omega) (by omega)
   rw [hE]
   simp only [hd,hd0,hw,cond_true,Int.toNat_natCast,hx,obind_some,List.length_set,List.getElem?_set_self hi,List.set_set,f0,f1,f2]) (fun k L=>by simp) h.1 h.2 hk (by rw [hc];exact hb),hc]
 rfl

theorem mark_FlowS {l:den (.sl tFl)} {k:Int} (h:SmB 4611686018427387904 (.sl tFl) l) (hk:0≤k) (hb:k+((lv (.sl tFl) l:Nat):Int)≤4611686018427387904):l_markFlowS l k=some (k+((lv (.sl tFl) l:Nat):Int),mkT (.sl tFl) l k):=by
 have hc:=cntAll_sum (lv tFl) l
 have hc:k+((cntAll (lv tFl) l:Nat):Int)=k+((lv (.sl tFl) l:Nat):Int):=by rw [hc];rfl
 unfold l_markFlowS
 rw [mark0 (cE:=lv tFl) (mE:=mkT tFl) (SmB 4611686018427387904 tFl) (fun k i L x hx hi hN hk hb hp=>by
   have hd:decide ((i:Int)<(L.length:Int))=true:=by simpa using hi
   have hd0:decide ((0:Int)≤(i:Int))=true:=by simp
   have hw:IntKind.i64.wrap ((i:Int)+1)=((i+1:Nat):Int):=by rw [wri (by omega) (by omega)];omega
   have hl:k+((lv tFl x:Nat):Int)=k+1+1+1+1+((lv (.sl tMs) x.2.2.2.2.1:Nat):Int)+((lv (.sl tPt) x.2.2.2.2.2.1:Nat):Int)+1+1+((lv (.sl tRv) x.2.2.2.2.2.2.2.2:Nat):Int):=by simp only [lv]<;>omega
   rw [hl] at hb
   rw [hl]
   have hE:mkT tFl x k=(k,k+1,k+1+1,k+1+1+1,mkT (.sl tMs) x.2.2.2.2.1 (k+1+1+1+1),mkT (.sl tPt) x.2.2.2.2.2.1 (k+1+1+1+1+((lv (.sl tMs) x.2.2.2.2.1:Nat):Int)),k+1+1+1+1+((lv (.sl tMs) x.2.2.2.2.1:Nat):Int)+((lv (.sl tPt) x.2.2.2.2.2.1:Nat):Int),k+1+1+1+1+((lv (.sl tMs) x.2.2.2.2.1:Nat):Int)+((lv (.sl tPt) x.2.2.2.2.2.1:Nat):Int)+1,mkT (.sl tRv) x.2.2.2.2.2.2.2.2 (k+1+1+1+1+((lv (.sl tMs) x.2.2.2.2.1:Nat):Int)+((lv (.sl tPt) x.2.2.2.2.2.1:Nat):Int)+1+1)):=by first | rfl | (simp [mkT,lv];try omega)
   have f0:IntKind.i64.wrap (k+1)=k+1:=wri (by omega) (by omega)
   have f1:IntKind.i64.wrap (k+1+1)=k+1+1:=wri (by omega) (by omega)
   have f2:IntKind.i64.wrap (k+1+1+1)=k+1+1+1:=wri (by omega) (by omega)
   have f3:IntKind.i64.wrap (k+1+1+1+1)=k+1+1+1+1:=wri (by omega) (by omega)
   have f4:=mark_MessageS (l:=x.2.2.2.2.1) (k:=k+1+1+1+1) hp.2.2.2.2.1 (by omega) (by omega)
   have f5:=mark_PathS (l:=x.2.2.2.2.2.1) (k:=k+1+1+1+1+((lv (.sl tMs) x.2.2.2.2.1:Nat):Int)) hp.2.2.2.2.2.1 (by omega) (by omega)
   have f6:IntKind.i64.wrap (k+1+1+1+1+((lv (.sl tMs) x.2.2.2.2.1:Nat):Int)+((lv (.sl tPt) x.2.2.2.2.2.1:Nat):Int)+1)=k+1+1+1+1+((lv (.sl tMs) x.2.2.2.2.1:Nat):Int)+((lv (.sl tPt) x.2.2.2.2.2.1:Nat):Int)+1:=wri (by omega) (by omega)
   have f7:IntKind.i64.wrap (k+1+1+1+1+((lv (.sl tMs) x.2.2.2.2.1:Nat):Int)+((lv (.sl tPt) x.2.2.2.2.2.1:Nat):Int)+1+1)=k+1+1+1+1+((lv (.sl tMs) x.2.2.2.2.1:Nat):Int)+((lv (.sl tPt) x.2.2.2.2.2.1:Nat):Int)+1+1:=wri (by omega) (by omega)
   have f8:=mark_RevocationS (l:=x.2.2.2.2.2.2.2.2) (k:=k+1+1+1+1+((lv (.sl tMs) x.2.2.2.2.1:Nat):Int)+((lv (.sl tPt) x.2.2.2.2.2.1:Nat):Int)+1+1) hp.2.2.2.2.2.2.2.2 (by omega) (by omega)
   rw [hE]
   simp only [hd,hd0,hw,cond_true,Int.toNat_natCast,hx,obind_some,List.length_set,List.getElem?_set_self hi,List.set_set,f0,f1,f2,f3,f4,f5,f6,f7,f8]) (fun k L=>by simp) h.1 h.2 hk (by rw [hc];exact hb),hc]
 rfl

theorem mark_InboxS {l:den (.sl tIb)} {k:Int} (h:SmB 4611686018427387904 (.sl tIb) l) (hk:0≤k) (hb:k+((lv (.sl tIb) l:Nat):Int)≤4611686018427387904):l_markInboxS l k=some (k+((lv (.sl tIb) l:Nat):Int),mkT (.sl tIb) l k):=by
 have hc:=cntAll_sum (lv tIb) l
 have hc:k+((cntAll (lv tIb) l:Nat):Int)=k+((lv (.sl tIb) l:Nat):Int):=by rw [hc];rfl
 unfold l_markInboxS
 rw [mark0 (cE:=lv tIb) (mE:=mkT tIb) (SmB 4611686018427387904 tIb) (fun k i L x hx hi hN hk hb hp=>by
   have hd:decide ((i:Int)<(L.length:Int))=true:=by simpa using hi
   have hd0:decide ((0:Int)≤(i:Int))=true:=by simp
   have hw:IntKind.i64.wrap ((i:Int)+1)=((i+1:Nat):Int):=by rw [wri (by omega) (by omega)];omega
   have hl:k+((lv tIb x:Nat):Int)=k+1+1+1+((lv (.sl tMs) x.2.2.2:Nat):Int):=by simp only [lv]<;>omega
   rw [hl] at hb
   rw [hl]
   have hE:mkT tIb x k=(k,k+1,k+1+1,mkT (.sl tMs) x.2.2.2 (k+1+1+1)):=by first | rfl | (simp [mkT,lv];try omega)
   have f0:IntKind.i64.wrap (k+1)=k+1:=wri (by omega) (by omega)
   have f1:IntKind.i64.wrap (k+1+1)=k+1+1:=wri (by omega) (by omega)
   have f2:IntKind.i64.wrap (k+1+1+1)=k+1+1+1:=wri (by omega) (by omega)
   have f3:=mark_MessageS (l:=x.2.2.2) (k:=k+1+1+1) hp.2.2.2 (by omega) (by omega)
   rw [hE]
   simp only [hd,hd0,hw,cond_true,Int.toNat_natCast,hx,obind_some,List.length_set,List.getElem?_set_self hi,List.set_set,f0,f1,f2,f3]) (fun k L=>by simp) h.1 h.2 hk (by rw [hc];exact hb),hc]
 rfl

theorem mark_Network {x:den tNw} {k:Int} (h:SmB 4611686018427387904 tNw x) (hk:0≤k) (hb:k+((lv (.sl tAS) x.1.1:Nat):Int)+((lv (.sl tLk) x.1.2:Nat):Int)+((lv (.sl tSg) x.2.1.1:Nat):Int)+((lv (.sl tSg) x.2.1.2:Nat):Int)+((lv (.sl tRs) x.2.2.1.2.1:Nat):Int)+((lv (.sl tUs) x.2.2.1.2.2:Nat):Int)+((lv (.sl ti) x.2.2.2.2.1:Nat):Int)+((lv (.sl tFy) x.2.2.2.2.2.1:Nat):Int)+((lv (.sl tFl) x.2.2.2.2.2.2.1:Nat):Int)+((lv (.sl tIb) x.2.2.2.2.2.2.2.1:Nat):Int)≤4611686018427387904):l_markNetwork x k=some (k+((lv (.sl tAS) x.1.1:Nat):Int)+((lv (.sl tLk) x.1.2:Nat):Int)+((lv (.sl tSg) x.2.1.1:Nat):Int)+((lv (.sl tSg) x.2.1.2:Nat):Int)+((lv (.sl tRs) x.2.2.1.2.1:Nat):Int)+((lv (.sl tUs) x.2.2.1.2.2:Nat):Int)+((lv (.sl ti) x.2.2.2.2.1:Nat):Int)+((lv (.sl tFy) x.2.2.2.2.2.1:Nat):Int)+((lv (.sl tFl) x.2.2.2.2.2.2.1:Nat):Int)+((lv (.sl tIb) x.2.2.2.2.2.2.2.1:Nat):Int),mkT (.sl tAS) x.1.1 (k),mkT (.sl tLk) x.1.2 (k+((lv (.sl tAS) x.1.1:Nat):Int)),mkT (.sl tSg) x.2.1.1 (k+((lv (.sl tAS) x.1.1:Nat):Int)+((lv (.sl tLk) x.1.2:Nat):Int)),mkT (.sl tSg) x.2.1.2 (k+((lv (.sl tAS) x.1.1:Nat):Int)+((lv (.sl tLk) x.1.2:Nat):Int)+((lv (.sl tSg) x.2.1.1:Nat):Int)),mkT (.sl tRs) x.2.2.1.2.1 (k+((lv (.sl tAS) x.1.1:Nat):Int)+((lv (.sl tLk) x.1.2:Nat):Int)+((lv (.sl tSg) x.2.1.1:Nat):Int)+((lv (.sl tSg) x.2.1.2:Nat):Int)),mkT (.sl tUs) x.2.2.1.2.2 (k+((lv (.sl tAS) x.1.1:Nat):Int)+((lv (.sl tLk) x.1.2:Nat):Int)+((lv (.sl tSg) x.2.1.1:Nat):Int)+((lv (.sl tSg) x.2.1.2:Nat):Int)+((lv (.sl tRs) x.2.2.1.2.1:Nat):Int)),mkT (.sl ti) x.2.2.2.2.1 (k+((lv (.sl tAS) x.1.1:Nat):Int)+((lv (.sl tLk) x.1.2:Nat):Int)+((lv (.sl tSg) x.2.1.1:Nat):Int)+((lv (.sl tSg) x.2.1.2:Nat):Int)+((lv (.sl tRs) x.2.2.1.2.1:Nat):Int)+((lv (.sl tUs) x.2.2.1.2.2:Nat):Int)),mkT (.sl tFy) x.2.2.2.2.2.1 (k+((lv (.sl tAS) x.1.1:Nat):Int)+((lv (.sl tLk) x.1.2:Nat):Int)+((lv (.sl tSg) x.2.1.1:Nat):Int)+((lv (.sl tSg) x.2.1.2:Nat):Int)+((lv (.sl tRs) x.2.2.1.2.1:Nat):Int)+((lv (.sl tUs) x.2.2.1.2.2:Nat):Int)+((lv (.sl ti) x.2.2.2.2.1:Nat):Int)),mkT (.sl tFl) x.2.2.2.2.2.2.1 (k+((lv (.sl tAS) x.1.1:Nat):Int)+((lv (.sl tLk) x.1.2:Nat):Int)+((lv (.sl tSg) x.2.1.1:Nat):Int)+((lv (.sl tSg) x.2.1.2:Nat):Int)+((lv (.sl tRs) x.2.2.1.2.1:Nat):Int)+((lv (.sl tUs) x.2.2.1.2.2:Nat):Int)+((lv (.sl ti) x.2.2.2.2.1:Nat):Int)+((lv (.sl tFy) x.2.2.2.2.2.1:Nat):Int)),mkT (.sl tIb) x.2.2.2.2.2.2.2.1 (k+((lv (.sl tAS) x.1.1:Nat):Int)+((lv (.sl tLk) x.1.2:Nat):Int)+((lv (.sl tSg) x.2.1.1:Nat):Int)+((lv (.sl tSg) x.2.1.2:Nat):Int)+((lv (.sl tRs) x.2.2.1.2.1:Nat):Int)+((lv (.sl tUs) x.2.2.1.2.2:Nat):Int)+((lv (.sl ti) x.2.2.2.2.1:Nat):Int)+((lv (.sl tFy) x.2.2.2.2.2.1:Nat):Int)+((lv (.sl tFl) x.2.2.2.2.2.2.1:Nat):Int))):=by
 have q0:=mark_Topology (x:=x.1) (k:=k) h.1 (by omega) (by omega)
 have q1:=mark_SegmentDatabase (x:=x.2.1) (k:=k+((lv (.sl tAS) x.1.1:Nat):Int)+((lv (.sl tLk) x.1.2:Nat):Int)) h.2.1 (by omega) (by omega)
 have q2:=mark_Scheduler (x:=x.2.2.1) (k:=k+((lv (.sl tAS) x.1.1:Nat):Int)+((lv (.sl tLk) x.1.2:Nat):Int)+((lv (.sl tSg) x.2.1.1:Nat):Int)+((lv (.sl tSg) x.2.1.2:Nat):Int)) h.2.2.1 (by omega) (by omega)
 have q3:=mark_IntS (l:=x.2.2.2.2.1) (k:=k+((lv (.sl tAS) x.1.1:Nat):Int)+((lv (.sl tLk) x.1.2:Nat):Int)+((lv (.sl tSg) x.2.1.1:Nat):Int)+((lv (.sl tSg) x.2.1.2:Nat):Int)+((lv (.sl tRs) x.2.2.1.2.1:Nat):Int)+((lv (.sl tUs) x.2.2.1.2.2:Nat):Int)) h.2.2.2.2.1 (by omega) (by omega)
 have q4:=mark_PacketInFlightS (l:=x.2.2.2.2.2.1) (k:=k+((lv (.sl tAS) x.1.1:Nat):Int)+((lv (.sl tLk) x.1.2:Nat):Int)+((lv (.sl tSg) x.2.1.1:Nat):Int)+((lv (.sl tSg) x.2.1.2:Nat):Int)+((lv (.sl tRs) x.2.2.1.2.1:Nat):Int)+((lv (.sl tUs) x.2.2.1.2.2:Nat):Int)+((lv (.sl ti) x.2.2.2.2.1:Nat):Int)) h.2.2.2.2.2.1 (by omega) (by omega)
 have q5:=mark_FlowS (l:=x.2.2.2.2.2.2.1) (k:=k+((lv (.sl tAS) x.1.1:Nat):Int)+((lv (.sl tLk) x.1.2:Nat):Int)+((lv (.sl tSg) x.2.1.1:Nat):Int)+((lv (.sl tSg) x.2.1.2:Nat):Int)+((lv (.sl tRs) x.2.2.1.2.1:Nat):Int)+((lv (.sl tUs) x.2.2.1.2.2:Nat):Int)+((lv (.sl ti) x.2.2.2.2.1:Nat):Int)+((lv (.sl tFy) x.2.2.2.2.2.1:Nat):Int)) h.2.2.2.2.2.2.1 (by omega) (by omega)
 have q6:=mark_InboxS (l:=x.2.2.2.2.2.2.2.1) (k:=k+((lv (.sl tAS) x.1.1:Nat):Int)+((lv (.sl tLk) x.1.2:Nat):Int)+((lv (.sl tSg) x.2.1.1:Nat):Int)+((lv (.sl tSg) x.2.1.2:Nat):Int)+((lv (.sl tRs) x.2.2.1.2.1:Nat):Int)+((lv (.sl tUs) x.2.2.1.2.2:Nat):Int)+((lv (.sl ti) x.2.2.2.2.1:Nat):Int)+((lv (.sl tFy) x.2.2.2.2.2.1:Nat):Int)+((lv (.sl tFl) x.2.2.2.2.2.2.1:Nat):Int)) h.2.2.2.2.2.2.2.1 (by omega) (by omega)
 unfold l_markNetwork
 simp only [q0,q1,q2,q3,q4,q5,q6,obind_some,peta]

theorem mark_Path {x:den tPt} {k:Int} (h:SmB 4611686018427387904 tPt x) (hk:0≤k) (hb:k+((lv (.sl tPp) x:Nat):Int)≤4611686018427387904):l_markPath x k=some (k+((lv (.sl tPp) x:Nat):Int),mkT (.sl tPp) x (k)):=by
 have q0:=mark_PathPartS (l:=x) (k:=k) h (by omega) (by omega)
 unfold l_markPath
 simp only [q0,obind_some,peta]

theorem mark_Packet {x:den tPk} {k:Int} (h:SmB 4611686018427387904 tPk x) (hk:0≤k) (hb:k+((lv (.sl tPp) x.2.2.2.1:Nat):Int)+((lv (.sl tb) x.2.2.2.2.2.2.2.2.2:Nat):Int)≤4611686018427387904):l_markPacket x k=some (k+((lv (.sl tPp) x.2.2.2.1:Nat):Int)+((lv (.sl tb) x.2.2.2.2.2.2.2.2.2:Nat):Int),mkT (.sl tPp) x.2.2.2.1 (k),mkT (.sl tb) x.2.2.2.2.2.2.2.2.2 (k+((lv (.sl tPp) x.2.2.2.1:Nat):Int))):=by
 have q0:=mark_Path (x:=x.2.2.2.1) (k:=k) h.2.2.2.1 (by omega) (by omega)
 have q1:=mark_ByteS (l:=x.2.2.2.2.2.2.2.2.2) (k:=k+((lv (.sl tPp) x.2.2.2.1:Nat):Int)) h.2.2.2.2.2.2.2.2.2 (by omega) (by omega)
 unfold l_markPacket
 simp only [q0,q1,obind_some,peta]

theorem held_ASS {l:den (.sl tAS)} {k:Int} (h:SmB 4611686018427387904 (.sl tAS) l) (hk:0≤k) (hb:k+((lv (.sl tAS) l:Nat):Int)≤4611686018427387904):l_heldASS (mkT (.sl tAS) l k) k=some (k+((lv (.sl tAS) l:Nat):Int)):=by
 have hc:=cntAll_sum (lv tAS) l
 have hc:k+((cntAll (lv tAS) l:Nat):Int)=k+((lv (.sl tAS) l:Nat):Int):=by rw [hc];rfl
 unfold l_heldASS
 have :=held0 (cE:=lv tAS) (mE:=mkT tAS) (SmB 4611686018427387904 tAS) (fun (a_a:List (den tAS))=>fun (s5:Int×Int)=>cond (decide (s5.2<(a_a.length:Int))) (Option.bind (idx a_a s5.2) fun x6=>cond (x6.1 != s5.1) (some (Sum.inr (Sum.inr (-1:Int)))) (Option.bind (idx a_a s5.2) fun x7=>cond (!(x7.2.1==((Int.tmod (wr (s5.1+(1:Int))) (3:Int))==(0:Int)))) (some (Sum.inr (Sum.inr (-1:Int)))) (Option.bind (idx a_a s5.2) fun x8=>cond (x8.2.2 != (wr ((wr (s5.1+(1:Int)))+(1:Int)))) (some (Sum.inr (Sum.inr (-1:Int)))) (some (Sum.inl (wr ((wr ((wr (s5.1+(1:Int)))+(1:Int)))+(1:Int)),wr (s5.2+(1:Int)))))))) (some (Sum.inr (Sum.inl s5.1)))) (l:=l) (k:=k) (fun k i L x hx hi hN hk hb hp=>by
   have hd:decide ((i:Int)<(L.length:Int))=true:=by simpa using hi
   have hd0:decide ((0:Int)≤(i:Int))=true:=by simp
   have hw:IntKind.i64.wrap ((i:Int)+1)=((i+1:Nat):Int):=by rw [wri (by omega) (by omega)];omega
   have hl:k+((lv tAS x:Nat):Int)=k+1+1+1:=by simp only [lv]<;>omega
   rw [hl] at hb
   rw [hl]
   have hE:mkT tAS x k=(k,Int.tmod (k+1) 3==0,k+1+1):=by first | rfl | (simp [mkT,lv];try omega)
   have f0:IntKind.i64.wrap (k+1)=k+1:=wri (by omega) (by omega)
   have f1:IntKind.i64.wrap (k+1+1)=k+1+1:=wri (by omega) (by omega)
   have f2:IntKind.i64.wrap (k+1+1+1)=k+1+1+1:=wri (by omega) (by omega)
   rw [hE] at hx
   have hi2:idx L (i:Int)=some (k,Int.tmod (k+1) 3==0,k+1+1):=by rw [idx_nat];exact hx
   simp only [hd,hw,hi2,cond_true,obind_some,bne_self_eq_false,beq_self_eq_true,Bool.not_true,cond_false,f0,f1,f2]) (fun k L=>by simp) h.1 h.2 hk (by rw [hc];exact hb)
 rw [hc] at this
 show Option.bind (loopM _ (k,(0:Int))) _=_
 rw [show (mkT (.sl tAS) l k)=markAll (lv tAS) (mkT tAS) l k from rfl,this]
 rfl

theorem held_LinkS {l:den (.sl tLk)} {k:Int} (h:SmB 4611686018427387904 (.sl tLk) l) (hk:0≤k) (hb:k+((lv (.sl tLk) l:Nat):Int)≤4611686018427387904):l_heldLinkS (mkT (.sl tLk) l k) k=some (k+((lv (.sl tLk) l:Nat):Int)):=by
 have hc:=cntAll_sum (lv tLk) l
 have hc:k+((cntAll (lv tLk) l:Nat):Int)=k+((lv (.sl tLk) l:Nat):Int):=by rw [hc];rfl
 unfold l_heldLinkS
 have :=held0 (cE:=lv tLk) (mE:=mkT tLk) (SmB 4611686018427387904 tLk) (fun (a_a:List (den tLk))=>fun (s7:Int×Int)=>cond (decide (s7.2<(a_a.length:Int))) (Option.bind (idx a_a s7.2) fun x8=>cond (x8.1 != s7.1) (some (Sum.inr (Sum.inr (-1:Int)))) (Option.bind (idx a_a s7.2) fun x9=>cond (x9.2.1 != (wr (s7.1+(1:Int)))) (some (Sum.inr (Sum.inr (-1:Int)))) (Option.bind (idx a_a s7.2) fun x10=>cond (x10.2.2.1 != (wr ((wr (s7.1+(1:Int)))+(1:Int)))) (some (Sum.inr (Sum.inr (-1:Int)))) (Option.bind (idx a_a s7.2) fun x11=>cond (x11.2.2.2.1 != (wr ((wr ((wr (s7.1+(1:Int)))+(1:Int)))+(1:Int)))) (some (Sum.inr (Sum.inr (-1:Int)))) (Option.bind (idx a_a s7.2) fun x12=>cond (x12.2.2.2.2 != (wr ((wr ((wr ((wr (s7.1+(1:Int)))+(1:Int)))+(1:Int)))+(1:Int)))) (some (Sum.inr (Sum.inr (-1:Int)))) (some (Sum.inl (wr ((wr ((wr ((wr ((wr (s7.1+(1:Int)))+(1:Int)))+(1:Int)))+(1:Int)))+(1:Int)),wr (s7.2+(1:Int)))))))))) (some (Sum.inr (Sum.inl s7.1)))) (l:=l) (k:=k) (fun k i L x hx hi hN hk hb hp=>by
   have hd:decide ((i:Int)<(L.length:Int))=true:=by simpa using hi
   have hd0:decide ((0:Int)≤(i:Int))=true:=by simp
   have hw:IntKind.i64.wrap ((i:Int)+1)=((i+1:Nat):Int):=by rw [wri (by omega) (by omega)];omega
   have hl:k+((lv tLk x:Nat):Int)=k+1+1+1+1+1:=by simp only [lv]<;>omega
   rw [hl] at hb
   rw [hl]
   have hE:mkT tLk x k=(k,k+1,k+1+1,k+1+1+1,k+1+1+1+1):=by first | rfl | (simp [mkT,lv];try omega)
   have f0:IntKind.i64.wrap (k+1)=k+1:=wri (by omega) (by omega)
   have f1:IntKind.i64.wrap (k+1+1)=k+1+1:=wri (by omega) (by omega)
   have f2:IntKind.i64.wrap (k+1+1+1)=k+1+1+1:=wri (by omega) (by omega)
   have f3:IntKind.i64.wrap (k+1+1+1+1)=k+1+1+1+1:=wri (by omega) (by omega)
   have f4:IntKind.i64.wrap (k+1+1+1+1+1)=k+1+1+1+1+1:=wri (by omega) (by omega)
   rw [hE] at hx
   have hi2:idx L (i:Int)=some (k,k+1,k+1+1,k+1+1+1,k+1+1+1+1):=by rw [idx_nat];exact hx
   simp only [hd,hw,hi2,cond_true,obind_some,bne_self_eq_false,beq_self_eq_true,Bool.not_true,cond_false,f0,f1,f2,f3,f4]) (fun k L=>by simp) h.1 h.2 hk (by rw [hc];exact hb)
 rw [hc] at this
 show Option.bind (loopM _ (k,(0:Int))) _=_
 rw [show (mkT (.sl tLk) l k)=markAll (lv tLk) (mkT tLk) l k from rfl,this]
 rfl

theorem held_Topology {x:den tTo} {k:Int} (h:SmB 4611686018427387904 tTo x) (hk:0≤k) (hb:k+((lv (.sl tAS) x.1:Nat):Int)+((lv (.sl tLk) x.2:Nat):Int)≤4611686018427387904):l_heldTopology (mkT (.sl tAS) x.1 (k),mkT (.sl tLk) x.2 (k+((lv (.sl tAS) x.1:Nat):Int))) k=some (k+((lv (.sl tAS) x.1:Nat):Int)+((lv (.sl tLk) x.2:Nat):Int)):=by
 have q0:=held_ASS (l:=x.1) (k:=k) h.1 (by omega) (by omega)
 have q1:=held_LinkS (l:=x.2) (k:=k+((lv (.sl tAS) x.1:Nat):Int)) h.2 (by omega) (by omega)
 have d0:decide (k+((lv (.sl tAS) x.1:Nat):Int)<0)=false:=by simp<;>omega
 have d1:decide (k+((lv (.sl tAS) x.1:Nat):Int)+((lv (.sl tLk) x.2:Nat):Int)<0)=false:=by simp<;>omega
 unfold l_heldTopology
 simp only [q0,q1,d0,d1,obind_some,peta,cond_false]

theorem held_HopS {l:den (.sl tHop)} {k:Int} (h:SmB 4611686018427387904 (.sl tHop) l) (hk:0≤k) (hb:k+((lv (.sl tHop) l:Nat):Int)≤4611686018427387904):l_heldHopS (mkT (.sl tHop) l k) k=some (k+((lv (.sl tHop) l:Nat):Int)):=by
 have hc:=cntAll_sum (lv tHop) l
 have hc:k+((cntAll (lv tHop) l:Nat):Int)=k+((lv (.sl tHop) l:Nat):Int):=by rw [hc];rfl
 unfold l_heldHopS
 have :=held0 (cE:=lv tHop) (mE:=mkT tHop) (SmB 4611686018427387904 tHop) (fun (a_a:List (den tHop))=>fun (s7:Int×Int)=>cond (decide (s7.2<(a_a.length:Int))) (Option.bind (idx a_a s7.2) fun x8=>cond (x8.1 != s7.1) (some (Sum.inr (Sum.inr (-1:Int)))) (Option.bind (idx a_a s7.2) fun x9=>cond (x9.2.1 != (wr (s7.1+(1:Int)))) (some (Sum.inr (Sum.inr (-1:Int)))) (Option.bind (idx a_a s7.2) fun x10=>cond (x10.2.2.1 != (wr ((wr (s7.1+(1:Int)))+(1:Int)))) (some (Sum.inr (Sum.inr (-1:Int)))) (Option.bind (idx a_a s7.2) fun x11=>cond (x11.2.2.2.1 != (wr ((wr ((wr (s7.1+(1:Int)))+(1:Int)))+(1:Int)))) (some (Sum.inr (Sum.inr (-1:Int)))) (Option.bind (idx a_a s7.2) fun x12=>cond (x12.2.2.2.2 != (wr ((wr ((wr ((wr (s7.1+(1:Int)))+(1:Int)))+(1:Int)))+(1:Int)))) (some (Sum.inr (Sum.inr (-1:Int)))) (some (Sum.inl (wr ((wr ((wr ((wr ((wr (s7.1+(1:Int)))+(1:Int)))+(1:Int)))+(1:Int)))+(1:Int)),wr (s7.2+(1:Int)))))))))) (some (Sum.inr (Sum.inl s7.1)))) (l:=l) (k:=k) (fun k i L x hx hi hN hk hb hp=>by
   have hd:decide ((i:Int)<(L.length:Int))=true:=by simpa using hi
   have hd0:decide ((0:Int)≤(i:Int))=true:=by simp
   have hw:IntKind.i64.wrap ((i:Int)+1)=((i+1:Nat):Int):=by rw [wri (by omega) (by omega)];omega
   have hl:k+((lv tHop x:Nat):Int)=k+1+1+1+1+1:=by simp only [lv]<;>omega
   rw [hl] at hb
   rw [hl]
   have hE:mkT tHop x k=(k,k+1,k+1+1,k+1+1+1,k+1+1+1+1):=by first | rfl | (simp [mkT,lv];try omega)
   have f0:IntKind.i64.wrap (k+1)=k+1:=wri (by omega) (by omega)
   have f1:IntKind.i64.wrap (k+1+1)=k+1+1:=wri (by omega) (by omega)
   have f2:IntKind.i64.wrap (k+1+1+1)=k+1+1+1:=wri (by omega) (by omega)
   have f3:IntKind.i64.wrap (k+1+1+1+1)=k+1+1+1+1:=wri (by omega) (by omega)
   have f4:IntKind.i64.wrap (k+1+1+1+1+1)=k+1+1+1+1+1:=wri (by omega) (by omega)
   rw [hE] at hx
   have hi2:idx L (i:Int)=some (k,k+1,k+1+1,k+1+1+1,k+1+1+1+1):=by rw [idx_nat];exact hx
   simp only [hd,hw,hi2,cond_true,obind_some,bne_self_eq_false,beq_self_eq_true,Bool.not_true,cond_false,f0,f1,f2,f3,f4]) (fun k L=>by simp) h.1 h.2 hk (by rw [hc];exact hb)
 rw [hc] at this
 show Option.bind (loopM _ (k,(0:Int))) _=_
 rw [show (mkT (.sl tHop) l k)=markAll (lv tHop) (mkT tHop) l k from rfl,this]
 rfl

theorem held_SegmentS {l:den (.sl tSg)} {k:Int} (h:SmB 4611686018427387904 (.sl tSg) l) (hk:0≤k) (hb:k+((lv (.sl tSg) l:Nat):Int)≤4611686018427387904):l_heldSegmentS (mkT (.sl tSg) l k) k=some (k+((lv (.sl tSg) l:Nat):Int)):=by
 have hc:=cntAll_sum (lv tSg) l
 have hc:k+((cntAll (lv tSg) l:Nat):Int)=k+((lv (.sl tSg) l:Nat):Int):=by rw [hc];rfl
 unfold l_heldSegmentS
 have :=held0 (cE:=lv tSg) (mE:=mkT tSg) (SmB 4611686018427387904 tSg) (fun (a_a:List (den tSg))=>fun (s6:Int×Int)=>cond (decide (s6.2<(a_a.length:Int))) (Option.bind (idx a_a s6.2) fun x7=>cond (x7.1 != s6.1) (some (Sum.inr (Sum.inr (-1:Int)))) (Option.bind (idx a_a s6.2) fun x8=>cond (x8.2.1 != (wr (s6.1+(1:Int)))) (some (Sum.inr (Sum.inr (-1:Int)))) (Option.bind (idx a_a s6.2) fun x9=>Option.bind (l_heldHopS x9.2.2 (wr ((wr (s6.1+(1:Int)))+(1:Int)))) fun y10=>cond (decide (y10<(0:Int))) (some (Sum.inr (Sum.inr (-1:Int)))) (some (Sum.inl (y10,wr (s6.2+(1:Int)))))))) (some (Sum.inr (Sum.inl s6.1)))) (l:=l) (k:=k) (fun k i L x hx hi hN hk hb hp=>by
   have hd:decide ((i:Int)<(L.length:Int))=true:=by simpa using hi
   have hd0:decide ((0:Int)≤(i:Int))=true:=by simp
   have hw:IntKind.i64.wrap ((i:Int)+1)=((i+1:Nat):Int):=by rw [wri (by omega) (by omega)];omega
   have hl:k+((lv tSg x:Nat):Int)=k+1+1+((lv (.sl tHop) x.2.2:Nat):Int):=by simp only [lv]<;>omega
   rw [hl] at hb
   rw [hl]
   have hE:mkT tSg x k=(k,k+1,mkT (.sl tHop) x.2.2 (k+1+1)):=by first | rfl | (simp [mkT,lv];try omega)
   have f0:IntKind.i64.wrap (k+1)=k+1:=wri (by omega) (by omega)
   have f1:IntKind.i64.wrap (k+1+1)=k+1+1:=wri (by omega) (by omega)
   have f2:=held_HopS (l:=x.2.2) (k:=k+1+1) hp.2.2 (by omega) (by omega)
   have g2:decide (k+1+1+((lv (.sl tHop) x.2.2:Nat):Int)<0)=false:=by simp<;>omega
   rw [hE] at hx
   have hi2:idx L (i:Int)=some (k,k+1,mkT (.sl tHop) x.2.2 (k+1+1)):=by rw [idx_nat];exact hx
   simp only [hd,hw,hi2,cond_true,obind_some,bne_self_eq_false,beq_self_eq_true,Bool.not_true,cond_false,f0,f1,f2,g2]) (fun k L=>by simp) h.1 h.2 hk (by rw [hc];exact hb)
 rw [hc] at this
 show Option.bind (loopM _ (k,(0:Int))) _=_
 rw [show (mkT (.sl tSg) l k)=markAll (lv tSg) (mkT tSg) l k from rfl,this]
 rfl

theorem held_SegmentDatabase {x:den tDb} {k:Int} (h:SmB 4611686018427387904 tDb x) (hk:0≤k) (hb:k+((lv (.sl tSg) x.1:Nat):Int)+((lv (.sl tSg) x.2:Nat):Int)≤4611686018427387904):l_heldSegmentDatabase (mkT (.sl tSg) x.1 (k),mkT (.sl tSg) x.2 (k+((lv (.sl tSg) x.1:Nat):Int))) k=some (k+((lv (.sl tSg) x.1:Nat):Int)+((lv (.sl tSg) x.2:Nat):Int)):=by
 have q0:=held_SegmentS (l:=x.1) (k:=k) h.1 (by omega) (by omega)
 have q1:=held_SegmentS (l:=x.2) (k:=k+((lv (.sl tSg) x.1:Nat):Int)) h.2 (by omega) (by omega)
 have d0:decide (k+((lv (.sl tSg) x.1:Nat):Int)<0)=false:=by simp<;>omega
 have d1:decide (k+((lv (.sl tSg) x.1:Nat):Int)+((lv (.sl tSg) x.2:Nat):Int)<0)=false:=by simp<;>omega
 unfold l_heldSegmentDatabase
 simp only [q0,q1,d0,d1,obind_some,peta,cond_false]

theorem held_ReservationS {l:den (.sl tRs)} {k:Int} (h:SmB 4611686018427387904 (.sl tRs) l) (hk:0≤k) (hb:k+((lv (.sl tRs) l:Nat):Int)≤4611686018427387904):l_heldReservationS (mkT (.sl tRs) l k) k=some (k+((lv (.sl tRs) l:Nat):Int)):=by
 have hc:=cntAll_sum (lv tRs) l
 have hc:k+((cntAll (lv tRs) l:Nat):Int)=k+((lv (.sl tRs) l:Nat):Int):=by rw [hc];rfl
 unfold l_heldReservationS
 have :=held0 (cE:=lv tRs) (mE:=mkT tRs) (SmB 4611686018427387904 tRs) (fun (a_a:List (den tRs))=>fun (s7:Int×Int)=>cond (decide (s7.2<(a_a.length:Int))) (Option.bind (idx a_a s7.2) fun x8=>cond (x8.1 != s7.1) (some (Sum.inr (Sum.inr (-1:Int)))) (Option.bind (idx a_a s7.2) fun x9=>cond (x9.2.1 != (wr (s7.1+(1:Int)))) (some (Sum.inr (Sum.inr (-1:Int)))) (Option.bind (idx a_a s7.2) fun x10=>cond (x10.2.2.1 != (wr ((wr (s7.1+(1:Int)))+(1:Int)))) (some (Sum.inr (Sum.inr (-1:Int)))) (Option.bind (idx a_a s7.2) fun x11=>cond (x11.2.2.2.1 != (wr ((wr ((wr (s7.1+(1:Int)))+(1:Int)))+(1:Int)))) (some (Sum.inr (Sum.inr (-1:Int)))) (Option.bind (idx a_a s7.2) fun x12=>cond (x12.2.2.2.2 != (wr ((wr ((wr ((wr (s7.1+(1:Int)))+(1:Int)))+(1:Int)))+(1:Int)))) (some (Sum.inr (Sum.inr (-1:Int)))) (some (Sum.inl (wr ((wr ((wr ((wr ((wr (s7.1+(1:Int)))+(1:Int)))+(1:Int)))+(1:Int)))+(1:Int)),wr (s7.2+(1:Int)))))))))) (some (Sum.inr (Sum.inl s7.1)))) (l:=l) (k:=k) (fun k i L x hx hi hN hk hb hp=>by
   have hd:decide ((i:Int)<(L.length:Int))=true:=by simpa using hi
   have hd0:decide ((0:Int)≤(i:Int))=true:=by simp
   have hw:IntKind.i64.wrap ((i:Int)+1)=((i+1:Nat):Int):=by rw [wri (by omega) (by omega)];omega
   have hl:k+((lv tRs x:Nat):Int)=k+1+1+1+1+1:=by simp only [lv]<;>omega
   rw [hl] at hb
   rw [hl]
   have hE:mkT tRs x k=(k,k+1,k+1+1,k+1+1+1,k+1+1+1+1):=by first | rfl | (simp [mkT,lv];try omega)
   have f0:IntKind.i64.wrap (k+1)=k+1:=wri (by omega) (by omega)
   have f1:IntKind.i64.wrap (k+1+1)=k+1+1:=wri (by omega) (by omega)
   have f2:IntKind.i64.wrap (k+1+1+1)=k+1+1+1:=wri (by omega) (by omega)
   have f3:IntKind.i64.wrap (k+1+1+1+1)=k+1+1+1+1:=wri (by omega) (by omega)
   have f4:IntKind.i64.wrap (k+1+1+1+1+1)=k+1+1+1+1+1:=wri (by omega) (by omega)
   rw [hE] at hx
   have hi2:idx L (i:Int)=some (k,k+1,k+1+1,k+1+1+1,k+1+1+1+1):=by rw [idx_nat];exact hx
   simp only [hd,hw,hi2,cond_true,obind_some,bne_self_eq_false,beq_self_eq_true,Bool.not_true,cond_false,f0,f1,f2,f3,f4]) (fun k L=>by simp) h.1 h.2 hk (by rw [hc];exact hb)
 rw [hc] at this
 show Option.bind (loopM _ (k,(0:Int))) _=_
 rw [show (mkT (.sl tRs) l k)=markAll (lv tRs) (mkT tRs) l k from rfl,this]
 rfl

theorem held_UsageS {l:den (.sl tUs)} {k:Int} (h:SmB 4611686018427387904 (.sl tUs) l) (hk:0≤k) (hb:k+((lv (.sl tUs) l:Nat):Int)≤4611686018427387904):l_heldUsageS (mkT (.sl tUs) l k) k=some (k+((lv (.sl tUs) l:Nat):Int)):=by
 have hc:=cntAll_sum (lv tUs) l
 have hc:k+((cntAll (lv tUs) l:Nat):Int)=k+((lv (.sl tUs) l:Nat):Int):=by rw [hc];rfl
 unfold l_heldUsageS
 have :=held0 (cE:=lv tUs) (mE:=mkT tUs) (SmB 4611686018427387904 tUs) (fun (a_a:List (den tUs))=>fun (s6:Int×Int)=>cond (decide (s6.2<(a_a.length:Int))) (Option.bind (idx a_a s6.2) fun x7=>cond (x7.1 != s6.1) (some (Sum.inr (Sum.inr (-1:Int)))) (Option.bind (idx a_a s6.2) fun x8=>cond (x8.2.1 != (wr (s6.1+(1:Int)))) (some (Sum.inr (Sum.inr (-1:Int)))) (Option.bind (idx a_a s6.2) fun x9=>cond (x9.2.2.1 != (wr ((wr (s6.1+(1:Int)))+(1:Int)))) (some (Sum.inr (Sum.inr (-1:Int)))) (Option.bind (idx a_a s6.2) fun x10=>cond (x10.2.2.2 != (wr ((wr ((wr (s6.1+(1:Int)))+(1:Int)))+(1:Int)))) (some (Sum.inr (Sum.inr (-1:Int)))) (some (Sum.inl (wr ((wr ((wr ((wr (s6.1+(1:Int)))+(1:Int)))+(1:Int)))+(1:Int)),wr (s6.2+(1:Int))))))))) (some (Sum.inr (Sum.inl s6.1)))) (l:=l) (k:=k) (fun k i L x hx hi hN hk hb hp=>by
   have hd:decide ((i:Int)<(L.length:Int))=true:=by simpa using hi
   have hd0:decide ((0:Int)≤(i:Int))=true:=by simp
   have hw:IntKind.i64.wrap ((i:Int)+1)=((i+1:Nat):Int):=by rw [wri (by omega) (by omega)];omega
   have hl:k+((lv tUs x:Nat):Int)=k+1+1+1+1:=by simp only [lv]<;>omega
   rw [hl] at hb
   rw [hl]
   have hE:mkT tUs x k=(k,k+1,k+1+1,k+1+1+1):=by first | rfl | (simp [mkT,lv];try omega)
   have f0:IntKind.i64.wrap (k+1)=k+1:=wri (by omega) (by omega)
   have f1:IntKind.i64.wrap (k+1+1)=k+1+1:=wri (by omega) (by omega)
   have f2:IntKind.i64.wrap (k+1+1+1)=k+1+1+1:=wri (by omega) (by omega)
   have f3:IntKind.i64.wrap (k+1+1+1+1)=k+1+1+1+1:=wri (by omega) (by omega)
   rw [hE] at hx
   have hi2:idx L (i:Int)=some (k,k+1,k+1+1,k+1+1+1):=by rw [idx_nat];exact hx
   simp only [hd,hw,hi2,cond_true,obind_some,bne_self_eq_false,beq_self_eq_true,Bool.not_true,cond_false,f0,f1,f2,f3]) (fun k L=>by simp) h.1 h.2 hk (by rw [hc];exact hb)
 rw [hc] at this
 show Option.bind (loopM _ (k,(0:Int))) _=_
 rw [show (mkT (.sl tUs) l k)=markAll (lv tUs) (mkT tUs) l k from rfl,this]
 rfl

theorem held_Scheduler {x:den tSc} {k:Int} (h:SmB 4611686018427387904 tSc x) (hk:0≤k) (hb:k+((lv (.sl tRs) x.2.1:Nat):Int)+((lv (.sl tUs) x.2.2:Nat):Int)≤4611686018427387904):l_heldScheduler (x.1,mkT (.sl tRs) x.2.1 (k),mkT (.sl tUs) x.2.2 (k+((lv (.sl tRs) x.2.1:Nat):Int))) k=some (k+((lv (.sl tRs) x.2.1:Nat):Int)+((lv (.sl tUs) x.2.2:Nat):Int)):=by
 have q0:=held_ReservationS (l:=x.2.1) (k:=k) h.2.1 (by omega) (by omega)
 have q1:=held_UsageS (l:=x.2.2) (k:=k+((lv (.sl tRs) x.2.1:Nat):Int)) h.2.2 (by omega) (by omega)
 have d0:decide (k+((lv (.sl tRs) x.2.1:Nat):Int)<0)=false:=by simp<;>omega
 have d1:decide (k+((lv (.sl tRs) x.2.1:Nat):Int)+((lv (.sl tUs) x.2.2:Nat):Int)<0)=false:=by simp<;>omega
 unfold l_heldScheduler
 simp only [q0,q1,d0,d1,obind_some,peta,cond_false]

theorem held_IntS {l:den (.sl ti)} {k:Int} (h:SmB 4611686018427387904 (.sl ti) l) (hk:0≤k) (hb:k+((lv (.sl ti) l:Nat):Int)≤4611686018427387904):l_heldIntS (mkT (.sl ti) l k) k=some (k+((lv (.sl ti) l:Nat):Int)):=by
 have hc:=cntAll_sum (lv ti) l
 have hc:k+((cntAll (lv ti) l:Nat):Int)=k+((lv (.sl ti) l:Nat):Int):=by rw [hc];rfl
 unfold l_heldIntS
 have :=held0 (cE:=lv ti) (mE:=mkT ti) (SmB 4611686018427387904 ti) (fun (a_a:List Int)=>fun (s3:Int×Int)=>cond (decide (s3.2<(a_a.length:Int))) (Option.bind (idx a_a s3.2) fun x4=>cond (x4 != s3.1) (some (Sum.inr (Sum.inr (-1:Int)))) (some (Sum.inl (wr (s3.1+(1:Int)),wr (s3.2+(1:Int)))))) (some (Sum.inr (Sum.inl s3.1)))) (l:=l) (k:=k) (fun k i L x hx hi hN hk hb hp=>by
   have hd:decide ((i:Int)<(L.length:Int))=true:=by simpa using hi
   have hd0:decide ((0:Int)≤(i:Int))=true:=by simp
   have hw:IntKind.i64.wrap ((i:Int)+1)=((i+1:Nat):Int):=by rw [wri (by omega) (by omega)];omega
   have hl:k+((lv ti x:Nat):Int)=k+1:=by simp only [lv]<;>omega
   rw [hl] at hb
   rw [hl]
   have hE:mkT ti x k=k:=by first | rfl | (simp [mkT,lv];try omega)
   have f0:IntKind.i64.wrap (k+1)=k+1:=wri (by omega) (by omega)
   rw [hE] at hx
   have hi2:idx L (i:Int)=some k:=by rw [idx_nat];exact hx
   simp only [hd,hw,hi2,cond_true,obind_some,bne_self_eq_false,beq_self_eq_true,Bool.not_true,cond_false,f0]) (fun k L=>by simp) h.1 h.2 hk (by rw [hc];exact hb)
 rw [hc] at this
 show Option.bind (loopM _ (k,(0:Int))) _=_
 rw [show (mkT (.sl ti) l k)=markAll (lv ti) (mkT ti) l k from rfl,this]
 rfl

theorem held_PathPartS {l:den (.sl tPp)} {k:Int} (h:SmB 4611686018427387904 (.sl tPp) l) (hk:0≤k) (hb:k+((lv (.sl tPp) l:Nat):Int)≤4611686018427387904):l_heldPathPartS (mkT (.sl tPp) l k) k=some (k+((lv (.sl tPp) l:Nat):Int)):=by
 have hc:=cntAll_sum (lv tPp) l
 have hc:k+((cntAll (lv tPp) l:Nat):Int)=k+((lv (.sl tPp) l:Nat):Int):=by rw [hc];rfl
 unfold l_heldPathPartS
 have :=held0 (cE:=lv tPp) (mE:=mkT tPp) (SmB 4611686018427387904 tPp) (fun (a_a:List (den tPp))=>fun (s7:Int×Int)=>cond (decide (s7.2<(a_a.length:Int))) (Option.bind (idx a_a s7.2) fun x8=>cond (x8.1 != s7.1) (some (Sum.inr (Sum.inr (-1:Int)))) (Option.bind (idx a_a s7.2) fun x9=>cond (x9.2.1 != (wr (s7.1+(1:Int)))) (some (Sum.inr (Sum.inr (-1:Int)))) (Option.bind (idx a_a s7.2) fun x10=>cond (x10.2.2.1 != (wr ((wr (s7.1+(1:Int)))+(1:Int)))) (some (Sum.inr (Sum.inr (-1:Int)))) (Option.bind (idx a_a s7.2) fun x11=>Option.bind (l_heldHopS x11.2.2.2 (wr ((wr ((wr (s7.1+(1:Int)))+(1:Int)))+(1:Int)))) fun y12=>cond (decide (y12<(0:Int))) (some (Sum.inr (Sum.inr (-1:Int)))) (some (Sum.inl (y12,wr (s7.2+(1:Int))))))))) (some (Sum.inr (Sum.inl s7.1)))) (l:=l) (k:=k) (fun k i L x hx hi hN hk hb hp=>by
   have hd:decide ((i:Int)<(L.length:Int))=true:=by simpa using hi
   have hd0:decide ((0:Int)≤(i:Int))=true:=by simp
   have hw:IntKind.i64.wrap ((i:Int)+1)=((i+1:Nat):Int):=by rw [wri (by omega) (by omega)];omega
   have hl:k+((lv tPp x:Nat):Int)=k+1+1+1+((lv (.sl tHop) x.2.2.2:Nat):Int):=by simp only [lv]<;>omega
   rw [hl] at hb
   rw [hl]
   have hE:mkT tPp x k=(k,k+1,k+1+1,mkT (.sl tHop) x.2.2.2 (k+1+1+1)):=by first | rfl | (simp [mkT,lv];try omega)
   have f0:IntKind.i64.wrap (k+1)=k+1:=wri (by omega) (by omega)
   have f1:IntKind.i64.wrap (k+1+1)=k+1+1:=wri (by omega) (by omega)
   have f2:IntKind.i64.wrap (k+1+1+1)=k+1+1+1:=wri (by omega) (by omega)
   have f3:=held_HopS (l:=x.2.2.2) (k:=k+1+1+1) hp.2.2.2 (by omega) (by omega)
   have g3:decide (k+1+1+1+((lv (.sl tHop) x.2.2.2:Nat):Int)<0)=false:=by simp<;>omega
   rw [hE] at hx
   have hi2:idx L (i:Int)=some (k,k+1,k+1+1,mkT (.sl tHop) x.2.2.2 (k+1+1+1)):=by rw [idx_nat];exact hx
   simp only [hd,hw,hi2,cond_true,obind_some,bne_self_eq_false,beq_self_eq_true,Bool.not_true,cond_false,f0,f1,f2,f3,g3]) (fun k L=>by simp) h.1 h.2 hk (by rw [hc];exact hb)
 rw [hc] at this
 show Option.bind (loopM _ (k,(0:Int))) _=_
 rw [show (mkT (.sl tPp) l k)=markAll (lv tPp) (mkT tPp) l k from rfl,this]
 rfl

theorem held_ByteS {l:den (.sl tb)} {k:Int} (h:SmB 4611686018427387904 (.sl tb) l) (hk:0≤k) (hb:k+((lv (.sl tb) l:Nat):Int)≤4611686018427387904):l_heldByteS (mkT (.sl tb) l k) k=some (k+((lv (.sl tb) l:Nat):Int)):=by
 have hc:=cntAll_sum (lv tb) l
 have hc:k+((cntAll (lv tb) l:Nat):Int)=k+((lv (.sl tb) l:Nat):Int):=by rw [hc];rfl
 unfold l_heldByteS
 have :=held0 (cE:=lv tb) (mE:=mkT tb) (SmB 4611686018427387904 tb) (fun (a_a:List Int)=>fun (s3:Int×Int)=>cond (decide (s3.2<(a_a.length:Int))) (Option.bind (idx a_a s3.2) fun x4=>cond (x4 != (IntKind.wrap .u8 s3.1)) (some (Sum.inr (Sum.inr (-1:Int)))) (some (Sum.inl (wr (s3.1+(1:Int)),wr (s3.2+(1:Int)))))) (some (Sum.inr (Sum.inl s3.1)))) (l:=l) (k:=k) (fun k i L x hx hi hN hk hb hp=>by
   have hd:decide ((i:Int)<(L.length:Int))=true:=by simpa using hi
   have hd0:decide ((0:Int)≤(i:Int))=true:=by simp
   have hw:IntKind.i64.wrap ((i:Int)+1)=((i+1:Nat):Int):=by rw [wri (by omega) (by omega)];omega
   have hl:k+((lv tb x:Nat):Int)=k+1:=by simp only [lv]<;>omega
   rw [hl] at hb
   rw [hl]
   have hE:mkT tb x k=IntKind.u8.wrap (k):=by first | rfl | (simp [mkT,lv];try omega)
   have f0:IntKind.i64.wrap (k+1)=k+1:=wri (by omega) (by omega)
   rw [hE] at hx
   have hi2:idx L (i:Int)=some (IntKind.u8.wrap (k)):=by rw [idx_nat];exact hx
   simp only [hd,hw,hi2,cond_true,obind_some,bne_self_eq_false,beq_self_eq_true,Bool.not_true,cond_false,f0]) (fun k L=>by simp) h.1 h.2 hk (by rw [hc];exact hb)
 rw [hc] at this
 show Option.bind (loopM _ (k,(0:Int))) _=_
 rw [show (mkT (.sl tb) l k)=markAll (lv tb) (mkT tb) l k from rfl,this]
 rfl

theorem held_PacketInFlightS {l:den (.sl tFy)} {k:Int} (h:SmB 4611686018427387904 (.sl tFy) l) (hk:0≤k) (hb:k+((lv (.sl tFy) l:Nat):Int)≤4611686018427387904):l_heldPacketInFlightS (mkT (.sl tFy) l k) k=some (k+((lv (.sl tFy) l:Nat):Int)):=by
 have hc:=cntAll_sum (lv tFy) l
 have hc:k+((cntAll (lv tFy) l:Nat):Int)=k+((lv (.sl tFy) l:Nat):Int):=by rw [hc];rfl
 unfold l_heldPacketInFlightS
 have :=held0 (cE:=lv tFy) (mE:=mkT tFy) (SmB 4611686018427387904 tFy) (fun (a_p0:List (den tFy))=>fun (s16:Int×Int)=>cond (decide (s16.2<(a_p0.length:Int))) (Option.bind (idx a_p0 s16.2) fun x17=>cond (x17.1 != s16.1) (some (Sum.inr (Sum.inr (-1:Int)))) (Option.bind (idx a_p0 s16.2) fun x18=>cond (x18.2.1 != (wr (s16.1+(1:Int)))) (some (Sum.inr (Sum.inr (-1:Int)))) (Option.bind (idx a_p0 s16.2) fun x19=>cond (x19.2.2.1 != (wr ((wr (s16.1+(1:Int)))+(1:Int)))) (some (Sum.inr (Sum.inr (-1:Int)))) (Option.bind (idx a_p0 s16.2) fun x20=>cond (x20.2.2.2.1 != (wr ((wr ((wr (s16.1+(1:Int)))+(1:Int)))+(1:Int)))) (some (Sum.inr (Sum.inr (-1:Int)))) (Option.bind (idx a_p0 s16.2) fun x21=>cond (x21.2.2.2.2.1 != (wr ((wr ((wr ((wr (s16.1+(1:Int)))+(1:Int)))+(1:Int)))+(1:Int)))) (some (Sum.inr (Sum.inr (-1:Int)))) (Option.bind (idx a_p0 s16.2) fun x22=>Option.bind (l_heldPathPartS x22.2.2.2.2.2.1 (wr ((wr ((wr ((wr ((wr (s16.1+(1:Int)))+(1:Int)))+(1:Int)))+(1:Int)))+(1:Int)))) fun y23=>cond (decide (y23<(0:Int))) (some (Sum.inr (Sum.inr (-1:Int)))) (Option.bind (idx a_p0 s16.2) fun x24=>cond (x24.2.2.2.2.2.2.1 != y23) (some (Sum.inr (Sum.inr (-1:Int)))) (Option.bind (idx a_p0 s16.2) fun x25=>cond (x25.2.2.2.2.2.2.2.1 != (wr (y23+(1:Int)))) (some (Sum.inr (Sum.inr (-1:Int)))) (Option.bind (idx a_p0 s16.2) fun x26=>cond (x26.2.2.2.2.2.2.2.2.1 != (wr ((wr (y23+(1:Int)))+(1:Int)))) (some (Sum.inr (Sum.inr (-1:Int)))) (Option.bind (idx a_p0 s16.2) fun x27=>cond (x27.2.2.2.2.2.2.2.2.2.1 != (wr ((wr ((wr (y23+(1:Int)))+(1:Int)))+(1:Int)))) (some (Sum.inr (Sum.inr (-1:Int)))) (Option.bind (idx a_p0 s16.2) fun x28=>cond (x28.2.2.2.2.2.2.2.2.2.2.1 != (wr ((wr ((wr ((wr (y23+(1:Int)))+(1:Int)))+(1:Int)))+(1:Int)))) (some (Sum.inr (Sum.inr (-1:Int)))) (Option.bind (idx a_p0 s16.2) fun x29=>Option.bind (l_heldByteS x29.2.2.2.2.2.2.2.2.2.2.2 (wr ((wr ((wr ((wr ((wr (y23+(1:Int)))+(1:Int)))+(1:Int)))+(1:Int)))+(1:Int)))) fun y30=>cond (decide (y30<(0:Int))) (some (Sum.inr (Sum.inr (-1:Int)))) (some (Sum.inl (y30,wr (s16.2+(1:Int))))))))))))))))) (some (Sum.inr (Sum.inl s16.1)))) (l:=l) (k:=k) (fun k i L x hx hi hN hk hb hp=>by
   have hd:decide ((i:Int)<(L.length:Int))=true:=by simpa using hi
   have hd0:decide ((0:Int)≤(i:Int))=true:=by simp
   have hw:IntKind.i64.wrap ((i:Int)+1)=((i+1:Nat):Int):=by rw [wri (by omega) (by omega)];omega
   have hl:k+((lv tFy x:Nat):Int)=k+1+1+1+1+1+((lv (.sl tPp) x.2.2.2.2.2.1:Nat):Int)+1+1+1+1+1+((lv (.sl tb) x.2.2.2.2.2.2.2.2.2.2.2:Nat):Int):=by simp only [lv]<;>omega
   rw [hl] at hb
   rw [hl]
   have hE:mkT tFy x k=(k,k+1,(k+1+1,k+1+1+1,k+1+1+1+1,mkT (.sl tPp) x.2.2.2.2.2.1 (k+1+1+1+1+1),k+1+1+1+1+1+((lv (.sl tPp) x.2.2.2.2.2.1:Nat):Int),k+1+1+1+1+1+((lv (.sl tPp) x.2.2.2.2.2.1:Nat):Int)+1,k+1+1+1+1+1+((lv (.sl tPp) x.2.2.2.2.2.1:Nat):Int)+1+1,k+1+1+1+1+1+((lv (.sl tPp) x.2.2.2.2.2.1:Nat):Int)+1+1+1,k+1+1+1+1+1+((lv (.sl tPp) x.2.2.2.2.2.1:Nat):Int)+1+1+1+1,mkT (.sl tb) x.2.2.2.2.2.2.2.2.2.2.2 (k+1+1+1+1+1+((lv (.sl tPp) x.2.2.2.2.2.1:Nat):Int)+1+1+1+1+1))):=by first | rfl | (simp [mkT,lv];try omega)
   have f0:IntKind.i64.wrap (k+1)=k+1:=wri (by omega) (by omega)
   have f1:IntKind.i64.wrap (k+1+1)=k+1+1:=wri (by omega) (by omega)
   have f2:IntKind.i64.wrap (k+1+1+1)=k+1+1+1:=wri (by omega) (by omega)
   have f3:IntKind.i64.wrap (k+1+1+1+1)=k+1+1+1+1:=wri (by omega) (by omega)
   have f4:IntKind.i64.wrap (k+1+1+1+1+1)=k+1+1+1+1+1:=wri (by omega) (by omega)
   have f5:=held_PathPartS (l:=x.2.2.2.2.2.1) (k:=k+1+1+1+1+1) hp.2.2.2.2.2.1 (by omega) (by omega)
   have g5:decide (k+1+1+1+1+1+((lv (.sl tPp) x.2.2.2.2.2.1:Nat):Int)<0)=false:=by simp<;>omega
   have f6:IntKind.i64.wrap (k+1+1+1+1+1+((lv (.sl tPp) x.2.2.2.2.2.1:Nat):Int)+1)=k+1+1+1+1+1+((lv (.sl tPp) x.2.2.2.2.2.1:Nat):Int)+1:=wri (by omega) (by omega)
   have f7:IntKind.i64.wrap (k+1+1+1+1+1+((lv (.sl tPp) x.2.2.2.2.2.1:Nat):Int)+1+1)=k+1+1+1+1+1+((lv (.sl tPp) x.2.2.2.2.2.1:Nat):Int)+1+1:=wri (by omega) (by omega)
   have f8:IntKind.i64.wrap (k+1+1+1+1+1+((lv (.sl tPp) x.2.2.2.2.2.1:Nat):Int)+1+1+1)=k+1+1+1+1+1+((lv (.sl tPp) x.2.2.2.2.2.1:Nat):Int)+1+1+1:=wri (by omega) (by omega)
   have f9:IntKind.i64.wrap (k+1+1+1+1+1+((lv (.sl tPp) x.2.2.2.2.2.1:Nat):Int)+1+1+1+1)=k+1+1+1+1+1+((lv (.sl tPp) x.2.2.2.2.2.1:Nat):Int)+1+1+1+1:=wri (by omega) (by omega)
   have f10:IntKind.i64.wrap (k+1+1+1+1+1+((lv (.sl tPp) x.2.2.2.2.2.1:Nat):Int)+1+1+1+1+1)=k+1+1+1+1+1+((lv (.sl tPp) x.2.2.2.2.2.1:Nat):Int)+1+1+1+1+1:=wri (by omega) (by omega)
   have f11:=held_ByteS (l:=x.2.2.2.2.2.2.2.2.2.2.2) (k:=k+1+1+1+1+1+((lv (.sl tPp) x.2.2.2.2.2.1:Nat):Int)+1+1+1+1+1) hp.2.2.2.2.2.2.2.2.2.2.2 (by omega) (by omega)
   have g11:decide (k+1+1+1+1+1+((lv (.sl tPp) x.2.2.2.2.2.1:Nat):Int)+1+1+1+1+1+((lv (.sl tb) x.2.2.2.2.2.2.2.2.2.2.2:Nat):Int)<0)=false:=by simp<;>omega
   rw [hE] at hx
   have hi2:idx L (i:Int)=some (k,k+1,(k+1+1,k+1+1+1,k+1+1+1+1,mkT (.sl tPp) x.2.2.2.2.2.1 (k+1+1+1+1+1),k+1+1+1+1+1+((lv (.sl tPp) x.2.2.2.2.2.1:Nat):Int),k+1+1+1+1+1+((lv (.sl tPp) x.2.2.2.2.2.1:Nat):Int)+1,k+1+1+1+1+1+((lv (.sl tPp) x.2.2.2.2.2.1:Nat):Int)+1+1,k+1+1+1+1+1+((lv (.sl tPp) x.2.2.2.2.2.1:Nat):Int)+1+1+1,k+1+1+1+1+1+((lv (.sl tPp) x.2.2.2.2.2.1:Nat):Int)+1+1+1+1,mkT (.sl tb) x.2.2.2.2.2.2.2.2.2.2.2 (k+1+1+1+1+1+((lv (.sl tPp) x.2.2.2.2.2.1:Nat):Int)+1+1+1+1+1))):=by rw [idx_nat];exact hx
   simp only [hd,hw,hi2,cond_true,obind_some,bne_self_eq_false,beq_self_eq_true,Bool.not_true,cond_false,f0,f1,f2,f3,f4,f5,g5,f6,f7,f8,f9,f10,f11,g11]) (fun k L=>by simp) h.1 h.2 hk (by rw [hc];exact hb)
 rw [hc] at this
 show Option.bind (loopM _ (k,(0:Int))) _=_
 rw [show (mkT (.sl tFy) l k)=markAll (lv tFy) (mkT tFy) l k from rfl,this]
 rfl

theorem held_MessageS {l:den (.sl tMs)} {k:Int} (h:SmB 4611686018427387904 (.sl tMs) l) (hk:0≤k) (hb:k+((lv (.sl tMs) l:Nat):Int)≤4611686018427387904):l_heldMessageS (mkT (.sl tMs) l k) k=some (k+((lv (.sl tMs) l:Nat):Int)):=by
 have hc:=cntAll_sum (lv tMs) l
 have hc:k+((cntAll (lv tMs) l:Nat):Int)=k+((lv (.sl tMs) l:Nat):Int):=by rw [hc];rfl
 unfold l_heldMessageS
 have :=held0 (cE:=lv tMs) (mE:=mkT tMs) (SmB 4611686018427387904 tMs) (fun (a_a:List (den tMs))=>fun (s4:Int×Int)=>cond (decide (s4.2<(a_a.length:Int))) (Option.bind (idx a_a s4.2) fun x5=>Option.bind (l_heldByteS x5 s4.1) fun y6=>cond (decide (y6<(0:Int))) (some (Sum.inr (Sum.inr (-1:Int)))) (some (Sum.inl (y6,wr (s4.2+(1:Int)))))) (some (Sum.inr (Sum.inl s4.1)))) (l:=l) (k:=k) (fun k i L x hx hi hN hk hb hp=>by
   have hd:decide ((i:Int)<(L.length:Int))=true:=by simpa using hi
   have hd0:decide ((0:Int)≤(i:Int))=true:=by simp
   have hw:IntKind.i64.wrap ((i:Int)+1)=((i+1:Nat):Int):=by rw [wri (by omega) (by omega)];omega
   have hl:k+((lv tMs x:Nat):Int)=k+((lv (.sl tb) x:Nat):Int):=by simp only [lv]<;>omega
   rw [hl] at hb
   rw [hl]
   have hE:mkT tMs x k=mkT (.sl tb) x (k):=by first | rfl | (simp [mkT,lv];try omega)
   have f0:=held_ByteS (l:=x) (k:=k) hp (by omega) (by omega)
   have g0:decide (k+((lv (.sl tb) x:Nat):Int)<0)=false:=by simp<;>omega
   rw [hE] at hx
   have hi2:idx L (i:Int)=some (mkT (.sl tb) x (k)):=by rw [idx_nat];exact hx
   simp only [hd,hw,hi2,cond_true,obind_some,bne_self_eq_false,beq_self_eq_true,Bool.not_true,cond_false,f0,g0]) (fun k L=>by simp) h.1 h.2 hk (by rw [hc];exact hb)
 rw [hc] at this
 show Option.bind (loopM _ (k,(0:Int))) _=_
 rw [show (mkT (.sl tMs) l k)=markAll (lv tMs) (mkT tMs) l k from rfl,this]
 rfl

theorem held_PathS {l:den (.sl tPt)} {k:Int} (h:SmB 4611686018427387904 (.sl tPt) l) (hk:0≤k) (hb:k+((lv (.sl tPt) l:Nat):Int)≤4611686018427387904):l_heldPathS (mkT (.sl tPt) l k) k=some (k+((lv (.sl tPt) l:Nat):Int)):=by
 have hc:=cntAll_sum (lv tPt) l
 have hc:k+((cntAll (lv tPt) l:Nat):Int)=k+((lv (.sl tPt) l:Nat):Int):=by rw [hc];rfl
 unfold l_heldPathS
 have :=held0 (cE:=lv tPt) (mE:=mkT tPt) (SmB 4611686018427387904 tPt) (fun (a_a:List (den tPt))=>fun (s4:Int×Int)=>cond (decide (s4.2<(a_a.length:Int))) (Option.bind (idx a_a s4.2) fun x5=>Option.bind (l_heldPathPartS x5 s4.1) fun y6=>cond (decide (y6<(0:Int))) (some (Sum.inr (Sum.inr (-1:Int)))) (some (Sum.inl (y6,wr (s4.2+(1:Int)))))) (some (Sum.inr (Sum.inl s4.1)))) (l:=l) (k:=k) (fun k i L x hx hi hN hk hb hp=>by
   have hd:decide ((i:Int)<(L.length:Int))=true:=by simpa using hi
   have hd0:decide ((0:Int)≤(i:Int))=true:=by simp
   have hw:IntKind.i64.wrap ((i:Int)+1)=((i+1:Nat):Int):=by rw [wri (by omega) (by omega)];omega
   have hl:k+((lv tPt x:Nat):Int)=k+((lv (.sl tPp) x:Nat):Int):=by simp only [lv]<;>omega
   rw [hl] at hb
   rw [hl]
   have hE:mkT tPt x k=mkT (.sl tPp) x (k):=by first | rfl | (simp [mkT,lv];try omega)
   have f0:=held_PathPartS (l:=x) (k:=k) hp (by omega) (by omega)
   have g0:decide (k+((lv (.sl tPp) x:Nat):Int)<0)=false:=by simp<;>omega
   rw [hE] at hx
   have hi2:idx L (i:Int)=some (mkT (.sl tPp) x (k)):=by rw [idx_nat];exact hx
   simp only [hd,hw,hi2,cond_true,obind_some,bne_self_eq_false,beq_self_eq_true,Bool.not_true,cond_false,f0,g0]) (fun k L=>by simp) h.1 h.2 hk (by rw [hc];exact hb)
 rw [hc] at this
 show Option.bind (loopM _ (k,(0:Int))) _=_
 rw [show (mkT (.sl tPt) l k)=markAll (lv tPt) (mkT tPt) l k from rfl,this]
 rfl

theorem held_RevocationS {l:den (.sl tRv)} {k:Int} (h:SmB 4611686018427387904 (.sl tRv) l) (hk:0≤k) (hb:k+((lv (.sl tRv) l:Nat):Int)≤4611686018427387904):l_heldRevocationS (mkT (.sl tRv) l k) k=some (k+((lv (.sl tRv) l:Nat):Int)):=by
 have hc:=cntAll_sum (lv tRv) l
 have hc:k+((cntAll (lv tRv) l:Nat):Int)=k+((lv (.sl tRv) l:Nat):Int):=by rw [hc];rfl
 unfold l_heldRevocationS
 have :=held0 (cE:=lv tRv) (mE:=mkT tRv) (SmB 4611686018427387904 tRv) (fun (a_a:List (den tRv))=>fun (s5:Int×Int)=>cond (decide (s5.2<(a_a.length:Int))) (Option.bind (idx a_a s5.2) fun x6=>cond (x6.1 != s5.1) (some (Sum.inr (Sum.inr (-1:Int)))) (Option.bind (idx a_a s5.2) fun x7=>cond (x7.2.1 != (wr (s5.1+(1:Int)))) (some (Sum.inr (Sum.inr (-1:Int)))) (Option.bind (idx a_a s5.2) fun x8=>cond (x8.2.2 != (wr ((wr (s5.1+(1:Int)))+(1:Int)))) (some (Sum.inr (Sum.inr (-1:Int)))) (some (Sum.inl (wr ((wr ((wr (s5.1+(1:Int)))+(1:Int)))+(1:Int)),wr (s5.2+(1:Int)))))))) (some (Sum.inr (Sum.inl s5.1)))) (l:=l) (k:=k) (fun k i L x hx hi hN hk hb hp=>by
   have hd:decide ((i:Int)<(L.length:Int))=true:=by simpa using hi
   have hd0:decide ((0:Int)≤(i:Int))=true:=by simp
   have hw:IntKind.i64.wrap ((i:Int)+1)=((i+1:Nat):Int):=by rw [wri (by omega) (by omega)];omega
   have hl:k+((lv tRv x:Nat):Int)=k+1+1+1:=by simp only [lv]<;>omega
   rw [hl] at hb
   rw [hl]
   have hE:mkT tRv x k=(k,k+1,k+1+1):=by first | rfl | (simp [mkT,lv];try omega)
   have f0:IntKind.i64.wrap (k+1)=k+1:=wri (by omega) (by omega)
   have f1:IntKind.i64.wrap (k+1+1)=k+1+1:=wri (by omega) (by omega)
   have f2:IntKind.i64.wrap (k+1+1+1)=k+1+1+1:=wri (by omega) (by omega)
   rw [hE] at hx
   have hi2:idx L (i:Int)=some (k,k+1,k+1+1):=by rw [idx_nat];exact hx
   simp only [hd,hw,hi2,cond_true,obind_some,bne_self_eq_false,beq_self_eq_true,Bool.not_true,cond_false,f0,f1,f2]) (fun k L=>by simp) h.1 h.2 hk (by rw [hc];exact hb)
 rw [hc] at this
 show Option.bind (loopM _ (k,(0:Int))) _=_
 rw [show (mkT (.sl tRv) l k)=markAll (lv tRv) (mkT tRv) l k from rfl,this]
 rfl

theorem held_FlowS {l:den (.sl tFl)} {k:Int} (h:SmB 4611686018427387904 (.sl tFl) l) (hk:0≤k) (hb:k+((lv (.sl tFl) l:Nat):Int)≤4611686018427387904):l_heldFlowS (mkT (.sl tFl) l k) k=some (k+((lv (.sl tFl) l:Nat):Int)):=by
 have hc:=cntAll_sum (lv tFl) l
 have hc:k+((cntAll (lv tFl) l:Nat):Int)=k+((lv (.sl tFl) l:Nat):Int):=by rw [hc];rfl
 unfold l_heldFlowS
 have :=held0 (cE:=lv tFl) (mE:=mkT tFl) (SmB 4611686018427387904 tFl) (fun (a_p0:List (den tFl))=>fun (s14:Int×Int)=>cond (decide (s14.2<(a_p0.length:Int))) (Option.bind (idx a_p0 s14.2) fun x15=>cond (x15.1 != s14.1) (some (Sum.inr (Sum.inr (-1:Int)))) (Option.bind (idx a_p0 s14.2) fun x16=>cond (x16.2.1 != (wr (s14.1+(1:Int)))) (some (Sum.inr (Sum.inr (-1:Int)))) (Option.bind (idx a_p0 s14.2) fun x17=>cond (x17.2.2.1 != (wr ((wr (s14.1+(1:Int)))+(1:Int)))) (some (Sum.inr (Sum.inr (-1:Int)))) (Option.bind (idx a_p0 s14.2) fun x18=>cond (x18.2.2.2.1 != (wr ((wr ((wr (s14.1+(1:Int)))+(1:Int)))+(1:Int)))) (some (Sum.inr (Sum.inr (-1:Int)))) (Option.bind (idx a_p0 s14.2) fun x19=>Option.bind (l_heldMessageS x19.2.2.2.2.1 (wr ((wr ((wr ((wr (s14.1+(1:Int)))+(1:Int)))+(1:Int)))+(1:Int)))) fun y20=>cond (decide (y20<(0:Int))) (some (Sum.inr (Sum.inr (-1:Int)))) (Option.bind (idx a_p0 s14.2) fun x21=>Option.bind (l_heldPathS x21.2.2.2.2.2.1 y20) fun y22=>cond (decide (y22<(0:Int))) (some (Sum.inr (Sum.inr (-1:Int)))) (Option.bind (idx a_p0 s14.2) fun x23=>cond (x23.2.2.2.2.2.2.1 != y22) (some (Sum.inr (Sum.inr (-1:Int)))) (Option.bind (idx a_p0 s14.2) fun x24=>cond (x24.2.2.2.2.2.2.2.1 != (wr (y22+(1:Int)))) (some (Sum.inr (Sum.inr (-1:Int)))) (Option.bind (idx a_p0 s14.2) fun x25=>Option.bind (l_heldRevocationS x25.2.2.2.2.2.2.2.2 (wr ((wr (y22+(1:Int)))+(1:Int)))) fun y26=>cond (decide (y26<(0:Int))) (some (Sum.inr (Sum.inr (-1:Int)))) (some (Sum.inl (y26,wr (s14.2+(1:Int)))))))))))))) (some (Sum.inr (Sum.inl s14.1)))) (l:=l) (k:=k) (fun k i L x hx hi hN hk hb hp=>by
   have hd:decide ((i:Int)<(L.length:Int))=true:=by simpa using hi
   have hd0:decide ((0:Int)≤(i:Int))=true:=by simp
   have hw:IntKind.i64.wrap ((i:Int)+1)=((i+1:Nat):Int):=by rw [wri (by omega) (by omega)];omega
   have hl:k+((lv tFl x:Nat):Int)=k+1+1+1+1+((lv (.sl tMs) x.2.2.2.2.1:Nat):Int)+((lv (.sl tPt) x.2.2.2.2.2.1:Nat):Int)+1+1+((lv (.sl tRv) x.2.2.2.2.2.2.2.2:Nat):Int):=by simp only [lv]<;>omega
   rw [hl] at hb
   rw [hl]
   have hE:mkT tFl x k=(k,k+1,k+1+1,k+1+1+1,mkT (.sl tMs) x.2.2.2.2.1 (k+1+1+1+1),mkT (.sl tPt) x.2.2.2.2.2.1 (k+1+1+1+1+((lv (.sl tMs) x.2.2.2.2.1:Nat):Int)),k+1+1+1+1+((lv (.sl tMs) x.2.2.2.2.1:Nat):Int)+((lv (.sl tPt) x.2.2.2.2.2.1:Nat):Int),k+1+1+1+1+((lv (.sl tMs) x.2.2.2.2.1:Nat):Int)+((lv (.sl tPt) x.2.2.2.2.2.1:Nat):Int)+1,mkT (.sl tRv) x.2.2.2.2.2.2.2.2 (k+1+1+1+1+((lv (.sl tMs) x.2.2.2.2.1:Nat):Int)+((lv (.sl tPt) x.2.2.2.2.2.1:Nat):Int)+1+1)):=by first | rfl | (simp [mkT,lv];try omega)
   have f0:IntKind.i64.wrap (k+1)=k+1:=wri (by omega) (by omega)
   have f1:IntKind.i64.wrap (k+1+1)=k+1+1:=wri (by omega) (by omega)
   have f2:IntKind.i64.wrap (k+1+1+1)=k+1+1+1:=wri (by omega) (by omega)
   have f3:IntKind.i64.wrap (k+1+1+1+1)=k+1+1+1+1:=wri (by omega) (by omega)
   have f4:=held_MessageS (l:=x.2.2.2.2.1) (k:=k+1+1+1+1) hp.2.2.2.2.1 (by omega) (by omega)
   have g4:decide (k+1+1+1+1+((lv (.sl tMs) x.2.2.2.2.1:Nat):Int)<0)=false:=by simp<;>omega
   have f5:=held_PathS (l:=x.2.2.2.2.2.1) (k:=k+1+1+1+1+((lv (.sl tMs) x.2.2.2.2.1:Nat):Int)) hp.2.2.2.2.2.1 (by omega) (by omega)
   have g5:decide (k+1+1+1+1+((lv (.sl tMs) x.2.2.2.2.1:Nat):Int)+((lv (.sl tPt) x.2.2.2.2.2.1:Nat):Int)<0)=false:=by simp<;>omega
   have f6:IntKind.i64.wrap (k+1+1+1+1+((lv (.sl tMs) x.2.2.2.2.1:Nat):Int)+((lv (.sl tPt) x.2.2.2.2.2.1:Nat):Int)+1)=k+1+1+1+1+((lv (.sl tMs) x.2.2.2.2.1:Nat):Int)+((lv (.sl tPt) x.2.2.2.2.2.1:Nat):Int)+1:=wri (by omega) (by omega)
   have f7:IntKind.i64.wrap (k+1+1+1+1+((lv (.sl tMs) x.2.2.2.2.1:Nat):Int)+((lv (.sl tPt) x.2.2.2.2.2.1:Nat):Int)+1+1)=k+1+1+1+1+((lv (.sl tMs) x.2.2.2.2.1:Nat):Int)+((lv (.sl tPt) x.2.2.2.2.2.1:Nat):Int)+1+1:=wri (by omega) (by omega)
   have f8:=held_RevocationS (l:=x.2.2.2.2.2.2.2.2) (k:=k+1+1+1+1+((lv (.sl tMs) x.2.2.2.2.1:Nat):Int)+((lv (.sl tPt) x.2.2.2.2.2.1:Nat):Int)+1+1) hp.2.2.2.2.2.2.2.2 (by omega) (by omega)
   have g8:decide (k+1+1+1+1+((lv (.sl tMs) x.2.2.2.2.1:Nat):Int)+((lv (.sl tPt) x.2.2.2.2.2.1:Nat):Int)+1+1+((lv (.sl tRv) x.2.2.2.2.2.2.2.2:Nat):Int)<0)=false:=by simp<;>omega
   rw [hE] at hx
   have hi2:idx L (i:Int)=some (k,k+1,k+1+1,k+1+1+1,mkT (.sl tMs) x.2.2.2.2.1 (k+1+1+1+1),mkT (.sl tPt) x.2.2.2.2.2.1 (k+1+1+1+1+((lv (.sl tMs) x.2.2.2.2.1:Nat):Int)),k+1+1+1+1+((lv (.sl tMs) x.2.2.2.2.1:Nat):Int)+((lv (.sl tPt) x.2.2.2.2.2.1:Nat):Int),k+1+1+1+1+((lv (.sl tMs) x.2.2.2.2.1:Nat):Int)+((lv (.sl tPt) x.2.2.2.2.2.1:Nat):Int)+1,mkT (.sl tRv) x.2.2.2.2.2.2.2.2 (k+1+1+1+1+((lv (.sl tMs) x.2.2.2.2.1:Nat):Int)+((lv (.sl tPt) x.2.2.2.2.2.1:Nat):Int)+1+1)):=by rw [idx_nat];exact hx
   simp only [hd,hw,hi2,cond_true,obind_some,bne_self_eq_false,beq_self_eq_true,Bool.not_true,cond_false,f0,f1,f2,f3,f4,g4,f5,g5,f6,f7,f8,g8]) (fun k L=>by simp) h.1 h.2 hk (by rw [hc];exact hb)
 rw [hc] at this
 show Option.bind (loopM _ (k,(0:Int))) _=_
 rw [show (mkT (.sl tFl) l k)=markAll (lv tFl) (mkT tFl) l k from rfl,this]
 rfl

theorem held_InboxS {l:den (.sl tIb)} {k:Int} (h:SmB 4611686018427387904 (.sl tIb) l) (hk:0≤k) (hb:k+((lv (.sl tIb) l:Nat):Int)≤4611686018427387904):l_heldInboxS (mkT (.sl tIb) l k) k=some (k+((lv (.sl tIb) l:Nat):Int)):=by
 have hc:=cntAll_sum (lv tIb) l
 have hc:k+((cntAll (lv tIb) l:Nat):Int)=k+((lv (.sl tIb) l:Nat):Int):=by rw [hc];rfl
 unfold l_heldInboxS
 have :=held0 (cE:=lv tIb) (mE:=mkT tIb) (SmB 4611686018427387904 tIb) (fun (a_a:List (den tIb))=>fun (s7:Int×Int)=>cond (decide (s7.2<(a_a.length:Int))) (Option.bind (idx a_a s7.2) fun x8=>cond (x8.1 != s7.1) (some (Sum.inr (Sum.inr (-1:Int)))) (Option.bind (idx a_a s7.2) fun x9=>cond (x9.2.1 != (wr (s7.1+(1:Int)))) (some (Sum.inr (Sum.inr (-1:Int)))) (Option.bind (idx a_a s7.2) fun x10=>cond (x10.2.2.1 != (wr ((wr (s7.1+(1:Int)))+(1:Int)))) (some (Sum.inr (Sum.inr (-1:Int)))) (Option.bind (idx a_a s7.2) fun x11=>Option.bind (l_heldMessageS x11.2.2.2 (wr ((wr ((wr (s7.1+(1:Int)))+(1:Int)))+(1:Int)))) fun y12=>cond (decide (y12<(0:Int))) (some (Sum.inr (Sum.inr (-1:Int)))) (some (Sum.inl (y12,wr (s7.2+(1:Int))))))))) (some (Sum.inr (Sum.inl s7.1)))) (l:=l) (k:=k) (fun k i L x hx hi hN hk hb hp=>by
   have hd:decide ((i:Int)<(L.length:Int))=true:=by simpa using hi
   have hd0:decide ((0:Int)≤(i:Int))=true:=by simp
   have hw:IntKind.i64.wrap ((i:Int)+1)=((i+1:Nat):Int):=by rw [wri (by omega) (by omega)];omega
   have hl:k+((lv tIb x:Nat):Int)=k+1+1+1+((lv (.sl tMs) x.2.2.2:Nat):Int):=by simp only [lv]<;>omega
   rw [hl] at hb
   rw [hl]
   have hE:mkT tIb x k=(k,k+1,k+1+1,mkT (.sl tMs) x.2.2.2 (k+1+1+1)):=by first | rfl | (simp [mkT,lv];try omega)
   have f0:IntKind.i64.wrap (k+1)=k+1:=wri (by omega) (by omega)
   have f1:IntKind.i64.wrap (k+1+1)=k+1+1:=wri (by omega) (by omega)
   have f2:IntKind.i64.wrap (k+1+1+1)=k+1+1+1:=wri (by omega) (by omega)
   have f3:=held_MessageS (l:=x.2.2.2) (k:=k+1+1+1) hp.2.2.2 (by omega) (by omega)
   have g3:decide (k+1+1+1+((lv (.sl tMs) x.2.2.2:Nat):Int)<0)=false:=by simp<;>omega
   rw [hE] at hx
   have hi2:idx L (i:Int)=some (k,k+1,k+1+1,mkT (.sl tMs) x.2.2.2 (k+1+1+1)):=by rw [idx_nat];exact hx
   simp only [hd,hw,hi2,cond_true,obind_some,bne_self_eq_false,beq_self_eq_true,Bool.not_true,cond_false,f0,f1,f2,f3,g3]) (fun k L=>by simp) h.1 h.2 hk (by rw [hc];exact hb)
 rw [hc] at this
 show Option.bind (loopM _ (k,(0:Int))) _=_
 rw [show (mkT (.sl tIb) l k)=markAll (lv tIb) (mkT tIb) l k from rfl,this]
 rfl

theorem held_Network {x:den tNw} {k:Int} (h:SmB 4611686018427387904 tNw x) (hk:0≤k) (hb:k+((lv (.sl tAS) x.1.1:Nat):Int)+((lv (.sl tLk) x.1.2:Nat):Int)+((lv (.sl tSg) x.2.1.1:Nat):Int)+((lv (.sl tSg) x.2.1.2:Nat):Int)+((lv (.sl tRs) x.2.2.1.2.1:Nat):Int)+((lv (.sl tUs) x.2.2.1.2.2:Nat):Int)+((lv (.sl ti) x.2.2.2.2.1:Nat):Int)+((lv (.sl tFy) x.2.2.2.2.2.1:Nat):Int)+((lv (.sl tFl) x.2.2.2.2.2.2.1:Nat):Int)+((lv (.sl tIb) x.2.2.2.2.2.2.2.1:Nat):Int)≤4611686018427387904):l_heldNetwork ((mkT (.sl tAS) x.1.1 (k),mkT (.sl tLk) x.1.2 (k+((lv (.sl tAS) x.1.1:Nat):Int))),(mkT (.sl tSg) x.2.1.1 (k+((lv (.sl tAS) x.1.1:Nat):Int)+((lv (.sl tLk) x.1.2:Nat):Int)),mkT (.sl tSg) x.2.1.2 (k+((lv (.sl tAS) x.1.1:Nat):Int)+((lv (.sl tLk) x.1.2:Nat):Int)+((lv (.sl tSg) x.2.1.1:Nat):Int))),(x.2.2.1.1,mkT (.sl tRs) x.2.2.1.2.1 (k+((lv (.sl tAS) x.1.1:Nat):Int)+((lv (.sl tLk) x.1.2:Nat):Int)+((lv (.sl tSg) x.2.1.1:Nat):Int)+((lv (.sl tSg) x.2.1.2:Nat):Int)),mkT (.sl tUs) x.2.2.1.2.2 (k+((lv (.sl tAS) x.1.1:Nat):Int)+((lv (.sl tLk) x.1.2:Nat):Int)+((lv (.sl tSg) x.2.1.1:Nat):Int)+((lv (.sl tSg) x.2.1.2:Nat):Int)+((lv (.sl tRs) x.2.2.1.2.1:Nat):Int))),x.2.2.2.1,mkT (.sl ti) x.2.2.2.2.1 (k+((lv (.sl tAS) x.1.1:Nat):Int)+((lv (.sl tLk) x.1.2:Nat):Int)+((lv (.sl tSg) x.2.1.1:Nat):Int)+((lv (.sl tSg) x.2.1.2:Nat):Int)+((lv (.sl tRs) x.2.2.1.2.1:Nat):Int)+((lv (.sl tUs) x.2.2.1.2.2:Nat):Int)),mkT (.sl tFy) x.2.2.2.2.2.1 (k+((lv (.sl tAS) x.1.1:Nat):Int)+((lv (.sl tLk) x.1.2:Nat):Int)+((lv (.sl tSg) x.2.1.1:Nat):Int)+((lv (.sl tSg) x.2.1.2:Nat):Int)+((lv (.sl tRs) x.2.2.1.2.1:Nat):Int)+((lv (.sl tUs) x.2.2.1.2.2:Nat):Int)+((lv (.sl ti) x.2.2.2.2.1:Nat):Int)),mkT (.sl tFl) x.2.2.2.2.2.2.1 (k+((lv (.sl tAS) x.1.1:Nat):Int)+((lv (.sl tLk) x.1.2:Nat):Int)+((lv (.sl tSg) x.2.1.1:Nat):Int)+((lv (.sl tSg) x.2.1.2:Nat):Int)+((lv (.sl tRs) x.2.2.1.2.1:Nat):Int)+((lv (.sl tUs) x.2.2.1.2.2:Nat):Int)+((lv (.sl ti) x.2.2.2.2.1:Nat):Int)+((lv (.sl tFy) x.2.2.2.2.2.1:Nat):Int)),mkT (.sl tIb) x.2.2.2.2.2.2.2.1 (k+((lv (.sl tAS) x.1.1:Nat):Int)+((lv (.sl tLk) x.1.2:Nat):Int)+((lv (.sl tSg) x.2.1.1:Nat):Int)+((lv (.sl tSg) x.2.1.2:Nat):Int)+((lv (.sl tRs) x.2.2.1.2.1:Nat):Int)+((lv (.sl tUs) x.2.2.1.2.2:Nat):Int)+((lv (.sl ti) x.2.2.2.2.1:Nat):Int)+((lv (.sl tFy) x.2.2.2.2.2.1:Nat):Int)+((lv (.sl tFl) x.2.2.2.2.2.2.1:Nat):Int)),x.2.2.2.2.2.2.2.2) k=some (k+((lv (.sl tAS) x.1.1:Nat):Int)+((lv (.sl tLk) x.1.2:Nat):Int)+((lv (.sl tSg) x.2.1.1:Nat):Int)+((lv (.sl tSg) x.2.1.2:Nat):Int)+((lv (.sl tRs) x.2.2.1.2.1:Nat):Int)+((lv (.sl tUs) x.2.2.1.2.2:Nat):Int)+((lv (.sl ti) x.2.2.2.2.1:Nat):Int)+((lv (.sl tFy) x.2.2.2.2.2.1:Nat):Int)+((lv (.sl tFl) x.2.2.2.2.2.2.1:Nat):Int)+((lv (.sl tIb) x.2.2.2.2.2.2.2.1:Nat):Int)):=by
 have q0:=held_Topology (x:=x.1) (k:=k) h.1 (by omega) (by omega)
 have q1:=held_SegmentDatabase (x:=x.2.1) (k:=k+((lv (.sl tAS) x.1.1:Nat):Int)+((lv (.sl tLk) x.1.2:Nat):Int)) h.2.1 (by omega) (by omega)
 have q2:=held_Scheduler (x:=x.2.2.1) (k:=k+((lv (.sl tAS) x.1.1:Nat):Int)+((lv (.sl tLk) x.1.2:Nat):Int)+((lv (.sl tSg) x.2.1.1:Nat):Int)+((lv (.sl tSg) x.2.1.2:Nat):Int)) h.2.2.1 (by omega) (by omega)
 have q3:=held_IntS (l:=x.2.2.2.2.1) (k:=k+((lv (.sl tAS) x.1.1:Nat):Int)+((lv (.sl tLk) x.1.2:Nat):Int)+((lv (.sl tSg) x.2.1.1:Nat):Int)+((lv (.sl tSg) x.2.1.2:Nat):Int)+((lv (.sl tRs) x.2.2.1.2.1:Nat):Int)+((lv (.sl tUs) x.2.2.1.2.2:Nat):Int)) h.2.2.2.2.1 (by omega) (by omega)
 have q4:=held_PacketInFlightS (l:=x.2.2.2.2.2.1) (k:=k+((lv (.sl tAS) x.1.1:Nat):Int)+((lv (.sl tLk) x.1.2:Nat):Int)+((lv (.sl tSg) x.2.1.1:Nat):Int)+((lv (.sl tSg) x.2.1.2:Nat):Int)+((lv (.sl tRs) x.2.2.1.2.1:Nat):Int)+((lv (.sl tUs) x.2.2.1.2.2:Nat):Int)+((lv (.sl ti) x.2.2.2.2.1:Nat):Int)) h.2.2.2.2.2.1 (by omega) (by omega)
 have q5:=held_FlowS (l:=x.2.2.2.2.2.2.1) (k:=k+((lv (.sl tAS) x.1.1:Nat):Int)+((lv (.sl tLk) x.1.2:Nat):Int)+((lv (.sl tSg) x.2.1.1:Nat):Int)+((lv (.sl tSg) x.2.1.2:Nat):Int)+((lv (.sl tRs) x.2.2.1.2.1:Nat):Int)+((lv (.sl tUs) x.2.2.1.2.2:Nat):Int)+((lv (.sl ti) x.2.2.2.2.1:Nat):Int)+((lv (.sl tFy) x.2.2.2.2.2.1:Nat):Int)) h.2.2.2.2.2.2.1 (by omega) (by omega)
 have q6:=held_InboxS (l:=x.2.2.2.2.2.2.2.1) (k:=k+((lv (.sl tAS) x.1.1:Nat):Int)+((lv (.sl tLk) x.1.2:Nat):Int)+((lv (.sl tSg) x.2.1.1:Nat):Int)+((lv (.sl tSg) x.2.1.2:Nat):Int)+((lv (.sl tRs) x.2.2.1.2.1:Nat):Int)+((lv (.sl tUs) x.2.2.1.2.2:Nat):Int)+((lv (.sl ti) x.2.2.2.2.1:Nat):Int)+((lv (.sl tFy) x.2.2.2.2.2.1:Nat):Int)+((lv (.sl tFl) x.2.2.2.2.2.2.1:Nat):Int)) h.2.2.2.2.2.2.2.1 (by omega) (by omega)
 have d0:decide (k+((lv (.sl tAS) x.1.1:Nat):Int)+((lv (.sl tLk) x.1.2:Nat):Int)<0)=false:=by simp<;>omega
 have d1:decide (k+((lv (.sl tAS) x.1.1:Nat):Int)+((lv (.sl tLk) x.1.2:Nat):Int)+((lv (.sl tSg) x.2.1.1:Nat):Int)+((lv (.sl tSg) x.2.1.2:Nat):Int)<0)=false:=by simp<;>omega
 have d2:decide (k+((lv (.sl tAS) x.1.1:Nat):Int)+((lv (.sl tLk) x.1.2:Nat):Int)+((lv (.sl tSg) x.2.1.1:Nat):Int)+((lv (.sl tSg) x.2.1.2:Nat):Int)+((lv (.sl tRs) x.2.2.1.2.1:Nat):Int)+((lv (.sl tUs) x.2.2.1.2.2:Nat):Int)<0)=false:=by simp<;>omega
 have d3:decide (k+((lv (.sl tAS) x.1.1:Nat):Int)+((lv (.sl tLk) x.1.2:Nat):Int)+((lv (.sl tSg) x.2.1.1:Nat):Int)+((lv (.sl tSg) x.2.1.2:Nat):Int)+((lv (.sl tRs) x.2.2.1.2.1:Nat):Int)+((lv (.sl tUs) x.2.2.1.2.2:Nat):Int)+((lv (.sl ti) x.2.2.2.2.1:Nat):Int)<0)=false:=by simp<;>omega
 have d4:decide (k+((lv (.sl tAS) x.1.1:Nat):Int)+((lv (.sl tLk) x.1.2:Nat):Int)+((lv (.sl tSg) x.2.1.1:Nat):Int)+((lv (.sl tSg) x.2.1.2:Nat):Int)+((lv (.sl tRs) x.2.2.1.2.1:Nat):Int)+((lv (.sl tUs) x.2.2.1.2.2:Nat):Int)+((lv (.sl ti) x.2.2.2.2.1:Nat):Int)+((lv (.sl tFy) x.2.2.2.2.2.1:Nat):Int)<0)=false:=by simp<;>omega
 have d5:decide (k+((lv (.sl tAS) x.1.1:Nat):Int)+((lv (.sl tLk) x.1.2:Nat):Int)+((lv (.sl tSg) x.2.1.1:Nat):Int)+((lv (.sl tSg) x.2.1.2:Nat):Int)+((lv (.sl tRs) x.2.2.1.2.1:Nat):Int)+((lv (.sl tUs) x.2.2.1.2.2:Nat):Int)+((lv (.sl ti) x.2.2.2.2.1:Nat):Int)+((lv (.sl tFy) x.2.2.2.2.2.1:Nat):Int)+((lv (.sl tFl) x.2.2.2.2.2.2.1:Nat):Int)<0)=false:=by simp<;>omega
 have d6:decide (k+((lv (.sl tAS) x.1.1:Nat):Int)+((lv (.sl tLk) x.1.2:Nat):Int)+((lv (.sl tSg) x.2.1.1:Nat):Int)+((lv (.sl tSg) x.2.1.2:Nat):Int)+((lv (.sl tRs) x.2.2.1.2.1:Nat):Int)+((lv (.sl tUs) x.2.2.1.2.2:Nat):Int)+((lv (.sl ti) x.2.2.2.2.1:Nat):Int)+((lv (.sl tFy) x.2.2.2.2.2.1:Nat):Int)+((lv (.sl tFl) x.2.2.2.2.2.2.1:Nat):Int)+((lv (.sl tIb) x.2.2.2.2.2.2.2.1:Nat):Int)<0)=false:=by simp<;>omega
 unfold l_heldNetwork
 simp only [q0,q1,q2,q3,q4,q5,q6,d0,d1,d2,d3,d4,d5,d6,obind_some,peta,cond_false]

def inR (n a b:Int):Bool:=decide (a≤n)&&decide (n≤b)

theorem i_in (n a b:Int):i_IR n a b=some (inR n a b):=by
 unfold i_IR inR
 by_cases h:a≤n<;>simp [h]

theorem s_in (n a b:Int):s_l1In n a b=some (inR n a b):=by
 unfold s_l1In inR
 by_cases h:a≤n<;>simp [h]

theorem inR_iff {n a b:Int}:inR n a b=true↔a≤n∧n≤b:=by simp [inR]

theorem inR_not {n a b:Int}:inR n a b=false↔ ¬ (a≤n∧n≤b):=by rw [← inR_iff];simp

theorem i_max (a b:Int):i_Max a b=some (if b>a then b else a):=rfl

theorem s_max (a b:Int):s_Max a b=some (if b>a then b else a):=by
 unfold s_Max
 by_cases h:b>a<;>simp [h]

theorem i_min (a b:Int):i_Min a b=some (if b<a then b else a):=rfl

theorem s_min (a b:Int):s_Min a b=some (if b<a then b else a):=by
 unfold s_Min
 by_cases h:b<a<;>simp [h]

theorem i_copyB {b:List Int} (h:b.length≤68719476736):i_copyBytes b=some b:=by
 unfold i_copyBytes
 rw [apOk_le (by decide) (by simpa using h)];simp

theorem i_copyH {l:List (den tHop)} (h:l.length≤68719476736):i_copyHops l=some l:=by
 unfold i_copyHops
 rw [apOk_le (by decide) (by simpa using h)];simp

theorem i_copyV {l:List (den tRv)} (h:l.length≤68719476736):i_copyRevocations l=some l:=by
 unfold i_copyRevocations
 rw [apOk_le (by decide) (by simpa using h)];simp

theorem s_copyPt {p:den tPp} (h:SmB 68719476736 tPp p):s_l21Copy p=some p:=by
 unfold s_l21Copy
 rw [apOk_le (by decide) (by simpa using h.2.2.2.1)];simp

theorem i_copyP {p:den tPt} (h:SmB 68719476736 tPt p):i_copyPath p=some p:=by
 unfold i_copyPath
 rw [(loopF (fun k (a:List (den tPp))=>((k:Int),a)) ((0:Int),[]) [] p (fun _ x a=>a++[x]) List.length (fun _=>1) 68719476736 id rfl (Nat.le_trans h.1 (by decide)) (by rw [sum_one];simpa using h.1) (fun k x a hi hx hd hw hk hb=>by
  have e:=h.2 x (List.mem_of_getElem? hx)
  simp only [hd,hi,hw,cond_true,obind_some,i_copyH e.2.2.2.1,peta,apOk_le (b:=48) (by decide) hb]
  simp) (fun a=>by simp)).1,foldI_map (fun x=>x)]
 simp

theorem s_copyP {p:den tPt} (h:SmB 68719476736 tPt p):s_l22Copy p=some p:=by
 unfold s_l22Copy
 rw [(loopF (fun k (a:List (den tPp))=>((k:Int),a)) ((0:Int),[]) [] p (fun _ x a=>a++[x]) List.length (fun _=>1) 68719476736 id rfl (Nat.le_trans h.1 (by decide)) (by rw [sum_one];simpa using h.1) (fun k x a hi hx hd hw hk hb=>by
  have e:=h.2 x (List.mem_of_getElem? hx)
  simp only [hd,hi,hw,cond_true,obind_some,peta,s_copyPt e,apOk_le (b:=48) (by decide) hb]
  simp) (fun a=>by simp)).1,foldI_map (fun x=>x)]
 simp

theorem i_copyPs {l:List (den tPt)} (h:SmB 68719476736 (.sl tPt) l):i_copyPaths l=some l:=by
 unfold i_copyPaths
 rw [(loopF (fun k (a:List (den tPt))=>((k:Int),a)) ((0:Int),[]) [] l (fun _ x a=>a++[x]) List.length (fun _=>1) 68719476736 id rfl (Nat.le_trans h.1 (by decide)) (by rw [sum_one];simpa using h.1) (fun k x a hi hx hd hw hk hb=>by
  have e:=h.2 x (List.mem_of_getElem? hx)
  simp only [hd,hi,hw,cond_true,obind_some,i_copyP e,apOk_le (b:=24) (by decide) hb]
  simp) (fun a=>by simp)).1,foldI_map (fun x=>x)]
 simp

theorem s_copyPs {l:List (den tPt)} (h:SmB 68719476736 (.sl tPt) l):s_l24Copy l=some l:=by
 unfold s_l24Copy
 rw [(loopF (fun k (a:List (den tPt))=>((k:Int),a)) ((0:Int),[]) [] l (fun _ x a=>a++[x]) List.length (fun _=>1) 68719476736 id rfl (Nat.le_trans h.1 (by decide)) (by rw [sum_one];simpa using h.1) (fun k x a hi hx hd hw hk hb=>by
  have e:=h.2 x (List.mem_of_getElem? hx)
  simp only [hd,hi,hw,cond_true,obind_some,s_copyP e,apOk_le (b:=24) (by decide) hb]
  simp) (fun a=>by simp)).1,foldI_map (fun x=>x)]
 simp

theorem i_copyM {l:List (den tMs)} (h:SmB 68719476736 (.sl tMs) l):i_copyMessages l=some l:=by
 unfold i_copyMessages
 rw [(loopF (fun k (a:List (den tMs))=>((k:Int),a)) ((0:Int),[]) [] l (fun _ x a=>a++[x]) List.length (fun _=>1) 68719476736 id rfl (Nat.le_trans h.1 (by decide)) (by rw [sum_one];simpa using h.1) (fun k x a hi hx hd hw hk hb=>by
  have e:=h.2 x (List.mem_of_getElem? hx)
  simp only [hd,hi,hw,cond_true,obind_some,i_copyB e.1,apOk_le (b:=24) (by decide) hb]
  simp) (fun a=>by simp)).1,foldI_map (fun x=>x)]
 simp

theorem s_copyM {l:List (den tMs)} (h:SmB 68719476736 (.sl tMs) l):s_l35Texts l=some l:=by
 unfold s_l35Texts
 rw [(loopF (fun k (a:List (den tMs))=>((k:Int),a)) ((0:Int),[]) [] l (fun _ x a=>a++[x]) List.length (fun _=>1) 68719476736 id rfl (Nat.le_trans h.1 (by decide)) (by rw [sum_one];simpa using h.1) (fun k x a hi hx hd hw hk hb=>by
  have e:=h.2 x (List.mem_of_getElem? hx)
  simp only [hd,hi,hw,cond_true,obind_some,apOk_le (b:=1) (n:=([]:List Int).length) (by decide) (by simpa using e.1),apOk_le (b:=24) (by decide) hb]
  simp) (fun a=>by simp)).1,foldI_map (fun x=>x)]
 simp


def flowR (f:den tFl):Int×Int×Int×Int×Int×Int×(List (den tMs))×(List (den tPt))×(List (den tRv)):=(f.1,f.2.1,f.2.2.1,f.2.2.2.1,f.2.2.2.2.2.2.1,f.2.2.2.2.2.2.2.1,f.2.2.2.2.1,f.2.2.2.2.2.1,f.2.2.2.2.2.2.2.2)

theorem i_copyF {f:den tFl} (h:SmB 68719476736 tFl f):i_copyFlow f=some (flowR f):=by
 unfold i_copyFlow flowR
 simp only [i_copyM h.2.2.2.2.1,i_copyPs h.2.2.2.2.2.1,i_copyV h.2.2.2.2.2.2.2.2.1,obind_some]

theorem s_copyF {f:den tFl} (h:SmB 68719476736 tFl f):s_l35Copy f=some (flowR f):=by
 unfold s_l35Copy flowR
 simp only [s_copyM h.2.2.2.2.1,s_copyPs h.2.2.2.2.2.1,obind_some,apOk_le (b:=24) (n:=([]:List (den tRv)).length) (by decide) (by simpa using h.2.2.2.2.2.2.2.2.1),cond_true,List.nil_append]

theorem i_copyX {x:den tIb} (h:SmB 68719476736 tIb x):i_copyInbox x=some x:=by
 unfold i_copyInbox
 simp only [i_copyM h.2.2.2,obind_some,peta]

theorem s_copyX {x:den tIb} (h:SmB 68719476736 tIb x):s_l36Copy x=some x:=by
 unfold s_l36Copy
 simp only [s_copyM h.2.2.2,obind_some,peta]

def validV (x:den tRv):Bool:=inR x.1 0 7&&(inR x.2.1 1 6&&inR x.2.2 0 1000000)

theorem i_validV (x:den tRv):i_ValidRevocation x=some (validV x):=by
 unfold i_ValidRevocation validV
 simp only [i_in,obind_some]
 cases inR x.1 0 7<;>cases inR x.2.1 1 6<;>cases inR x.2.2 0 1000000<;>rfl

theorem s_validV (x:den tRv):s_ValidRevocation x=some (validV x):=by
 unfold s_ValidRevocation validV
 simp only [s_in,obind_some]
 cases inR x.1 0 7<;>cases inR x.2.1 1 6<;>cases inR x.2.2 0 1000000<;>rfl


theorem scanB {α S:Type} (p:Nat→α→Bool): ∀ (l:List α) (k:Nat) (ρ:S),scanI (fun k x=>if p k x then none else some ρ) k l=if (l.zipIdx k).all (fun x=>p x.2 x.1) then none else some ρ
 | [],_,_=>rfl
 | x::xs,k,ρ=>by
  simp only [scanI,List.zipIdx_cons,List.all_cons]
  rcases Bool.eq_false_or_eq_true (p k x) with h | h
  ·simp only [h,if_true,Bool.true_and];exact scanB p xs (k+1) ρ
  ·simp [h]

theorem zip_all {α:Type} (p:α→Bool): ∀ (l:List α) (k:Nat),(l.zipIdx k).all (fun x=>p x.1)=l.all p
 | [],_=>rfl
 | x::xs,k=>by simp [List.zipIdx_cons,zip_all p xs]

theorem scanA {α S:Type} (p:α→Bool) (l:List α) (ρ:S):scanI (fun _ x=>if p x then none else some ρ) 0 l=if l.all p then none else some ρ:=by
 rw [scanB (fun _ x=>p x),zip_all p]

def comes (x:den tIb) (p:den tPk):Bool:=p.1==1&&(p.2.1==x.2.1&&p.2.2.1==x.1)

theorem i_comes (x:den tIb) (p:den tPk):i_comesTo x p=some (comes x p):=by
 unfold i_comesTo comes
 cases p.1==1<;>cases p.2.1==x.2.1<;>rfl

theorem s_comes (x:den tIb) (p:den tPk):s_l36For x p=some (comes x p):=by
 unfold s_l36For comes
 cases p.1==1<;>cases p.2.1==x.2.1<;>rfl

def takes (x:den tIb) (p:den tPk):Bool:=comes x p&&(p.2.2.2.2.2.2.2.2.1==x.2.2.1&&decide (x.2.2.1<20))

def handD (x:den tIb) (p:den tPk):den tIb:=if takes x p then (x.1,x.2.1,wr (x.2.2.1+1),x.2.2.2++[p.2.2.2.2.2.2.2.2.2]) else x

theorem i_handD {x:den tIb} {p:den tPk} (hx:SmB 4294967296 tIb x) (hp:SmB 4294967296 tPk p):i_HandleData x p=some (handD x p):=by
 have hx':SmB 68719476736 tIb x:=hx.mono (by decide)
 have hp':=(hp.mono (C:=68719476736) (by decide)).2.2.2.2.2.2.2.2.2.1
 unfold i_HandleData handD takes
 have ha:=hx.2.2.2.1
 simp only [peta,i_copyX hx',i_comes,i_copyB hp',obind_some,apOk_le (b:=24) (n:=x.2.2.2.length) (m:=1) (by decide) (by omega),cond_true]
 cases comes x p<;>cases p.2.2.2.2.2.2.2.2.1==x.2.2.1<;>cases decide (x.2.2.1<20)<;>rfl

theorem s_handD {x:den tIb} {p:den tPk} (hx:SmB 4294967296 tIb x) (hp:SmB 4294967296 tPk p):s_HandleData x p=some (handD x p):=by
 have hx':SmB 68719476736 tIb x:=hx.mono (by decide)
 have hp':=(hp.mono (C:=68719476736) (by decide)).2.2.2.2.2.2.2.2.2.1
 unfold s_HandleData handD takes
 have ha:=hx.2.2.2.1
 simp only [peta,s_copyX hx',s_comes,obind_some,apOk_le (b:=1) (n:=([]:List Int).length) (by decide) (by simpa using hp'),apOk_le (b:=24) (n:=x.2.2.2.length) (m:=1) (by decide) (by omega),cond_true,List.nil_append]
 cases comes x p<;>cases p.2.2.2.2.2.2.2.2.1==x.2.2.1<;>cases decide (x.2.2.1<20)<;>rfl

theorem handD_tot (x:den tIb) (p:den tPk):tot (.sl tMs) (handD x p).2.2.2≤tot (.sl tMs) x.2.2.2+1+tot (.sl tb) p.2.2.2.2.2.2.2.2.2:=by
 unfold handD
 split
 ·rw [tot_app,tot_one]
  show _+(1+tot (.sl tb) _)≤_
  omega
 ·omega

def acks (f:den tFl) (p:den tPk):Bool:=p.1==2&&(p.2.1==f.2.1&&(p.2.2.1==f.1&&(p.2.2.2.2.2.2.2.2.1==f.2.2.2.1&&inR f.2.2.2.1 0 ((f.2.2.2.2.1.length:Int) - 1))))

def handA (f:den tFl) (p:den tPk):den tFl:=if acks f p then (f.1,f.2.1,f.2.2.1,wr (f.2.2.2.1+1),f.2.2.2.2.1,f.2.2.2.2.2.1,f.2.2.2.2.2.2.1,0,f.2.2.2.2.2.2.2.2) else f

theorem i_handA {f:den tFl} {p:den tPk} (hf:SmB 68719476736 tFl f):i_HandleAck f p=some (flowR (handA f p)):=by
 unfold i_HandleAck handA acks
 have e5:wr ((f.2.2.2.2.1.length:Int) - 1)=(f.2.2.2.2.1.length:Int) - 1:=wri (by have :=hf.2.2.2.2.1.1;omega) (by have :=hf.2.2.2.2.1.1;omega)
 simp only [peta,i_copyF hf,obind_some,i_in,e5]
 cases p.1==2<;>cases p.2.1==f.2.1<;>cases p.2.2.1==f.1<;>cases p.2.2.2.2.2.2.2.2.1==f.2.2.2.1<;>cases inR f.2.2.2.1 0 ((f.2.2.2.2.1.length:Int) - 1)<;>rfl

theorem s_handA {f:den tFl} {p:den tPk} (hf:SmB 68719476736 tFl f):s_HandleAck f p=some (flowR (handA f p)):=by
 unfold s_HandleAck handA acks
 have e5:wr ((f.2.2.2.2.1.length:Int) - 1)=(f.2.2.2.2.1.length:Int) - 1:=wri (by have :=hf.2.2.2.2.1.1;omega) (by have :=hf.2.2.2.2.1.1;omega)
 simp only [peta,s_copyF hf,obind_some,s_in,e5]
 cases p.1==2<;>cases p.2.1==f.2.1<;>cases p.2.2.1==f.1<;>cases p.2.2.2.2.2.2.2.2.1==f.2.2.2.1<;>cases inR f.2.2.2.1 0 ((f.2.2.2.2.1.length:Int) - 1)<;>rfl

def isRev (k:Int):Bool:=k==1||k==3

theorem i_isRev (k:Int):i_IsReversed k=some (isRev k):=by
 unfold i_IsReversed isRev
 cases k==1<;>rfl

theorem s_isRev (k:Int):s_IsReversed k=some (isRev k):=by
 unfold s_IsReversed isRev
 cases k==1<;>rfl

def pIn (p:den tPp) (h:den tHop):Int:=if isRev p.1 then h.2.2.1 else h.2.1

def pEg (p:den tPp) (h:den tHop):Int:=if isRev p.1 then h.2.1 else h.2.2.1

theorem wr_len {n:Nat} (h:n≤68719476736):wr ((n:Int) - 1)=(n:Int) - 1:=wri (by omega) (by omega)

theorem inR_idx {k n:Nat} (h:k<n):inR (k:Int) 0 ((n:Int) - 1)=true:=by rw [inR_iff];omega

theorem i_pIn {p:den tPp} {k:Nat} {h:den tHop} (hk:p.2.2.2[k]? =some h) (hl:p.2.2.2.length≤68719476736):i_PartIngress p (k:Int)=some (pIn p h):=by
 have hlt:k<p.2.2.2.length:=(List.getElem?_eq_some_iff.1 hk).1
 unfold i_PartIngress pIn
 simp only [i_in,wr_len hl,inR_idx hlt,obind_some,Bool.not_true,cond_false,i_isRev,idx_nat,hk]
 cases isRev p.1<;>rfl

theorem s_pIn {p:den tPp} {k:Nat} {h:den tHop} (hk:p.2.2.2[k]? =some h) (hl:p.2.2.2.length≤68719476736):s_PartIngress p (k:Int)=some (pIn p h):=by
 have hlt:k<p.2.2.2.length:=(List.getElem?_eq_some_iff.1 hk).1
 unfold s_PartIngress pIn
 simp only [s_in,wr_len hl,inR_idx hlt,obind_some,Bool.not_true,cond_false,s_isRev,idx_nat,hk]
 cases isRev p.1<;>rfl

theorem i_pEg {p:den tPp} {k:Nat} {h:den tHop} (hk:p.2.2.2[k]? =some h) (hl:p.2.2.2.length≤68719476736):i_PartEgress p (k:Int)=some (pEg p h):=by
 have hlt:k<p.2.2.2.length:=(List.getElem?_eq_some_iff.1 hk).1
 unfold i_PartEgress pEg
 simp only [i_in,wr_len hl,inR_idx hlt,obind_some,Bool.not_true,cond_false,i_isRev,idx_nat,hk]
 cases isRev p.1<;>rfl

theorem s_pEg {p:den tPp} {k:Nat} {h:den tHop} (hk:p.2.2.2[k]? =some h) (hl:p.2.2.2.length≤68719476736):s_PartEgress p (k:Int)=some (pEg p h):=by
 have hlt:k<p.2.2.2.length:=(List.getElem?_eq_some_iff.1 hk).1
 unfold s_PartEgress pEg
 simp only [s_in,wr_len hl,inR_idx hlt,obind_some,Bool.not_true,cond_false,s_isRev,idx_nat,hk]
 cases isRev p.1<;>rfl

def addS (nf:Bool) (p:den tPp) (i:Nat) (h:den tHop) (out:List (den tStep)):List (den tStep):=
 match out.getLast? with
 | some z=>if nf&&(decide (i=0)&&z.1==h.1) then out.dropLast++[(h.1,z.2.1,pEg p h)] else out++[(h.1,pIn p h,pEg p h)]
 | none=>out++[(h.1,pIn p h,pEg p h)]

theorem addS_len (nf:Bool) (p:den tPp) (i:Nat) (h:den tHop) (out:List (den tStep)):(addS nf p i h out).length≤out.length+1:=by
 unfold addS
 split
 ·split
  ·simp only [List.length_append,List.length_dropLast,List.length_singleton];omega
  ·simp
 ·simp

def partS (nf:Bool) (p:den tPp) (a:List (den tStep)):List (den tStep):=foldI (fun i h b=>addS nf p i h b) 0 p.2.2.2 a

def steps0 (p:den tPt):List (den tStep):=foldI (fun k x a=>partS (decide (0<k)) x a) 0 p []

def endS (l:List (den tStep)):List (den tStep):=
 match l with
 | []=>[]
 | x::xs=>let m:=(x.1,0,x.2.2)::xs
  match m.getLast? with
  | some y=>m.dropLast++[(y.1,y.2.1,0)]
  | none=>[]

def steps (p:den tPt):List (den tStep):=endS (steps0 p)

theorem endS_len (l:List (den tStep)):(endS l).length=l.length:=by
 unfold endS
 split
 ·rfl
 ·rename_i x xs
  simp only
  rw [List.getLast?_eq_some_getLast (by simp)]
  simp

theorem hops_sum (p:den tPt):(p.map fun x=>x.2.2.2.length).sum≤tot tPt p:=by
 show _≤tot (.sl tPp) p
 rw [← tot_sum]
 induction p with
 | nil=>exact Nat.le_refl _
 | cons x p ih=>
  simp only [List.map_cons,List.sum_cons]
  have h1:x.2.2.2.length≤tot tPp x:=by
   show _≤tot ti x.1+(tot ti x.2.1+(tot ti x.2.2.1+tot (.sl tHop) x.2.2.2))
   rw [tot_flatL rfl];omega
  omega

theorem wr_pos {n:Nat} (h:n≤68719476736) (h0:0<n):wr ((n:Int) - 1)=((n - 1:Nat):Int):=by
 rw [wr_len h];omega

theorem wr_last {α:Type} {m:List α} {z:α} (h:(m++[z]).length≤68719476736):wr (((m++[z]).length:Int) - 1)=(m.length:Int):=by
 rw [wr_pos h (by simp)];simp

theorem partS_len (nf:Bool) (p:den tPp) (a:List (den tStep)):(partS nf p a).length≤a.length+p.2.2.2.length:=by
 have :=foldI_m (m:=List.length) (cost:=fun _=>1) (fun i h b=>addS_len nf p i h b) p.2.2.2 0 a
 rw [sum_one] at this
 exact this

theorem steps0_len (p:den tPt):(steps0 p).length≤tot tPt p:=by
 have :=foldI_m (m:=List.length) (cost:=fun x:den tPp=>x.2.2.2.length) (fun k x a=>partS_len (decide (0<k)) x a) p 0 []
 have h2:=hops_sum p
 have h3:(steps0 p).length≤0+(p.map fun x=>x.2.2.2.length).sum:=this
 omega

theorem steps_len (p:den tPt):(steps p).length≤tot tPt p:=by
 unfold steps;rw [endS_len];exact steps0_len p

theorem dec_pos (k:Nat):decide ((k:Int)>0)=decide (0<k):=by rw [Bool.eq_iff_iff];simp

theorem dec_zero (i:Nat):((i:Int)==0)=decide (i=0):=by rw [Bool.eq_iff_iff];simp

theorem addS_nil (nf:Bool) (p:den tPp) (i:Nat) (h:den tHop):addS nf p i h []=[(h.1,pIn p h,pEg p h)]:=rfl

theorem addS_last (nf:Bool) (p:den tPp) (i:Nat) (h:den tHop) (m:List (den tStep)) (z:den tStep):addS nf p i h (m++[z])=if nf&&(decide (i=0)&&z.1==h.1) then m++[(h.1,z.2.1,pEg p h)] else (m++[z])++[(h.1,pIn p h,pEg p h)]:=by
 unfold addS
 rw [List.getLast?_concat,List.dropLast_concat]

theorem endS_some {m:List (den tStep)} {x z:den tStep} {xs:List (den tStep)} (h:(x.1,(0:Int),x.2.2)::xs=m++[z]):endS (x::xs)=m++[(z.1,z.2.1,0)]:=by
 unfold endS
 simp only
 rw [h,List.getLast?_concat,List.dropLast_concat]

theorem i_steps {p:den tPt} (h:tot tPt p≤34359738368):i_PathSteps p=some (steps p):=by
 have hs:=hops_sum p
 have sm:SmB 34359738368 tPt p:=sm_of_tot h
 have hl:=steps0_len p
 unfold i_PathSteps
 rw [loopG (fun k (a:List (den tStep))=>((k:Int),a)) ((0:Int),[]) [] p (fun k x a=>partS (decide (0<k)) x a) List.length (fun x=>x.2.2.2.length) 34359738368 id rfl (Nat.le_trans sm.1 (by decide)) (by simp only [List.length_nil];omega) (fun k x a=>partS_len _ x a) (fun k x a hi hx hd hw hk hb=>by
  have hxl:x.2.2.2.length≤34359738368:=(sm.2 x (List.mem_of_getElem? hx)).2.2.2.1
  simp only [hd,hi,hw,cond_true,obind_some]
  rw [loopG (fun i (b:List (den tStep))=>((i:Int),b)) ((0:Int),a) a x.2.2.2 (fun i h b=>addS (decide (0<k)) x i h b) List.length (fun _=>1) 34359738368 id rfl (Nat.le_trans hxl (by decide)) (by rw [sum_one];exact hb) (fun i h b=>addS_len _ x i h b) (fun i g b hi2 hg hd2 hw2 hk2 hb2=>by
   have hl2:x.2.2.2.length≤68719476736:=by omega
   simp only [hd2,hi2,hw2,cond_true,obind_some,peta,i_pIn hg hl2,i_pEg hg hl2,dec_pos,dec_zero,apOk_le (b:=24) (n:=b.length) (m:=1) (by decide) (by omega)]
   rcases nil_or_concat b with rfl | ⟨m,z,rfl⟩
   ·rw [addS_nil]
    cases decide (0<k)<;>cases decide (i=0)<;>rfl
   ·rw [addS_last,wr_last (by omega)]
    simp only [pos_nat,pos_nat',lt_last,get_last,cond_true,Int.toNat_natCast,obind_some,set_last]
    cases decide (0<k)<;>cases decide (i=0)<;>cases hz:z.1==g.1<;>simp [hz]
    simpa using hz) (fun b=>by simp)]
  rfl) (fun a=>by simp)]
 simp only [obind_some,id]
 rw [show foldI (fun k x a=>partS (decide (0<k)) x a) 0 p []=steps0 p from rfl]
 show _=some (endS (steps0 p))
 generalize steps0 p=l at hl
 cases l with
 | nil=>rfl
 | cons x xs=>
  have e1:decide ((((x::xs).length:Nat):Int)>0)=true:=by simp
  have e2:decide ((0:Int)<(((x::xs).length:Nat):Int))=true:=by simp
  have e3:(0:Int).toNat=0:=rfl
  have e4:decide ((0:Int)≤0)=true:=rfl
  simp only [e1,e2,e3,e4,cond_true,List.getElem?_cons_zero,obind_some,List.set_cons_zero]
  rcases nil_or_concat ((x.1,(0:Int),x.2.2)::xs) with h0 | ⟨m,z,hm⟩
  ·cases h0
  ·have hlen:((x.1,(0:Int),x.2.2)::xs).length=(x::xs).length:=rfl
   rw [endS_some hm]
   rw [hm] at hlen ⊢
   rw [wr_last (by omega)]
   simp only [pos_nat,lt_last,get_last,cond_true,Int.toNat_natCast,obind_some,set_last]

theorem s_steps {p:den tPt} (h:tot tPt p≤34359738368):s_PathSteps p=some (steps p):=by
 have hs:=hops_sum p
 have sm:SmB 34359738368 tPt p:=sm_of_tot h
 have hl:=steps0_len p
 unfold s_PathSteps
 rw [loopG (fun k (a:List (den tStep))=>((k:Int),a)) ((0:Int),[]) [] p (fun k x a=>partS (decide (0<k)) x a) List.length (fun x=>x.2.2.2.length) 34359738368 id rfl (Nat.le_trans sm.1 (by decide)) (by simp only [List.length_nil];omega) (fun k x a=>partS_len _ x a) (fun k x a hi hx hd hw hk hb=>by
  have hxl:x.2.2.2.length≤34359738368:=(sm.2 x (List.mem_of_getElem? hx)).2.2.2.1
  simp only [hd,hi,hw,cond_true,obind_some]
  rw [loopG (fun i (b:List (den tStep))=>((i:Int),b)) ((0:Int),a) a x.2.2.2 (fun i h b=>addS (decide (0<k)) x i h b) List.length (fun _=>1) 34359738368 id rfl (Nat.le_trans hxl (by decide)) (by rw [sum_one];exact hb) (fun i h b=>addS_len _ x i h b) (fun i g b hi2 hg hd2 hw2 hk2 hb2=>by
   have hl2:x.2.2.2.length≤68719476736:=by omega
   simp only [hd2,hi2,hw2,cond_true,obind_some,peta,s_pIn hg hl2,s_pEg hg hl2,both_self,dup_self,dup3_self,dup4_self,dup5_self,dec_pos,dec_zero]
   rcases nil_or_concat b with rfl | ⟨m,z,rfl⟩
   ·rw [addS_nil]
    cases decide (0<k)<;>cases decide (i=0)<;>rfl
   ·rw [addS_last,wr_last (by omega)]
    have e1:decide (((m++[z]).length:Int)>0)=true:=by simp
    have e2:slOk (0:Int) (m.length:Int) ((m++[z]).length:Int)=true:=by simp [slOk];omega
    have e3:(m++[z]).take m.length=m:=by simp
    have e4:=apOk_le (b:=24) (n:=m.length) (m:=1) (by decide) (by simp at hb2;omega)
    have e5:=apOk_le (b:=24) (n:=m.length+1) (m:=1) (by decide) (by simp at hb2;omega)
    simp only [pos_nat,e1,e2,e3,lt_last,get_last,cond_true,Int.toNat_natCast,obind_some]
    cases decide (0<k)<;>cases decide (i=0)<;>cases hz:z.1==g.1<;>simp [hz,e4,e5]) (fun b=>by simp [hi])]
  rfl) (fun a=>by simp)]
 simp only [obind_some,id]
 rw [show foldI (fun k x a=>partS (decide (0<k)) x a) 0 p []=steps0 p from rfl]
 show _=some (endS (steps0 p))
 generalize steps0 p=l at hl
 cases l with
 | nil=>rfl
 | cons x xs=>
  have e1:decide ((((x::xs).length:Nat):Int)>0)=true:=by simp
  have e2:decide ((0:Int)<(((x::xs).length:Nat):Int))=true:=by simp
  have e3:(0:Int).toNat=0:=rfl
  have e4:decide ((0:Int)≤0)=true:=rfl
  have e5:decide (0<(x::xs).length)=true:=by simp
  simp only [e1,e2,e3,e4,e5,cond_true,List.getElem?_cons_zero,obind_some,List.set_cons_zero]
  rcases nil_or_concat ((x.1,(0:Int),x.2.2)::xs) with h0 | ⟨m,z,hm⟩
  ·cases h0
  ·have hlen:((x.1,(0:Int),x.2.2)::xs).length=(x::xs).length:=rfl
   rw [endS_some hm]
   rw [hm] at hlen ⊢
   rw [wr_last (by omega)]
   have e6:decide (m.length<(m++[z]).length)=true:=by simp
   simp only [pos_nat,lt_last,get_last,e6,cond_true,Int.toNat_natCast,obind_some,set_last]

def ends (p:den tPt):Int×Int:=
 match (steps p).head?,(steps p).getLast? with
 | some x,some y=>(x.1,y.1)
 | _,_=>(-1,-1)

theorem i_ends {p:den tPt} (h:tot tPt p≤34359738368):i_Endpoints p=some (ends p):=by
 unfold i_Endpoints ends
 have hl:=steps_len p
 rw [i_steps h,obind_some]
 generalize steps p=l at hl
 rcases nil_or_concat l with rfl | ⟨m,z,rfl⟩
 ·rfl
 ·rw [wr_last (by omega)]
  have e1:(((m++[z]).length:Int)==0)=false:=by simp<;>omega
  have e2:decide ((0:Int)<((m++[z]).length:Int))=true:=by simp<;>omega
  have e3:decide ((0:Int)≤0)=true:=rfl
  rw [e1,e2,e3,pos_nat,lt_last,List.getLast?_concat]
  cases m with
  | nil=>rfl
  | cons x m=>simp

theorem s_ends {p:den tPt} (h:tot tPt p≤34359738368):s_Endpoints p=some (ends p):=by
 unfold s_Endpoints ends
 have hl:=steps_len p
 rw [s_steps h,obind_some]
 generalize steps p=l at hl
 rcases nil_or_concat l with rfl | ⟨m,z,rfl⟩
 ·rfl
 ·rw [wr_last (by omega)]
  have e1:(((m++[z]).length:Int)==0)=false:=by simp<;>omega
  have e2:decide ((0:Int)<((m++[z]).length:Int))=true:=by simp<;>omega
  have e3:decide ((0:Int)≤0)=true:=rfl
  rw [e1,e2,e3,pos_nat,lt_last,List.getLast?_concat]
  cases m with
  | nil=>rfl
  | cons x m=>simp


def pkR (p:den tPk):Int×Int×Int×Int×Int×Int×Int×Int×(List (den tPp))×(List Int):=(p.1,p.2.1,p.2.2.1,p.2.2.2.2.1,p.2.2.2.2.2.1,p.2.2.2.2.2.2.1,p.2.2.2.2.2.2.2.1,p.2.2.2.2.2.2.2.2.1,p.2.2.2.1,p.2.2.2.2.2.2.2.2.2)

def beta0 (p:den tPt):Int:=match p with
 | []=>0
 | x::_=>x.2.2.1

def newPk (kind:Int) (p:den tPt) (res seq:Int) (pay:List Int):den tPk:=(kind,(ends p).1,(ends p).2,p,0,0,beta0 p,res,seq,pay)

theorem i_newPk {kind res seq:Int} {p:den tPt} {pay:List Int} (h:tot tPt p≤34359738368) (hp:pay.length≤68719476736):i_NewPacket kind p res seq pay=some (pkR (newPk kind p res seq pay)):=by
 unfold i_NewPacket
 rw [i_copyP ((sm_of_tot h).mono (by decide)),i_copyB hp,i_ends h]
 simp only [obind_some]
 cases p with
 | nil=>rfl
 | cons x p=>
  have e1:decide (((x::p).length:Int)>0)=true:=by simp
  rw [e1];rfl

theorem s_newPk {kind res seq:Int} {p:den tPt} {pay:List Int} (h:tot tPt p≤34359738368) (hp:pay.length≤68719476736):s_NewPacket kind p res seq pay=some (pkR (newPk kind p res seq pay)):=by
 unfold s_NewPacket
 rw [s_copyP ((sm_of_tot h).mono (by decide)),s_ends h,apOk_le (b:=1) (n:=([]:List Int).length) (by decide) (by simpa using hp)]
 simp only [obind_some,cond_true,List.nil_append]
 cases p with
 | nil=>rfl
 | cons x p=>
  have e1:decide (((x::p).length:Int)>0)=true:=by simp
  rw [e1];rfl

def revK (k:Int):Int:=if k=1 then 4 else if k=4 then 1 else if k=2 then 3 else if k=3 then 2 else k

theorem i_revK (k:Int):i_ReverseKind k=some (revK k):=by
 unfold i_ReverseKind revK
 by_cases h1:k=1
 ·subst h1;rfl
 by_cases h2:k=4
 ·subst h2;rfl
 by_cases h3:k=2
 ·subst h3;rfl
 by_cases h4:k=3
 ·subst h4;rfl
 have b1:(k==1)=false:=by simpa using h1
 have b2:(k==4)=false:=by simpa using h2
 have b3:(k==2)=false:=by simpa using h3
 have b4:(k==3)=false:=by simpa using h4
 rw [b1,b2,b3,b4,if_neg h1,if_neg h2,if_neg h3,if_neg h4];rfl

theorem s_revK (k:Int):s_ReverseKind k=some (revK k):=i_revK k

def resid (n:Int):Bool:=inR n 0 2147483646

theorem i_resid (n:Int):i_isResidue n=some (resid n):=by unfold i_isResidue resid;rw [i_in];rfl

theorem s_resid (n:Int):s_l3Ok n=some (resid n):=by unfold s_l3Ok resid;rw [s_in];rfl

def addM (b s:Int):Int:=if resid b&&resid s then Int.tmod (wr (b+s)) 2147483647 else 0

def subM (b s:Int):Int:=if resid b&&resid s then Int.tmod (wr ((wr (b - s))+2147483647)) 2147483647 else 0

theorem i_addM (b s:Int):i_AddMod b s=some (addM b s):=by
 unfold i_AddMod addM
 simp only [i_resid,obind_some]
 cases resid b<;>cases resid s<;>rfl

theorem s_addM (b s:Int):s_AddMod b s=some (addM b s):=by
 unfold s_AddMod addM
 simp only [s_resid,obind_some]
 cases resid b<;>cases resid s<;>rfl

theorem i_subM (b s:Int):i_SubMod b s=some (subM b s):=by
 unfold i_SubMod subM
 simp only [i_resid,obind_some]
 cases resid b<;>cases resid s<;>rfl

theorem s_subM (b s:Int):s_SubMod b s=some (subM b s):=by
 unfold s_SubMod subM
 simp only [s_resid,obind_some]
 cases resid b<;>cases resid s<;>rfl

def betaStep (k:Int) (b:Int) (h:den tHop):Int:=if isRev k then subM b h.2.2.2.2 else addM b h.2.2.2.2

def betaA (p:den tPp) (n:Nat):Int:=(p.2.2.2.take n).foldl (betaStep p.1) p.2.2.1

theorem i_betaA {p:den tPp} {n:Nat} (hn:n≤p.2.2.2.length) (hl:p.2.2.2.length≤68719476736):i_BetaAfter p (n:Int)=some (betaA p n):=by
 unfold i_BetaAfter betaA
 have e1:inR (n:Int) 0 (p.2.2.2.length:Int)=true:=by rw [inR_iff];omega
 have e2:slOk (0:Int) (n:Int) (p.2.2.2.length:Int)=true:=by simp [slOk];omega
 rw [i_in,e1,obind_some,e2,cut_take]
 have hlen:(p.2.2.2.take n).length≤4611686018427387904:=by rw [List.length_take];omega
 rw [loopG (fun k (b:Int)=>(b,(k:Int))) (p.2.2.1,(0:Int)) p.2.2.1 (p.2.2.2.take n) (fun _ h b=>betaStep p.1 b h) (fun _=>0) (fun _=>0) 0 id rfl hlen (by rw [sum_nil];exact Nat.le_refl _) (fun _ _ _=>Nat.le_refl _) (fun k x b hi hx hd hw hk hb=>by
  simp only [hd,hi,hw,cond_true,obind_some,i_isRev,i_subM,i_addM,betaStep]
  cases isRev p.1<;>rfl) (fun b=>by simp),foldI_foldl (fun b h=>betaStep p.1 b h)]
 rfl

theorem s_betaA {p:den tPp} {n:Nat} (hn:n≤p.2.2.2.length) (hl:p.2.2.2.length≤68719476736):s_BetaAfter p (n:Int)=some (betaA p n):=by
 unfold s_BetaAfter betaA
 have e1:inR (n:Int) 0 (p.2.2.2.length:Int)=true:=by rw [inR_iff];omega
 have e3:(p.2.2.2.take n).length=n:=by rw [List.length_take];omega
 rw [s_in,e1,obind_some]
 rw [loopG (fun k (b:Int)=>(b,(k:Int))) (p.2.2.1,(0:Int)) p.2.2.1 (p.2.2.2.take n) (fun _ h b=>betaStep p.1 b h) (fun _=>0) (fun _=>0) 0 id rfl (by rw [e3];omega) (by rw [sum_nil];exact Nat.le_refl _) (fun _ _ _=>Nat.le_refl _) (fun k x b hi hx hd hw hk hb=>by
  have hx':p.2.2.2[k]? =some x:=by rw [List.getElem?_take] at hx;split at hx;exact hx;cases hx
  rw [e3] at hd
  simp only [hd,hw,cond_true,obind_some,idx_nat,hx',s_isRev,s_subM,s_addM,betaStep]
  cases isRev p.1<;>rfl) (fun b=>by rw [e3];simp),foldI_foldl (fun b h=>betaStep p.1 b h)]
 rfl

def revPt (p:den tPp):den tPp:=(revK p.1,p.2.1,betaA p p.2.2.2.length,p.2.2.2.reverse)

theorem i_revH {l:List (den tHop)} (hl:l.length≤68719476736):i_reversedHops l=some l.reverse:=by
 unfold i_reversedHops
 have e:wr ((l.length:Int) - 1)=(l.length:Int) - 1:=wr_len hl
 rw [e,loopR (fun k (a:List (den tHop))=>(k,a)) ((l.length:Int) - 1,[]) [] l (fun x a=>a++[x]) List.length (fun _=>1) 68719476736 id rfl (by omega) (by rw [sum_one];simpa using hl) (fun x a=>by simp) (fun k x a hi hx hd hw hk hb=>by
  simp only [hd,hi,hw,cond_true,obind_some,peta,apOk_le (b:=40) (n:=a.length) (m:=1) (by decide) hb]) (fun a=>by simp),foldr_map (fun x=>x)]
 simp

theorem i_revPt {p:den tPp} (hl:p.2.2.2.length≤68719476736):i_ReversePart p=some (revPt p):=by
 unfold i_ReversePart revPt
 simp only [i_revK,peta,i_betaA (Nat.le_refl _) hl,i_revH hl,obind_some]

theorem s_revPt {p:den tPp} (hl:p.2.2.2.length≤68719476736):s_ReversePart p=some (revPt p):=by
 unfold s_ReversePart revPt
 simp only [s_revK,peta,s_betaA (Nat.le_refl _) hl,both_self,dup_self,dup3_self,dup4_self,dup5_self,obind_some]
 have e:wr ((p.2.2.2.length:Int) - 1)=(p.2.2.2.length:Int) - 1:=wr_len hl
 rw [e,loopR (fun k (a:List (den tHop))=>(k,revK p.1,p.2.1,betaA p p.2.2.2.length,a)) ((p.2.2.2.length:Int) - 1,revK p.1,p.2.1,betaA p p.2.2.2.length,[]) [] p.2.2.2 (fun x a=>a++[x]) List.length (fun _=>1) 68719476736 (fun a=>(revK p.1,p.2.1,betaA p p.2.2.2.length,a)) rfl (by omega) (by rw [sum_one];simpa using hl) (fun x a=>by simp) (fun k x a hi hx hd hw hk hb=>by
  simp only [hd,hi,hw,cond_true,obind_some,peta,apOk_le (b:=40) (n:=a.length) (m:=1) (by decide) hb]) (fun a=>by simp),foldr_map (fun x=>x)]
 simp

def revP (p:den tPt):den tPt:=p.reverse.map revPt

theorem i_revP {p:den tPt} (h:SmB 68719476736 tPt p):i_ReversePath p=some (revP p):=by
 unfold i_ReversePath revP
 have e:wr ((p.length:Int) - 1)=(p.length:Int) - 1:=wr_len h.1
 rw [e,loopR (fun k (a:List (den tPp))=>(k,a)) ((p.length:Int) - 1,[]) [] p (fun x a=>a++[revPt x]) List.length (fun _=>1) 68719476736 id rfl (by have :=h.1;omega) (by rw [sum_one];simpa using h.1) (fun x a=>by simp) (fun k x a hi hx hd hw hk hb=>by
  have hxl:=(h.2 x (List.mem_of_getElem? hx)).2.2.2.1
  simp only [hd,hi,hw,cond_true,obind_some,peta,i_revPt hxl,apOk_le (b:=48) (n:=a.length) (m:=1) (by decide) hb]) (fun a=>by simp),foldr_map revPt]
 simp

theorem s_revP {p:den tPt} (h:SmB 68719476736 tPt p):s_ReversePath p=some (revP p):=by
 unfold s_ReversePath revP
 have e:wr ((p.length:Int) - 1)=(p.length:Int) - 1:=wr_len h.1
 rw [e,loopR (fun k (a:List (den tPp))=>(k,a)) ((p.length:Int) - 1,[]) [] p (fun x a=>a++[revPt x]) List.length (fun _=>1) 68719476736 id rfl (by have :=h.1;omega) (by rw [sum_one];simpa using h.1) (fun x a=>by simp) (fun k x a hi hx hd hw hk hb=>by
  have hxl:=(h.2 x (List.mem_of_getElem? hx)).2.2.2.1
  simp only [hd,hi,hw,cond_true,obind_some,peta,s_revPt hxl,apOk_le (b:=48) (n:=a.length) (m:=1) (by decide) hb]) (fun a=>by simp),foldr_map revPt]
 simp

theorem revPt_tot (p:den tPp):tot tPp (revPt p)=tot tPp p:=by
 show tot ti _+(tot ti _+(tot ti _+tot (.sl tHop) p.2.2.2.reverse))=tot ti _+(tot ti _+(tot ti _+tot (.sl tHop) p.2.2.2))
 rw [tot_rev];rfl

theorem tot_map_eq {t:Ty} (g:den t→den t) (hg: ∀ x,tot t (g x)=tot t x): ∀ l:List (den t),tot (.sl t) (l.map g)=tot (.sl t) l
 | []=>rfl
 | x::l=>by rw [List.map_cons,tot_cons,tot_cons,hg,tot_map_eq g hg l]

theorem revP_tot (p:den tPt):tot tPt (revP p)=tot tPt p:=by
 show tot (.sl tPp) (p.reverse.map revPt)=tot (.sl tPp) p
 rw [tot_map_eq revPt revPt_tot,tot_rev]

def reply (pk:den tPk) (kind seq:Int) (pay:List Int):den tPk:=newPk kind (revP pk.2.2.2.1) pk.2.2.2.2.2.2.2.1 seq pay

theorem i_reply {pk:den tPk} {kind seq:Int} {pay:List Int} (h:tot tPt pk.2.2.2.1≤34359738368) (hp:pay.length≤68719476736):i_Reply pk kind seq pay=some (pkR (reply pk kind seq pay)):=by
 unfold i_Reply reply
 rw [i_revP ((sm_of_tot h).mono (by decide)),obind_some,i_newPk (by rw [revP_tot];exact h) hp]
 rfl

theorem s_reply {pk:den tPk} {kind seq:Int} {pay:List Int} (h:tot tPt pk.2.2.2.1≤34359738368) (hp:pay.length≤68719476736):s_Reply pk kind seq pay=some (pkR (reply pk kind seq pay)):=by
 unfold s_Reply reply
 rw [s_revP ((sm_of_tot h).mono (by decide)),obind_some,s_newPk (by rw [revP_tot];exact h) hp]
 rfl

def pk0:den tPk:=(0,0,0,[],0,0,0,0,0,[])


def pkB (p:den tPk) (b:Bool):Int×Int×Int×Int×Int×Int×Int×Int×Bool×(List (den tPp))×(List Int):=(p.1,p.2.1,p.2.2.1,p.2.2.2.2.1,p.2.2.2.2.2.1,p.2.2.2.2.2.2.1,p.2.2.2.2.2.2.2.1,p.2.2.2.2.2.2.2.2.1,b,p.2.2.2.1,p.2.2.2.2.2.2.2.2.2)

def ackB (x:den tIb) (p:den tPk):Bool:=comes x p&& !decide (p.2.2.2.2.2.2.2.2.1≥x.2.2.1)

def mkAck (x:den tIb) (p:den tPk):den tPk:=if ackB x p then reply p 2 p.2.2.2.2.2.2.2.2.1 [] else pk0

theorem i_mkAck {x:den tIb} {p:den tPk} (h:tot tPt p.2.2.2.1≤34359738368):i_MakeAck x p=some (pkB (mkAck x p) (ackB x p)):=by
 unfold i_MakeAck mkAck ackB
 simp only [peta,i_comes,obind_some,i_reply (pay:=[]) h (by simp)]
 cases comes x p<;>cases decide (p.2.2.2.2.2.2.2.2.1≥x.2.2.1)<;>rfl

theorem s_mkAck {x:den tIb} {p:den tPk} (h:tot tPt p.2.2.2.1≤34359738368):s_MakeAck x p=some (pkB (mkAck x p) (ackB x p)):=by
 unfold s_MakeAck mkAck ackB
 simp only [peta,s_comes,obind_some,s_reply (pay:=[]) h (by simp)]
 cases comes x p<;>cases decide (p.2.2.2.2.2.2.2.2.1≥x.2.2.1)<;>rfl

def nextP (f:den tFl):Int:=if wr (f.2.2.2.2.2.2.1+1)≥(f.2.2.2.2.2.1.length:Int) then 0 else wr (f.2.2.2.2.2.2.1+1)

def setCW (f:den tFl) (c w:Int):den tFl:=(f.1,f.2.1,f.2.2.1,f.2.2.2.1,f.2.2.2.2.1,f.2.2.2.2.2.1,c,w,f.2.2.2.2.2.2.2.2)

theorem i_nextP (f:den tFl):i_nextPath f=some (nextP f):=by
 unfold i_nextPath nextP
 by_cases h:wr (f.2.2.2.2.2.2.1+1)≥(f.2.2.2.2.2.1.length:Int)
 ·rw [decide_eq_true h,if_pos h];rfl
 ·rw [decide_eq_false h,if_neg h];rfl

theorem turn_key {c:Int} {n:Nat} (h0:0≤c) (h1:c≤(n:Int) - 1) (hn:n≤68719476736):inR c 0 (wr ((n:Int) - 2))= !decide (wr (c+1)≥(n:Int)):=by
 have e1:wr ((n:Int) - 2)=(n:Int) - 2:=wri (by omega) (by omega)
 have e2:wr (c+1)=c+1:=wri (by omega) (by omega)
 rw [e1,e2,Bool.eq_iff_iff,inR_iff]
 simp
 omega

theorem s_turn {f:den tFl} (h:SmB 68719476736 tFl f) (hs:inR f.2.2.2.2.2.2.1 0 ((f.2.2.2.2.2.1.length:Int) - 1)=true):s_l35Turn f=some (flowR (setCW f (nextP f) f.2.2.2.2.2.2.2.1)):=by
 unfold s_l35Turn nextP
 have hl:=h.2.2.2.2.2.1.1
 rw [inR_iff] at hs
 simp only [peta,s_copyF h,s_in,turn_key hs.1 hs.2 hl,obind_some,flowR]
 by_cases hc:wr (f.2.2.2.2.2.2.1+1)≥(f.2.2.2.2.2.1.length:Int)
 ·rw [decide_eq_true hc,if_pos hc];rfl
 ·rw [decide_eq_false hc,if_neg hc];rfl

def hasHop (p:den tPk):Bool:=inR p.2.2.2.2.1 0 ((p.2.2.2.1.length:Int) - 1)&&inR p.2.2.2.2.2.1 0 (((((p.2.2.2.1[p.2.2.2.2.1.toNat]?).getD (0,0,0,[])).2.2.2.length:Nat):Int) - 1)

def curAS (p:den tPk):Int:=if hasHop p then ((((p.2.2.2.1[p.2.2.2.2.1.toNat]?).getD (0,0,0,[])).2.2.2[p.2.2.2.2.2.1.toNat]?).getD (0,0,0,0,0)).1 else -1

theorem hasHop_iff {p:den tPk} (h:hasHop p=true): ∃ (i j:Nat) (x:den tPp) (y:den tHop),p.2.2.2.2.1=(i:Int)∧p.2.2.2.2.2.1=(j:Int)∧p.2.2.2.1[i]? =some x∧x.2.2.2[j]? =some y∧curAS p=y.1:=by
 have h':=h
 unfold hasHop at h'
 simp only [Bool.and_eq_true,inR_iff] at h'
 obtain ⟨⟨h1,h2⟩,h3,h4⟩:=h'
 obtain ⟨x,hx⟩:=get_some h1 h2
 rw [hx,Option.getD_some] at h4
 obtain ⟨y,hy⟩:=get_some h3 h4
 refine ⟨p.2.2.2.2.1.toNat,p.2.2.2.2.2.1.toNat,x,y,(Int.toNat_of_nonneg h1).symm,(Int.toNat_of_nonneg h3).symm,hx,hy,?_⟩
 unfold curAS
 rw [h,if_pos rfl,hx,Option.getD_some,hy,Option.getD_some]

theorem curAS_no {p:den tPk} (c:hasHop p=false):curAS p= -1:=by unfold curAS;rw [c];rfl

theorem i_hop {p:den tPk} (h:SmB 68719476736 tPk p):i_hasHop p=some (hasHop p):=by
 unfold i_hasHop hasHop
 have l1:=h.2.2.2.1.1
 rw [i_in,wr_len l1,obind_some]
 cases c1:inR p.2.2.2.2.1 0 ((p.2.2.2.1.length:Int) - 1) with
 | false=>rfl
 | true=>
  rw [inR_iff] at c1
  obtain ⟨x,hx⟩:=get_some c1.1 c1.2
  rw [idx_of c1.1 hx,hx]
  have l2:=(h.2.2.2.1.2 _ (List.mem_of_getElem? hx)).2.2.2.1
  simp only [cond_true,obind_some,i_in,wr_len l2,Option.getD_some,Bool.true_and]

theorem i_curAS {p:den tPk} (h:SmB 68719476736 tPk p):i_CurrentAS p=some (curAS p):=by
 unfold i_CurrentAS
 simp only [peta,i_hop h,obind_some]
 cases c:hasHop p with
 | false=>rw [curAS_no c];rfl
 | true=>
  obtain ⟨i,j,x,y,h1,h2,h3,h4,h5⟩:=hasHop_iff c
  rw [h1,h2,h5]
  simp only [Bool.not_true,cond_false,idx_nat,h3,h4,obind_some]

theorem s_curAS {p:den tPk} (h:SmB 68719476736 tPk p):s_CurrentAS p=some (curAS p):=by
 unfold s_CurrentAS
 have l1:=h.2.2.2.1.1
 rw [s_in,wr_len l1,obind_some]
 cases c1:inR p.2.2.2.2.1 0 ((p.2.2.2.1.length:Int) - 1) with
 | false=>rw [curAS_no (by unfold hasHop;rw [c1];rfl)];rfl
 | true=>
  have c1':=c1
  rw [inR_iff] at c1'
  obtain ⟨x,hx⟩:=get_some c1'.1 c1'.2
  rw [idx_of c1'.1 hx]
  have l2:=(h.2.2.2.1.2 _ (List.mem_of_getElem? hx)).2.2.2.1
  simp only [Bool.not_true,cond_false,obind_some,s_in,wr_len l2]
  cases c2:inR p.2.2.2.2.2.1 0 ((x.2.2.2.length:Int) - 1) with
  | false=>rw [curAS_no (by unfold hasHop;rw [c1,hx,Option.getD_some,c2];rfl)];rfl
  | true=>
   have c:hasHop p=true:=by unfold hasHop;rw [c1,hx,Option.getD_some,c2];rfl
   rw [inR_iff] at c2
   obtain ⟨y,hy⟩:=get_some c2.1 c2.2
   rw [idx_of c2.1 hy]
   unfold curAS
   rw [c,if_pos rfl,hx,Option.getD_some,hy,Option.getD_some]
   rfl

def truncAt (p:den tPt) (i j:Nat):den tPt:=
 match p[i]? with
 | some x=>p.take i++[(x.1,x.2.1,x.2.2.1,x.2.2.2.take (j+1))]
 | none=>[]

def truncP (p:den tPk):den tPt:=if curAS p<0 then [] else truncAt p.2.2.2.1 p.2.2.2.2.1.toNat p.2.2.2.2.2.1.toNat

theorem i_truncP {p:den tPk} (h:SmB 68719476736 tPk p):i_TruncatePath p=some (truncP p):=by
 unfold i_TruncatePath truncP
 simp only [peta,i_curAS h,obind_some]
 by_cases hc:curAS p<0
 ·rw [decide_eq_true hc,cond_true,if_pos hc]
 ·rw [decide_eq_false hc,cond_false,if_neg hc]
  cases c:hasHop p with
  | false=>rw [curAS_no c] at hc;exact absurd (by decide) hc
  | true=>
   obtain ⟨i,j,x,y,h1,h2,h3,h4,h5⟩:=hasHop_iff c
   have l1:=h.2.2.2.1.1
   have l2:=(h.2.2.2.1.2 _ (List.mem_of_getElem? h3)).2.2.2.1
   have hi:=(List.getElem?_eq_some_iff.1 h3).1
   have hj:=(List.getElem?_eq_some_iff.1 h4).1
   have e1:wr ((i:Int)+1)=((i+1:Nat):Int):=by have :wr ((i:Int)+1)=(i:Int)+1:=wri (by omega) (by omega);rw [this];rfl
   have e2:wr ((j:Int)+1)=((j+1:Nat):Int):=by have :wr ((j:Int)+1)=(j:Int)+1:=wri (by omega) (by omega);rw [this];rfl
   have e3:slOk (0:Int) ((i+1:Nat):Int) (p.2.2.2.1.length:Int)=true:=by simp [slOk];omega
   have e4:slOk (0:Int) ((j+1:Nat):Int) (x.2.2.2.length:Int)=true:=by simp [slOk];omega
   have e5:p.2.2.2.1.take (i+1)=p.2.2.2.1.take i++[x]:=take_succ h3
   have e6:(p.2.2.2.1.take i).length=i:=by rw [List.length_take];omega
   rw [h1,h2,e1,e2,i_copyP h.2.2.2.1,obind_some,e3,cond_true]
   simp only [Int.toNat_natCast,e5]
   have e7:decide ((i:Int)<((p.2.2.2.1.take i++[x]).length:Int))=true:=by simp;omega
   have e8:(p.2.2.2.1.take i++[x])[i]? =some x:=by rw [List.getElem?_append_right (by omega),e6];simp
   have e9: ∀ z,(p.2.2.2.1.take i++[x]).set i z=p.2.2.2.1.take i++[z]:=fun z=>by rw [List.set_append_right _ _ (by omega),e6];simp
   simp only [pos_nat,e7,e8,e4,e9,cond_true,obind_some,cut_take]
   unfold truncAt
   rw [h3]

theorem s_truncP {p:den tPk} (h:SmB 68719476736 tPk p):s_TruncatePath p=some (truncP p):=by
 unfold s_TruncatePath truncP
 simp only [peta,s_curAS h,obind_some]
 by_cases hc:curAS p<0
 ·rw [decide_eq_true hc,cond_true,if_pos hc]
 ·rw [decide_eq_false hc,cond_false,if_neg hc]
  cases c:hasHop p with
  | false=>rw [curAS_no c] at hc;exact absurd (by decide) hc
  | true=>
   obtain ⟨i,j,x,y,h1,h2,h3,h4,h5⟩:=hasHop_iff c
   have l1:=h.2.2.2.1.1
   have hi:=(List.getElem?_eq_some_iff.1 h3).1
   have hj:=(List.getElem?_eq_some_iff.1 h4).1
   have l2:=(h.2.2.2.1.2 _ (List.mem_of_getElem? h3)).2.2.2.1
   have e2:wr ((j:Int)+1)=((j+1:Nat):Int):=by have :wr ((j:Int)+1)=(j:Int)+1:=wri (by omega) (by omega);rw [this];rfl
   have e4:slOk (0:Int) ((j+1:Nat):Int) (x.2.2.2.length:Int)=true:=by simp [slOk];omega
   have e5:p.2.2.2.1.take (i+1)=p.2.2.2.1.take i++[x]:=take_succ h3
   have e6:(p.2.2.2.1.take (i+1)).length=i+1:=by rw [List.length_take];omega
   rw [h1,h2,e2]
   let cutX:Nat→den tPp→den tPp:=fun k z=>if k=i then (z.1,z.2.1,z.2.2.1,z.2.2.2.take (j+1)) else z
   rw [loopG (fun k (a:List (den tPp))=>((k:Int),a)) ((0:Int),[]) [] (p.2.2.2.1.take (i+1)) (fun k z a=>a++[cutX k z]) List.length (fun _=>1) 68719476736 id rfl (by omega) (by rw [sum_one];simp;omega) (fun k z a=>by simp) (fun k z a hz hx hd hw hk hb=>by
    rw [e6] at hd hk
    have hz':=(get_take hx).1
    have hd':decide ((k:Int)≤(i:Int))=true:=by simp;omega
    have sz:=h.2.2.2.1.2 _ (List.mem_of_getElem? hz')
    simp only [hd',hw,cond_true,obind_some,idx_nat,hz',peta,s_copyPt sz]
    by_cases hki:k=i
    ·subst hki
     rw [h3] at hz'
     injection hz' with hz'
     subst hz'
     have e7:((k:Int)==(k:Int))=true:=by simp
     simp only [e7,cond_true,e4,obind_some,cut_take,apOk_le (b:=48) (n:=a.length) (m:=1) (by decide) hb,cutX,if_true]
    ·have e7:((k:Int)==(i:Int))=false:=by simp;omega
     simp only [e7,cond_false,obind_some,apOk_le (b:=48) (n:=a.length) (m:=1) (by decide) hb,cond_true,cutX,if_neg hki]) (fun a=>by
    have e10:decide (((i+1:Nat):Int)≤(i:Int))=false:=by simp<;>omega
    rw [e6];simp only [e10,cond_false];rfl)]
   have key: ∀ (l:List (den tPp)) (k:Nat) (a:List (den tPp)),k+l.length≤i→foldI (fun k z a=>a++[cutX k z]) k l a=a++l:=by
    intro l
    induction l with
    | nil=>intro k a _;simp [foldI]
    | cons z l ih=>
     intro k a hk
     simp only [List.length_cons] at hk
     simp only [foldI]
     rw [ih (k+1) _ (by omega)]
     have :cutX k z=z:=if_neg (by omega)
     rw [this];simp
   have fa: ∀ (l:List (den tPp)) (z:den tPp) (k:Nat) (a:List (den tPp)),foldI (fun k z a=>a++[cutX k z]) k (l++[z]) a=foldI (fun k z a=>a++[cutX k z]) k l a++[cutX (k+l.length) z]:=by
    intro l
    induction l with
    | nil=>intro z k a;rfl
    | cons y l ih=>
     intro z k a
     simp only [List.cons_append,foldI,List.length_cons]
     rw [ih]
     congr 3
     omega
   have e8:(p.2.2.2.1.take i).length=i:=by rw [List.length_take];omega
   rw [e5,fa,key _ 0 [] (by omega),e8]
   have :cutX (0+i) x=(x.1,x.2.1,x.2.2.1,x.2.2.2.take (j+1)):=if_pos (by omega)
   rw [this]
   unfold truncAt
   rw [Int.toNat_natCast,Int.toNat_natCast,h3]
   rfl

theorem truncAt_tot (p:den tPt) (i j:Nat):tot tPt (truncAt p i j)≤tot tPt p:=by
 unfold truncAt
 cases h:p[i]? with
 | none=>exact Nat.zero_le _
 | some x=>
  have h1:tot tPt (p.take (i+1))≤tot tPt p:=tot_take (t:=tPp) p (i+1)
  rw [take_succ h] at h1
  have h2:tot (.sl tPp) (p.take i++[x])≤tot (.sl tPp) p:=h1
  show tot (.sl tPp) (p.take i++[(x.1,x.2.1,x.2.2.1,x.2.2.2.take (j+1))])≤tot (.sl tPp) p
  rw [tot_app,tot_one] at h2 ⊢
  have h3:tot tPp (x.1,x.2.1,x.2.2.1,x.2.2.2.take (j+1))≤tot tPp x:=by
   have :=tot_take (t:=tHop) x.2.2.2 (j+1)
   show 0+(0+(0+tot (.sl tHop) (x.2.2.2.take (j+1))))≤0+(0+(0+tot (.sl tHop) x.2.2.2))
   omega
  omega

theorem truncP_tot (p:den tPk):tot tPt (truncP p)≤tot tPt p.2.2.2.1:=by
 unfold truncP
 split
 ·exact Nat.zero_le _
 ·exact truncAt_tot _ _ _

def vi:Nat→Nat→List Int
 | 0,n=>[(n:Int)]
 | k+1,n=>if n<128 then [(n:Int)] else (((n % 128+128:Nat):Int))::vi k (n / 128)

theorem vi_len: ∀ (k n:Nat),(vi k n).length≤k+1
 | 0,n=>by simp [vi]
 | k+1,n=>by
  unfold vi
  split
  ·simp
  ·have :=vi_len k (n / 128);simp only [List.length_cons];omega

theorem u8_wrap {n:Nat} (h:n<256):IntKind.wrap .u8 (n:Int)=(n:Int):=by
 simp only [IntKind.wrap,IntKind.signed,IntKind.bits]
 simp
 omega

theorem i_vi: ∀ (k n:Nat) (out:List Int),n<128 ^ (k+1)→out.length+k+1≤68719476736→n<9223372036854775808→(@Option.bind (Int×(List Int)) ((List Int)) (@loopM (Int×(List Int)) (Int×(List Int)) (fun (s4:Int×(List Int))=>cond (decide (s4.1≥(128:Int))) (cond (apOk 1 s4.2.length 1) (some (Sum.inl (wr (Int.tdiv s4.1 (128:Int)),s4.2++[IntKind.wrap .u8 (wr ((Int.tmod s4.1 (128:Int))+(128:Int)))]))) none) (some (Sum.inr (s4.1,s4.2)))) ((n:Int),out)) fun (s5:Int×(List Int))=>cond (apOk 1 s5.2.length 1) (some (s5.2++[IntKind.wrap .u8 s5.1])) none)=some (out++vi k n)
 | 0,n,out,hn,ho,hb=>by
  have hn:n<128:=by simpa using hn
  have e1:decide ((n:Int)≥128)=false:=by simp;omega
  rw [loopM_done (r:=((n:Int),out)) (by simp only [e1,cond_false]),obind_some]
  simp only [apOk_le (b:=1) (n:=out.length) (m:=1) (by decide) (by omega),cond_true,u8_wrap (n:=n) (by omega),vi]
 | k+1,n,out,hn,ho,hb=>by
  by_cases h:n<128
  ·have e1:decide ((n:Int)≥128)=false:=by simp;omega
   rw [loopM_done (r:=((n:Int),out)) (by simp only [e1,cond_false]),obind_some]
   simp only [apOk_le (b:=1) (n:=out.length) (m:=1) (by decide) (by omega),cond_true,u8_wrap (n:=n) (by omega),vi,if_pos h]
  ·have e1:decide ((n:Int)≥128)=true:=by simp;omega
   have hd:n / 128<128 ^ (k+1):=by rw [Nat.div_lt_iff_lt_mul (by decide)];rw [Nat.pow_succ] at hn;exact hn
   have e2:Int.tdiv (n:Int) 128=((n / 128:Nat):Int):=rfl
   have e3:Int.tmod (n:Int) 128=((n % 128:Nat):Int):=rfl
   have e4:wr (((n % 128:Nat):Int)+128)=((n % 128+128:Nat):Int):=by
    have :wr (((n % 128:Nat):Int)+128)=((n % 128:Nat):Int)+128:=wri (by omega) (by omega)
    rw [this];rfl
   have e5:wr ((n / 128:Nat):Int)=((n / 128:Nat):Int):=wri (by omega) (by omega)
   rw [loopM_next (s':=(((n / 128:Nat):Int),out++[((n % 128+128:Nat):Int)])) (by
    simp only [e1,cond_true,apOk_le (b:=1) (n:=out.length) (m:=1) (by decide) (by omega),e2,e3,e4,e5,u8_wrap (n:=n % 128+128) (by omega)])]
   rw [i_vi k (n / 128) _ hd (by simp;omega) (by omega)]
   simp only [vi,if_neg h,List.append_assoc,List.singleton_append]

theorem bAnd_127 {n:Nat} (h:n<9223372036854775808):bAnd .i64 (n:Int) 127=((n % 128:Nat):Int):=by
 have e:(BitVec.ofInt 64 (n:Int) &&& BitVec.ofInt 64 127).toNat=n % 128:=by
  rw [BitVec.toNat_and]
  have e1:(BitVec.ofInt 64 (n:Int)).toNat=n:=by simp;omega
  have e2:(BitVec.ofInt 64 127).toNat=2 ^ 7 - 1:=by decide
  rw [e1,e2,Nat.and_two_pow_sub_one_eq_mod]
 unfold bAnd
 show IntKind.i64.wrap (((BitVec.ofInt 64 (n:Int) &&& BitVec.ofInt 64 127).toNat:Nat):Int)=_
 rw [e]
 exact wri (by omega) (by omega)

theorem bOr_128 {n:Nat} (h:n<128):bOr .i64 (n:Int) 128=((n+128:Nat):Int):=by
 have e:(BitVec.ofInt 64 (n:Int) ||| BitVec.ofInt 64 128).toNat=n+128:=by
  rw [BitVec.toNat_or]
  have e1:(BitVec.ofInt 64 (n:Int)).toNat=n:=by simp;omega
  have e2:(BitVec.ofInt 64 128).toNat=128:=by decide
  rw [e1,e2,Nat.or_comm]
  have :=Nat.two_pow_add_eq_or_of_lt (i:=7) (b:=n) h 1
  simp only [Nat.mul_one] at this
  rw [← this];omega
 unfold bOr
 show IntKind.i64.wrap (((BitVec.ofInt 64 (n:Int) ||| BitVec.ofInt 64 128).toNat:Nat):Int)=_
 rw [e]
 exact wri (by omega) (by omega)

theorem shr_7 (n:Nat):shr .i64 (n:Int) 7=((n / 128:Nat):Int):=by
 unfold shr
 show Int.fdiv (n:Int) (2 ^ 7)=_
 rw [Int.fdiv_eq_ediv_of_nonneg _ (by decide)]
 rfl

theorem s_vi: ∀ (k n:Nat) (out:List Int),n<128 ^ (k+1)→out.length+k+1≤68719476736→n<9223372036854775808→(@Option.bind (Int×(List Int)) ((List Int)) (@loopM (Int×(List Int)) (Int×(List Int)) (fun (s3:Int×(List Int))=>cond (decide (s3.1>(127:Int))) (cond (apOk 1 s3.2.length 1) (some (Sum.inl (shr .i64 s3.1 (7:Int),s3.2++[IntKind.wrap .u8 (bOr .i64 (bAnd .i64 s3.1 (127:Int)) (128:Int))]))) none) (some (Sum.inr (s3.1,s3.2)))) ((n:Int),out)) fun (s4:Int×(List Int))=>cond (apOk 1 s4.2.length 1) (some (s4.2++[IntKind.wrap .u8 s4.1])) none)=some (out++vi k n)
 | 0,n,out,hn,ho,hb=>by
  have hn:n<128:=by simpa using hn
  have e1:decide ((n:Int)>127)=false:=by simp;omega
  rw [loopM_done (r:=((n:Int),out)) (by simp only [e1,cond_false]),obind_some]
  simp only [apOk_le (b:=1) (n:=out.length) (m:=1) (by decide) (by omega),cond_true,u8_wrap (n:=n) (by omega),vi]
 | k+1,n,out,hn,ho,hb=>by
  by_cases h:n<128
  ·have e1:decide ((n:Int)>127)=false:=by simp;omega
   rw [loopM_done (r:=((n:Int),out)) (by simp only [e1,cond_false]),obind_some]
   simp only [apOk_le (b:=1) (n:=out.length) (m:=1) (by decide) (by omega),cond_true,u8_wrap (n:=n) (by omega),vi,if_pos h]
  ·have e1:decide ((n:Int)>127)=true:=by simp;omega
   have hd:n / 128<128 ^ (k+1):=by rw [Nat.div_lt_iff_lt_mul (by decide)];rw [Nat.pow_succ] at hn;exact hn
   rw [loopM_next (s':=(((n / 128:Nat):Int),out++[((n % 128+128:Nat):Int)])) (by
    simp only [e1,cond_true,apOk_le (b:=1) (n:=out.length) (m:=1) (by decide) (by omega),shr_7,bAnd_127 hb,bOr_128 (n:=n % 128) (by omega),u8_wrap (n:=n % 128+128) (by omega)])]
   rw [s_vi k (n / 128) _ hd (by simp;omega) (by omega)]
   simp only [vi,if_neg h,List.append_assoc,List.singleton_append]

def encI (b:List Int) (n:Int):List Int:=if inR n 0 1000000000000 then b++vi 5 n.toNat else b

theorem encI_len (b:List Int) (n:Int):(encI b n).length≤b.length+6:=by
 unfold encI
 split
 ·have :=vi_len 5 n.toNat;rw [List.length_append];omega
 ·omega

theorem i_encI {b:List Int} {n:Int} (h:b.length+6≤68719476736):i_AppendVarint b n=some (encI b n):=by
 unfold i_AppendVarint encI
 rw [i_copyB (by omega),i_in]
 cases c:inR n 0 1000000000000 with
 | false=>rfl
 | true=>
  rw [inR_iff] at c
  obtain ⟨m,rfl⟩:=Int.eq_ofNat_of_zero_le c.1
  have :=i_vi 5 m b (by simp only [show (128:Nat) ^ (5+1)=4398046511104 from by decide];omega) (by omega) (by omega)
  exact this

theorem s_encI {b:List Int} {n:Int} (h:b.length+6≤68719476736):s_AppendVarint b n=some (encI b n):=by
 unfold s_AppendVarint encI
 rw [apOk_le (b:=1) (n:=([]:List Int).length) (by decide) (by simp;omega),s_in]
 cases c:inR n 0 1000000000000 with
 | false=>rfl
 | true=>
  rw [inR_iff] at c
  obtain ⟨m,rfl⟩:=Int.eq_ofNat_of_zero_le c.1
  have :=s_vi 5 m b (by simp only [show (128:Nat) ^ (5+1)=4398046511104 from by decide];omega) (by omega) (by omega)
  exact this

def encL (b l:List Int):List Int:=l.foldl encI b

theorem encL_len (b l:List Int):(encL b l).length≤b.length+6 * l.length:=by
 unfold encL
 induction l generalizing b with
 | nil=>simp
 | cons x l ih=>
  have h1:=ih (encI b x)
  have h2:=encI_len b x
  simp only [List.foldl_cons,List.length_cons]
  omega

theorem sum_six {α:Type} (l:List α):(l.map fun _=>6).sum=6 * l.length:=by
 induction l with
 | nil=>rfl
 | cons x l ih=>rw [List.map_cons,List.sum_cons,ih,List.length_cons];omega

theorem i_encL {b l:List Int} (h:b.length+6 * l.length≤68719476736):i_appendInts b l=some (encL b l):=by
 unfold i_appendInts encL
 rw [loopG (fun k (a:List Int)=>(a,(k:Int))) (b,(0:Int)) b l (fun _ x a=>encI a x) List.length (fun _=>6) 68719476736 id rfl (by omega) (by rw [sum_six];exact h) (fun _ x a=>encI_len a x) (fun k x a hi hx hd hw hk hb=>by
  simp only [hd,hi,hw,cond_true,obind_some,i_encI (b:=a) (n:=x) hb]) (fun a=>by simp),foldI_foldl encI]
 rfl

theorem i_encInts {l:List Int} (h:6 * l.length≤68719476736):i_EncodeInts l=some (encL [] l):=by
 unfold i_EncodeInts
 rw [i_encL (by simpa using h)];rfl

theorem s_encInts {l:List Int} (h:6 * l.length≤68719476736):s_EncodeInts l=some (encL [] l):=by
 unfold s_EncodeInts encL
 rw [loopG (fun k (a:List Int)=>((k:Int),a)) ((0:Int),[]) [] l (fun _ x a=>encI a x) List.length (fun _=>6) 68719476736 id rfl (by omega) (by rw [sum_six];simpa using h) (fun _ x a=>encI_len a x) (fun k x a hi hx hd hw hk hb=>by
  simp only [hd,hi,hw,cond_true,obind_some,s_encI (b:=a) (n:=x) hb]) (fun a=>by simp),foldI_foldl encI]
 rfl

def encV (x:den tRv):List Int:=if validV x then encL [] [x.1,x.2.1,x.2.2] else []

theorem encV_len (x:den tRv):(encV x).length≤18:=by
 unfold encV
 split
 ·exact encL_len [] [x.1,x.2.1,x.2.2]
 ·simp

theorem i_encV (x:den tRv):i_EncodeRevocation x=some (encV x):=by
 unfold i_EncodeRevocation encV
 rw [i_encInts (l:=[x.1,x.2.1,x.2.2]) (by simp)]
 simp only [peta,i_validV,obind_some]
 cases validV x<;>rfl

theorem s_encV (x:den tRv):s_EncodeRevocation x=some (encV x):=by
 unfold s_EncodeRevocation encV
 rw [s_encInts (l:=[x.1,x.2.1,x.2.2]) (by simp)]
 simp only [peta,s_validV,obind_some]
 cases validV x<;>rfl


def noteP (r now d:Int) (p:den tPk):den tPk:=newPk 3 (revP (truncP p)) p.2.2.2.2.2.2.2.1 p.2.2.2.2.2.2.2.2.1 (encV (r,d,if 1000000<wr (now+10) then 1000000 else wr (now+10)))

theorem i_noteP {t:den tTo} {r now d:Int} {p:den tPk} (h:tot tPk p≤34359738368):i_MakeRevocation t r now d p=some (pkR (noteP r now d p)):=by
 have h1:tot tPt p.2.2.2.1≤34359738368:=tot_l (tot_r (tot_r (tot_r h)))
 have h2:=truncP_tot p
 have sm:SmB 68719476736 tPk p:=(sm_of_tot h).mono (by decide)
 have h3:=encV_len (r,d,if 1000000<wr (now+10) then 1000000 else wr (now+10))
 unfold i_MakeRevocation noteP
 simp only [peta,i_min,obind_some,i_truncP sm]
 rw [i_revP ((sm_of_tot (Nat.le_trans h2 h1)).mono (by decide)),obind_some,i_encV,obind_some,i_newPk (by rw [revP_tot];omega) (by omega)]
 rfl

theorem s_noteP {t:den tTo} {r now d:Int} {p:den tPk} (h:tot tPk p≤34359738368):s_MakeRevocation t r now d p=some (pkR (noteP r now d p)):=by
 have h1:tot tPt p.2.2.2.1≤34359738368:=tot_l (tot_r (tot_r (tot_r h)))
 have h2:=truncP_tot p
 have sm:SmB 68719476736 tPk p:=(sm_of_tot h).mono (by decide)
 have h3:=encV_len (r,d,if 1000000<wr (now+10) then 1000000 else wr (now+10))
 unfold s_MakeRevocation noteP
 simp only [peta,s_min,obind_some,s_truncP sm]
 rw [s_revP ((sm_of_tot (Nat.le_trans h2 h1)).mono (by decide)),obind_some,s_encV,obind_some,s_newPk (by rw [revP_tot];omega) (by omega)]
 rfl

theorem newPk_tot {kind res seq:Int} {p:den tPt} {pay:List Int}:tot tPk (newPk kind p res seq pay)=tot tPt p+tot (.sl tb) pay:=by
 show 0+(0+(0+(tot tPt p+(0+(0+(0+(0+(0+tot (.sl tb) pay))))))))=_
 omega

theorem pk_path {p:den tPk} {N:Nat} (h:tot tPk p≤N):tot (.sl tPp) p.2.2.2.1≤N∧tot (.sl tb) p.2.2.2.2.2.2.2.2.2≤N:=
 ⟨tot_l (tot_r (tot_r (tot_r h))),tot_r (tot_r (tot_r (tot_r (tot_r (tot_r (tot_r (tot_r (tot_r h))))))))⟩

theorem mkAck_tot (x:den tIb) (p:den tPk):tot tPk (mkAck x p)≤tot tPk p:=by
 unfold mkAck
 split
 ·unfold reply
  rw [newPk_tot,revP_tot]
  have h:=(pk_path (Nat.le_refl (tot tPk p))).1
  show tot (.sl tPp) p.2.2.2.1+0≤_
  omega
 ·exact Nat.zero_le _

theorem noteP_tot (r now d:Int) (p:den tPk):tot tPk (noteP r now d p)≤tot tPk p+18:=by
 unfold noteP
 rw [newPk_tot,revP_tot]
 have h1:=truncP_tot p
 have h2:=(pk_path (Nat.le_refl (tot tPk p))).1
 have h2:tot tPt p.2.2.2.1≤tot tPk p:=h2
 have h3:=encV_len (r,d,if 1000000<wr (now+10) then 1000000 else wr (now+10))
 have e:tot (.sl tb) (encV (r,d,if 1000000<wr (now+10) then 1000000 else wr (now+10)))=(encV (r,d,if 1000000<wr (now+10) then 1000000 else wr (now+10))).length:=tot_flatL rfl
 rw [e]
 omega

def rvGo (b:List Int) (p:Nat):Nat→Nat→Nat→Int×Int×Bool
 | 0,_,_=>(0,0,false)
 | f+1,k,n=>match b[p+k]? with
  | none=>(0,0,false)
  | some x=>
   if x.toNat<128 then (if (decide (x.toNat=0)&&decide (0<k))||decide (1000000000000<n+x.toNat % 128 * 2 ^ (7 * k)) then (0,0,false) else (((n+x.toNat % 128 * 2 ^ (7 * k):Nat):Int),((p+k+1:Nat):Int),true))
   else rvGo b p f (k+1) (n+x.toNat % 128 * 2 ^ (7 * k))

theorem pow7_le {k:Nat} (h:k<6):2 ^ (7 * k)≤34359738368:=Nat.le_trans (Nat.pow_le_pow_right (by decide) (show 7 * k≤35 by omega)) (by decide)

theorem pow7_next {n c k:Nat} (h:n<2 ^ (7 * k)) (hc:c<128):n+c * 2 ^ (7 * k)<2 ^ (7 * (k+1)):=by
 have e:2 ^ (7 * (k+1))=128 * 2 ^ (7 * k):=by rw [show 7 * (k+1)=7 * k+7 by omega,Nat.pow_add];omega
 have :c * 2 ^ (7 * k)≤127 * 2 ^ (7 * k):=Nat.mul_le_mul_right _ (by omega)
 omega

theorem mul7_le {c k:Nat} (hk:k<6) (hc:c<128):c * 2 ^ (7 * k)≤4398046511104:=Nat.le_trans (Nat.mul_le_mul (show c≤128 by omega) (pow7_le hk)) (by decide)

theorem rv_loop {S:Type} (b:List Int) (p:Nat) (hb: ∀ x∈b,0≤x∧x≤255) (enc:Nat→Nat→S) {step:S→Option (S⊕(Unit⊕(Int×Int×Bool)))}
  (h0: ∀ n,step (enc 6 n)=some (.inr (.inl ())))
  (h1: ∀ k n,k<6→b[p+k]? =none→step (enc k n)=some (.inr (.inl ()))∨step (enc k n)=some (.inr (.inr (0,0,false))))
  (h2: ∀ k n (m:Nat),k<6→n<2 ^ (7 * k)→m≤255→b[p+k]? =some (m:Int)→step (enc k n)=some (if m<128 then .inr (.inr (if (decide (m=0)&&decide (0<k))||decide (1000000000000<n+m % 128 * 2 ^ (7 * k)) then (0,0,false) else (((n+m % 128 * 2 ^ (7 * k):Nat):Int),((p+k+1:Nat):Int),true))) else .inl (enc (k+1) (n+m % 128 * 2 ^ (7 * k))))):
  ∀ f k n,f+k=6→n<2 ^ (7 * k)→ @Option.bind (Unit⊕(Int×Int×Bool)) (Int×Int×Bool) (loopM step (enc k n)) (fun z=>Sum.elim (fun _=>some ((0:Int),(0:Int),false)) some z)=some (rvGo b p f k n):=by
 intro f
 induction f with
 | zero=>
  intro k n hk hn
  have :k=6:=by omega
  subst this
  rw [loopM_done (h0 n)]
  rfl
 | succ f ih=>
  intro k n hk hn
  have hk6:k<6:=by omega
  unfold rvGo
  cases hx:b[p+k]? with
  | none=>rcases h1 k n hk6 hx with h | h<;>rw [loopM_done h]<;>rfl
  | some x=>
   obtain ⟨x0,x1⟩:=hb x (List.mem_of_getElem? hx)
   obtain ⟨m,rfl⟩: ∃ m:Nat,x=(m:Int):=⟨x.toNat,by omega⟩
   have hs:=h2 k n m hk6 hn (by omega) hx
   simp only [Int.toNat_natCast]
   by_cases hm:m<128
   ·rw [if_pos hm] at hs ⊢
    rw [loopM_done hs]
    rfl
   ·rw [if_neg hm] at hs ⊢
    rw [loopM_next hs]
    exact ih (k+1) _ (by omega) (pow7_next hn (Nat.mod_lt _ (by decide)))

theorem shl_nat {a c:Nat} (hc:c≤35) (h:a * 2 ^ c≤4398046511104):shl .i64 (a:Int) (c:Int)=((a * 2 ^ c:Nat):Int):=by
 unfold shl
 have e:min ((c:Int)).toNat IntKind.i64.bits=c:=by simp [IntKind.bits];omega
 rw [e]
 have e2:(a:Int) * 2 ^ c=((a * 2 ^ c:Nat):Int):=by simp
 rw [e2]
 exact wri (by omega) (by omega)

theorem bOr_add {n c k:Nat} (hk:k<6) (hn:n<2 ^ (7 * k)) (hc:c<128):bOr .i64 (n:Int) ((c * 2 ^ (7 * k):Nat):Int)=((n+c * 2 ^ (7 * k):Nat):Int):=by
 have hm:=mul7_le hk hc
 have hp:=pow7_le hk
 have e:(BitVec.ofInt 64 (n:Int) ||| BitVec.ofInt 64 ((c * 2 ^ (7 * k):Nat):Int)).toNat=n+c * 2 ^ (7 * k):=by
  rw [BitVec.toNat_or]
  have e1:(BitVec.ofInt 64 (n:Int)).toNat=n:=by simp;omega
  have e2:(BitVec.ofInt 64 ((c * 2 ^ (7 * k):Nat):Int)).toNat=c * 2 ^ (7 * k):=by
   generalize c * 2 ^ (7 * k)=q at hm
   simp;omega
  rw [e1,e2,Nat.or_comm]
  have :=Nat.two_pow_add_eq_or_of_lt (i:=7 * k) (b:=n) hn c
  rw [Nat.mul_comm c,← this];omega
 unfold bOr
 show IntKind.i64.wrap (((BitVec.ofInt 64 (n:Int) ||| BitVec.ofInt 64 ((c * 2 ^ (7 * k):Nat):Int)).toNat:Nat):Int)=_
 rw [e]
 exact wri (by omega) (by omega)

theorem u64_wrap {n:Nat} (h:n<256):IntKind.wrap .u64 (n:Int)=(n:Int):=by
 simp only [IntKind.wrap,IntKind.signed,IntKind.bits]
 simp
 omega

def rv (b:List Int) (p:Nat):Int×Int×Bool:=rvGo b p 6 0 0

theorem mul_seven (k:Nat):(7:Int) * (k:Int)=((7 * k:Nat):Int):=by omega

theorem i_rv {b:List Int} {p:Nat} (hb: ∀ x∈b,0≤x∧x≤255) (hl:b.length≤68719476736) (hp:p≤b.length):i_ReadVarint b (p:Int)=some (rv b p):=by
 unfold i_ReadVarint
 have e0:decide ((p:Int)<0)=false:=by simp
 rw [e0,cond_false]
 refine rv_loop b p hb (fun k n=>(((p+k:Nat):Int),(n:Int),(k:Int))) (fun n=>by simp) (fun k n hk hx=> ?_) (fun k n m hk hn hm hx=> ?_) 6 0 0 rfl (by simp)
 ·left
  have h1:decide (((p+k:Nat):Int)<(b.length:Int))=false:=by
   have :=List.getElem?_eq_none_iff.1 hx
   simp;omega
  simp only [h1]
  cases decide ((k:Int)<6)<;>rfl
 ·have h0:=(List.getElem?_eq_some_iff.1 hx).1
  have h1:decide (((p+k:Nat):Int)<(b.length:Int))=true:=by simp;omega
  have h2:decide ((k:Int)<6)=true:=by simp;omega
  have h3:idx b ((p+k:Nat):Int)=some (m:Int):=by rw [idx_nat];exact hx
  have h4:wr ((7 * k:Nat):Int)=((7 * k:Nat):Int):=wri (by omega) (by omega)
  have h5:wr (m:Int)=(m:Int):=wri (by omega) (by omega)
  have h6:decide (((7 * k:Nat):Int)<0)=false:=by simp;omega
  have h7:Int.tmod (m:Int) 128=((m % 128:Nat):Int):=rfl
  have hq:=mul7_le (c:=m % 128) hk (Nat.mod_lt _ (by decide))
  have hr:=pow7_le hk
  have h8:wr ((n:Int)+((m % 128 * 2 ^ (7 * k):Nat):Int))=((n+m % 128 * 2 ^ (7 * k):Nat):Int):=by
   generalize m % 128 * 2 ^ (7 * k)=q at hq
   have :wr ((n:Int)+(q:Int))=(n:Int)+(q:Int):=wri (by omega) (by omega)
   rw [this];omega
  have h9:wr (((p+k:Nat):Int)+1)=((p+k+1:Nat):Int):=by
   have :wr (((p+k:Nat):Int)+1)=((p+k:Nat):Int)+1:=wri (by omega) (by omega)
   rw [this];omega
  have ha:wr ((k:Int)+1)=((k+1:Nat):Int):=by
   have :wr ((k:Int)+1)=(k:Int)+1:=wri (by omega) (by omega)
   rw [this];omega
  simp only [h1,h2,h3,cond_true,obind_some,mul_seven,h4,u64_wrap (n:=7 * k) (by omega),h6,cond_false,h5,h7,shl_nat (a:=m % 128) (c:=7 * k) (by omega) hq,h8,h9,ha]
  generalize n+m % 128 * 2 ^ (7 * k)=q
  by_cases c1:m<128
  ·have e1:decide ((m:Int)<128)=true:=by simp;omega
   have e2:((m:Int)==0)=decide (m=0):=by rw [Bool.eq_iff_iff];simp
   have e3:decide ((k:Int)>0)=decide (0<k):=by rw [Bool.eq_iff_iff];simp
   have e4:decide ((q:Int)>1000000000000)=decide (1000000000000<q):=by rw [Bool.eq_iff_iff];simp;omega
   simp only [e1,e2,e3,e4,cond_true,if_pos c1]
   cases decide (m=0)<;>cases decide (0<k)<;>cases decide (1000000000000<q)<;>rfl
  ·have e1:decide ((m:Int)<128)=false:=by simp;omega
   simp only [e1,cond_false,if_neg c1]
   rfl

theorem s_rv {b:List Int} {p:Nat} (hb: ∀ x∈b,0≤x∧x≤255) (hl:b.length≤68719476736) (hp:p≤b.length):s_ReadVarint b (p:Int)=some (rv b p):=by
 unfold s_ReadVarint
 have e0:decide ((p:Int)<0)=false:=by simp
 refine rv_loop b p hb (fun k n=>((n:Int),(k:Int))) (fun n=>by simp) (fun k n hk hx=> ?_) (fun k n m hk hn hm hx=> ?_) 6 0 0 rfl (by simp)
 ·right
  have hw:wr ((b.length:Int) - (k:Int))=(b.length:Int) - (k:Int):=wri (by omega) (by omega)
  have h1:decide ((p:Int)≥(b.length:Int) - (k:Int))=true:=by
   have :=List.getElem?_eq_none_iff.1 hx
   simp;omega
  have h2:decide ((k:Int)<6)=true:=by simp;omega
  simp only [h2,e0,hw,h1,cond_true,cond_false,obind_some]
 ·have h0:=(List.getElem?_eq_some_iff.1 hx).1
  have hw:wr ((b.length:Int) - (k:Int))=(b.length:Int) - (k:Int):=wri (by omega) (by omega)
  have h1:decide ((p:Int)≥(b.length:Int) - (k:Int))=false:=by simp;omega
  have h2:decide ((k:Int)<6)=true:=by simp;omega
  have hpk:wr ((p:Int)+(k:Int))=((p+k:Nat):Int):=by
   have :wr ((p:Int)+(k:Int))=(p:Int)+(k:Int):=wri (by omega) (by omega)
   rw [this];omega
  have h3:idx b ((p+k:Nat):Int)=some (m:Int):=by rw [idx_nat];exact hx
  have h4:wr ((7 * k:Nat):Int)=((7 * k:Nat):Int):=wri (by omega) (by omega)
  have h5:wr (m:Int)=(m:Int):=wri (by omega) (by omega)
  have h6:decide (((7 * k:Nat):Int)<0)=false:=by simp;omega
  have hq:=mul7_le (c:=m % 128) hk (Nat.mod_lt _ (by decide))
  have h9:wr (((p+k:Nat):Int)+1)=((p+k+1:Nat):Int):=by
   have :wr (((p+k:Nat):Int)+1)=((p+k:Nat):Int)+1:=wri (by omega) (by omega)
   rw [this];omega
  have ha:wr ((k:Int)+1)=((k+1:Nat):Int):=by
   have :wr ((k:Int)+1)=(k:Int)+1:=wri (by omega) (by omega)
   rw [this];omega
  simp only [h1,h2,hw,e0,hpk,h3,cond_true,cond_false,obind_some,mul_seven,h4,h6,h5,bAnd_127 (n:=m) (by omega),shl_nat (a:=m % 128) (c:=7 * k) (by omega) hq,bOr_add (c:=m % 128) hk hn (Nat.mod_lt _ (by decide)),h9,ha]
  generalize n+m % 128 * 2 ^ (7 * k)=q
  by_cases c1:m<128
  ·have e1:decide ((m:Int)<128)=true:=by simp;omega
   have e2:((m:Int)==0)=decide (m=0):=by rw [Bool.eq_iff_iff];simp
   have e3:decide ((k:Int)>0)=decide (0<k):=by rw [Bool.eq_iff_iff];simp
   have e4:decide ((q:Int)>1000000000000)=decide (1000000000000<q):=by rw [Bool.eq_iff_iff];simp;omega
   simp only [e1,e2,e3,e4,cond_true,if_pos c1]
   cases decide (m=0)<;>cases decide (0<k)<;>cases decide (1000000000000<q)<;>rfl
  ·have e1:decide ((m:Int)<128)=false:=by simp;omega
   simp only [e1,cond_false,if_neg c1]

theorem rvGo_to {b:List Int} {p:Nat}: ∀ (f k n:Nat),(rvGo b p f k n).2.2=true→ ∃ q:Nat,(rvGo b p f k n).2.1=(q:Int)∧q≤b.length
 | 0,k,n,h=>by cases h
 | f+1,k,n,h=>by
  unfold rvGo at h ⊢
  cases hx:b[p+k]? with
  | none=>rw [hx] at h;cases h
  | some x=>
   rw [hx] at h
   have hlt:=(List.getElem?_eq_some_iff.1 hx).1
   simp only at h ⊢
   by_cases c:x.toNat<128
   ·rw [if_pos c] at h ⊢
    split at h
    ·cases h
    ·rename_i c2
     rw [if_neg c2]
     exact ⟨p+k+1,rfl,hlt⟩
   ·rw [if_neg c] at h ⊢
    exact rvGo_to f (k+1) _ h

theorem rv_to {b:List Int} {p:Nat} (h:(rv b p).2.2=true): ∃ q:Nat,(rv b p).2.1=(q:Int)∧q≤b.length:=rvGo_to 6 0 0 h

def dec3 (b:List Int):Int×Bool×List Int:=
 cond (rv b 0).2.2 (cond (rv b (rv b 0).2.1.toNat).2.2 (cond (rv b (rv b (rv b 0).2.1.toNat).2.1.toNat).2.2
  ((rv b (rv b (rv b 0).2.1.toNat).2.1.toNat).2.1,true,[(rv b 0).1,(rv b (rv b 0).2.1.toNat).1,(rv b (rv b (rv b 0).2.1.toNat).2.1.toNat).1]) (0,false,[])) (0,false,[])) (0,false,[])

theorem dec3_or (b:List Int):dec3 b=(0,false,[])∨ ∃ q x y z,dec3 b=(q,true,[x,y,z]):=by
 unfold dec3
 cases (rv b 0).2.2
 ·exact .inl rfl
 ·cases (rv b (rv b 0).2.1.toNat).2.2
  ·exact .inl rfl
  ·cases (rv b (rv b (rv b 0).2.1.toNat).2.1.toNat).2.2
   ·exact .inl rfl
   ·exact .inr ⟨_,_,_,_,rfl⟩

theorem dec_loop {b:List Int} {step:Int×Int×List Int→Option ((Int×Int×List Int)⊕((Int×List Int)⊕(Int×Bool×List Int)))}
  (hs: ∀ (p:Nat) (i:Nat) (out:List Int),p≤b.length→i<3→out.length≤3→step ((p:Int),(i:Int),out)=some (cond (rv b p).2.2 (.inl ((rv b p).2.1,((i+1:Nat):Int),out++[(rv b p).1])) (.inr (.inr (0,false,[])))))
  (he: ∀ p out,step (p,3,out)=some (.inr (.inl (p,out)))):
  @Option.bind ((Int×List Int)⊕(Int×Bool×List Int)) (Int×Bool×List Int) (loopM step ((0:Int),(0:Int),([]:List Int))) (fun z=>Sum.elim (fun s8=>some (s8.1,true,s8.2)) some z)=some (dec3 b):=by
 have h1:=hs 0 0 [] (Nat.zero_le _) (by decide) (by decide)
 unfold dec3
 cases c1:(rv b 0).2.2 with
 | false=>rw [c1] at h1;rw [loopM_done (s:=((0:Int),(0:Int),([]:List Int))) h1];rfl
 | true=>
  rw [c1] at h1
  obtain ⟨q1,e1,l1⟩:=rv_to c1
  rw [loopM_next (s:=((0:Int),(0:Int),([]:List Int))) h1]
  rw [e1]
  simp only [cond_true,Int.toNat_natCast]
  have h2:=hs q1 (0+1) ([]++[(rv b 0).1]) l1 (by decide) (by simp)
  cases c2:(rv b q1).2.2 with
  | false=>rw [c2] at h2;rw [loopM_done h2];rfl
  | true=>
   rw [c2] at h2
   obtain ⟨q2,e2,l2⟩:=rv_to c2
   rw [loopM_next h2]
   rw [e2]
   simp only [cond_true,Int.toNat_natCast]
   have h3:=hs q2 (0+1+1) ([]++[(rv b 0).1]++[(rv b q1).1]) l2 (by decide) (by simp)
   cases c3:(rv b q2).2.2 with
   | false=>rw [c3] at h3;rw [loopM_done h3];rfl
   | true=>
    rw [c3] at h3
    rw [loopM_next h3]
    rw [loopM_done (s:=((rv b q2).2.1,((0+1+1+1:Nat):Int),[]++[(rv b 0).1]++[(rv b q1).1]++[(rv b q2).1])) (he _ _)]
    rfl

theorem i_dec3 {b:List Int} (hb: ∀ x∈b,0≤x∧x≤255) (hl:b.length≤68719476736):i_DecodeInts b 0 3=some (dec3 b):=by
 unfold i_DecodeInts
 have r1:inR 3 0 100=true:=by decide
 have r2:inR 0 0 (b.length:Int)=true:=by rw [inR_iff];omega
 simp only [i_in,obind_some,r1,r2,Bool.not_true,cond_false]
 refine dec_loop (fun p i out hp hi ho=> ?_) (fun p out=>by simp)
 have e1:decide ((i:Int)<3)=true:=by simp;omega
 have e2:wr ((i:Int)+1)=((i+1:Nat):Int):=by
  have :wr ((i:Int)+1)=(i:Int)+1:=wri (by omega) (by omega)
  rw [this];omega
 simp only [e1,cond_true,i_rv hb hl hp,obind_some,e2,apOk_le (b:=8) (n:=out.length) (m:=1) (by decide) (by omega)]
 cases (rv b p).2.2<;>rfl

theorem s_dec3 {b:List Int} (hb: ∀ x∈b,0≤x∧x≤255) (hl:b.length≤68719476736):s_DecodeInts b 0 3=some (dec3 b):=by
 unfold s_DecodeInts
 have r1:inR 3 0 100=true:=by decide
 have r2:inR 0 0 (b.length:Int)=true:=by rw [inR_iff];omega
 simp only [s_in,obind_some,r1,r2,Bool.not_true,cond_false]
 refine dec_loop (fun p i out hp hi ho=> ?_) (fun p out=>by simp)
 have e1:decide ((i:Int)<3)=true:=by simp;omega
 have e2:wr ((i:Int)+1)=((i+1:Nat):Int):=by
  have :wr ((i:Int)+1)=(i:Int)+1:=wri (by omega) (by omega)
  rw [this];omega
 simp only [e1,cond_true,s_rv hb hl hp,obind_some,e2,apOk_le (b:=8) (n:=out.length) (m:=1) (by decide) (by omega)]
 cases (rv b p).2.2<;>rfl


def decV (b:List Int):Int×Int×Int×Bool:=
 match dec3 b with
 | (q,true,[x,y,z])=>cond (q==(b.length:Int)) (cond (validV (x,y,z)) (x,y,z,true) (0,0,0,false)) (0,0,0,false)
 | _=>(0,0,0,false)

theorem i_decV {b:List Int} (hb: ∀ x∈b,0≤x∧x≤255) (hl:b.length≤68719476736):i_DecodeRevocation b=some (decV b):=by
 unfold i_DecodeRevocation decV
 rw [i_dec3 hb hl]
 rcases dec3_or b with h | ⟨q,x,y,z,h⟩
 ·rw [h];rfl
 ·rw [h]
  simp only [obind_some,Bool.not_true,cond_false,bne,i_validV]
  cases q==(b.length:Int)
  ·rfl
  ·cases hv:validV (x,y,z)<;>simp [hv]

theorem s_decV {b:List Int} (hb: ∀ x∈b,0≤x∧x≤255) (hl:b.length≤68719476736):s_DecodeRevocation b=some (decV b):=by
 unfold s_DecodeRevocation decV
 rw [s_dec3 hb hl]
 rcases dec3_or b with h | ⟨q,x,y,z,h⟩
 ·rw [h];rfl
 ·rw [h]
  simp only [obind_some,Bool.not_true,cond_false,bne,s_validV]
  cases q==(b.length:Int)
  ·rfl
  ·cases hv:validV (x,y,z)<;>simp [hv]

def addAt (x:den tRv) (l:List (den tRv)) (k:Nat) (y:den tRv):Option (List (den tRv)):=
 cond (y.1==x.1) (cond (y.2.1==x.2.1) (some (l.set k (y.1,y.2.1,if x.2.2>y.2.2 then x.2.2 else y.2.2))) none) none

def addV (l:List (den tRv)) (x:den tRv):List (den tRv):=
 cond (validV x) (match scanI (addAt x l) 0 l with
  | some r=>r
  | none=>if 16<l.length+1 then (l++[x]).drop 1 else l++[x]) l

theorem cut_one {α:Type} {l:List α} (h:0<l.length):cut l (1:Int) (l.length:Int)=l.drop 1:=cut_drop (k:=1) h

theorem addV_big (l:List (den tRv)) (x:den tRv):decide (((l++[x]).length:Int)>16)=decide (16<l.length+1):=by
 rw [Bool.eq_iff_iff];simp;omega

theorem i_addV {l:List (den tRv)} {x:den tRv} (h:l.length≤1073741824):i_AddRevocation l x=some (addV l x):=by
 unfold i_AddRevocation addV
 rw [i_copyV (show l.length≤68719476736 by omega)]
 simp only [obind_some,peta,i_validV]
 cases hv:validV x with
 | false=>rfl
 | true=>
  simp only [Bool.not_true,cond_false,cond_true]
  rw [loop_scan (l:=l) (addAt x l) (by omega) (fun k y hi hd hw hm hk=>by
   have hy:l[k]? =some y:=by rw [← idx_nat];exact hi
   simp only [hd,cond_true,pos_nat,Int.toNat_natCast,hy,obind_some,i_max,hw]
   unfold addAt
   cases y.1==x.1
   ·rfl
   ·cases y.2.1==x.2.1<;>rfl) (by simp)]
  cases scanI (addAt x l) 0 l with
  | some r=>rfl
  | none=>
   have e1:slOk (1:Int) ((l++[x]).length:Int) ((l++[x]).length:Int)=true:=by
    have :=slOk_nat (a:=1) (b:=(l++[x]).length) (n:=(l++[x]).length)
    rw [show ((1:Nat):Int)=1 from rfl] at this
    rw [this];simp
   have e2:=cut_one (l:=l++[x]) (by simp)
   simp only [obind_some,Sum.elim_inl,apOk_le (b:=24) (n:=l.length) (m:=1) (by decide) (by omega),cond_true,addV_big,e1,e2,i_copyV (l:=(l++[x]).drop 1) (by simp;omega)]
   by_cases c:16<l.length+1
   ·have c2:(16:Int)<(l.length:Int)+1:=by omega
    simp [c,c2]
   ·have c2: ¬ (16:Int)<(l.length:Int)+1:=by omega
    simp [c,c2]

theorem s_addV {l:List (den tRv)} {x:den tRv} (h:l.length≤1073741824):s_AddRevocation l x=some (addV l x):=by
 unfold s_AddRevocation addV
 rw [apOk_le (b:=24) (n:=([]:List (den tRv)).length) (by decide) (by simp;omega)]
 simp only [cond_true,obind_some,peta,s_validV,List.nil_append]
 cases hv:validV x with
 | false=>rfl
 | true=>
  simp only [Bool.not_true,cond_false,cond_true]
  rw [loop_scan (l:=l) (addAt x l) (by omega) (fun k y hi hd hw hm hk=>by
   have hy:l[k]? =some y:=by rw [← idx_nat];exact hi
   have hk2:decide (k<l.length)=true:=by simpa using hk
   simp only [hd,cond_true,pos_nat,Int.toNat_natCast,hy,obind_some,s_max,hw,hk2]
   unfold addAt
   cases y.1==x.1
   ·rfl
   ·cases y.2.1==x.2.1<;>rfl) (by simp)]
  cases scanI (addAt x l) 0 l with
  | some r=>rfl
  | none=>
   have e1:slOk (1:Int) ((l++[x]).length:Int) ((l++[x]).length:Int)=true:=by
    have :=slOk_nat (a:=1) (b:=(l++[x]).length) (n:=(l++[x]).length)
    rw [show ((1:Nat):Int)=1 from rfl] at this
    rw [this];simp
   have e2:=cut_one (l:=l++[x]) (by simp)
   simp only [obind_some,Sum.elim_inl,apOk_le (b:=24) (n:=l.length) (m:=1) (by decide) (by omega),cond_true,addV_big,e1,e2]
   by_cases c:16<l.length+1
   ·have c2:(16:Int)<(l.length:Int)+1:=by omega
    simp [c,c2]
   ·have c2: ¬ (16:Int)<(l.length:Int)+1:=by omega
    simp [c,c2]

def numS (s:den tStep) (a:List Int):List Int:=
 (fun b=>cond (s.2.2 != 0) (b++[wr (wr (8 * s.1)+s.2.2)]) b) (cond (s.2.1 != 0) (a++[wr (wr (8 * s.1)+s.2.1)]) a)

theorem numS_len (s:den tStep) (a:List Int):(numS s a).length≤a.length+2:=by
 unfold numS
 cases s.2.1 != 0<;>cases s.2.2 != 0<;>simp

def usedI (p:den tPt):List Int:=foldI (fun _ s a=>numS s a) 0 (steps p) []

theorem sum_two {α:Type} (l:List α):(l.map fun _=>2).sum=2 * l.length:=by
 induction l with
 | nil=>rfl
 | cons x l ih=>simp only [List.map_cons,List.sum_cons,ih,List.length_cons];omega

theorem i_usedI {p:den tPt} (h:tot tPt p≤1073741824):i_InterfacesUsed p=some (usedI p):=by
 have hl:=steps_len p
 unfold i_InterfacesUsed i_numbered usedI
 rw [i_steps (Nat.le_trans h (by decide))]
 simp only [obind_some]
 rw [loopG (fun k (a:List Int)=>((k:Int),a)) ((0:Int),[]) [] (steps p) (fun _ s a=>numS s a) List.length (fun _=>2) 68719476736 id rfl (by omega) (by rw [sum_two];simp;omega) (fun k x a=>numS_len x a) (fun k x a hi hx hd hw hk hb=>by
  simp only [hd,hi,hw,cond_true,obind_some,apOk_le (b:=8) (n:=a.length) (m:=1) (by decide) (by omega)]
  unfold numS
  cases x.2.1 != 0<;>cases x.2.2 != 0<;>simp [apOk_le (b:=8) (n:=a.length) (m:=1) (by decide) (by omega),apOk_le (b:=8) (n:=a.length+1) (m:=1) (by decide) (by omega)]) (fun a=>by simp)]
 rfl

theorem s_usedI {p:den tPt} (h:tot tPt p≤1073741824):s_InterfacesUsed p=some (usedI p):=by
 have hl:=steps_len p
 unfold s_InterfacesUsed usedI
 rw [s_steps (Nat.le_trans h (by decide))]
 simp only [obind_some]
 rw [loopG (fun k (a:List Int)=>((k:Int),a)) ((0:Int),[]) [] (steps p) (fun _ s a=>numS s a) List.length (fun _=>2) 68719476736 id rfl (by omega) (by rw [sum_two];simp;omega) (fun k x a=>numS_len x a) (fun k x a hi hx hd hw hk hb=>by
  simp only [hd,hx,hw,cond_true,obind_some,pos_nat,Int.toNat_natCast,apOk_le (b:=8) (n:=a.length) (m:=1) (by decide) (by omega)]
  unfold numS
  cases x.2.1 != 0<;>cases x.2.2 != 0<;>simp [apOk_le (b:=8) (n:=a.length) (m:=1) (by decide) (by omega),apOk_le (b:=8) (n:=a.length+1) (m:=1) (by decide) (by omega)]) (fun a=>by simp)]
 rfl

def hasI (l:List Int) (n:Int):Bool:= !(l.all fun x=> !(x==n))

theorem i_hasI {l:List Int} {n:Int} (h:l.length≤68719476736):i_hasInt l n=some (hasI l n):=by
 unfold i_hasInt hasI
 rw [loop_scan (l:=l) (fun _ x=>if !(x==n) then none else some true) (by omega) (fun k x hi hd hw hm hk=>by
  simp only [hd,hi,hw,cond_true,obind_some]
  cases x==n<;>rfl) (by simp),scanA (fun x:Int=> !(x==n))]
 cases l.all (fun x=> !(x==n))<;>rfl

theorem s_hasI {l:List Int} {n:Int} (h:l.length≤68719476736):s_l9Has l n=some (hasI l n):=by
 unfold s_l9Has hasI
 rw [loop_scan (l:=l) (fun _ x=>if !(x==n) then none else some true) (by omega) (fun k x hi hd hw hm hk=>by
  simp only [hd,hi,hw,cond_true,obind_some]
  cases x==n<;>rfl) (by simp),scanA (fun x:Int=> !(x==n))]
 cases l.all (fun x=> !(x==n))<;>rfl

theorem usedI_len (p:den tPt):(usedI p).length≤2 * tot tPt p:=by
 have h:=foldI_m (f:=fun _ s (a:List Int)=>numS s a) (m:=List.length) (cost:=fun _=>2) (fun k x a=>numS_len x a) (steps p) 0 []
 have hl:=steps_len p
 rw [sum_two] at h
 unfold usedI
 simp at h
 omega

def affects (p:den tPt) (x:den tRv):Bool:=validV x&&hasI (usedI p) (wr (wr (8 * x.1)+x.2.1))

theorem i_affects {p:den tPt} {x:den tRv} (h:tot tPt p≤1073741824):i_Affects p x=some (affects p x):=by
 have :=usedI_len p
 unfold i_Affects affects
 simp only [peta,i_validV,obind_some,i_usedI h,i_hasI (l:=usedI p) (by omega)]
 cases validV x<;>rfl

theorem s_affects {p:den tPt} {x:den tRv} (h:tot tPt p≤1073741824):s_Affects p x=some (affects p x):=by
 have :=usedI_len p
 unfold s_Affects affects
 simp only [peta,s_validV,obind_some,s_usedI h,s_hasI (l:=usedI p) (by omega)]
 cases validV x<;>rfl

theorem scanI_sum {α R:Type} (m:R→Nat) (B:Nat) {g:Nat→α→Option R}: ∀ {l:List α} {k:Nat},(∀ j x r,l[j]? =some x→g (k+j) x=some r→m r≤B)→ ∀ r,scanI g k l=some r→m r≤B
 | [],_,_,r,h=>by cases h
 | x::xs,k,hg,r,h=>by
  simp only [scanI] at h
  cases hx:g k x with
  | some r'=>rw [hx] at h;injection h with h;subst h;exact hg 0 x r' rfl hx
  | none=>
   rw [hx] at h
   exact scanI_sum m B (fun j y r hy hr=>hg (j+1) y r (by simpa using hy) (by rw [show k+(j+1)=k+1+j by omega];exact hr)) r h

theorem tot_rv (l:List (den tRv)):tot (.sl tRv) l=l.length:=by
 induction l with
 | nil=>rfl
 | cons x l ih=>rw [tot_cons,ih];simp [tot];omega

theorem addV_tot (l:List (den tRv)) (x:den tRv):tot (.sl tRv) (addV l x)≤l.length+1:=by
 rw [tot_rv]
 unfold addV
 cases validV x with
 | false=>simp
 | true=>
  simp only [cond_true]
  cases hs:scanI (addAt x l) 0 l with
  | some r=>
   refine scanI_sum List.length (l.length+1) (g:=addAt x l) (l:=l) (k:=0) (fun j y r' hy hr=> ?_) r hs
   unfold addAt at hr
   cases c1:y.1==x.1 with
   | false=>rw [c1] at hr;cases hr
   | true=>
    cases c2:y.2.1==x.2.1 with
    | false=>rw [c1,c2] at hr;cases hr
    | true=>rw [c1,c2] at hr;injection hr with hr;rw [← hr];simp
  | none=>
   by_cases c:16<l.length+1
   ·simp [c]
   ·simp [c]

def hitR (f:den tFl) (x:den tRv):Bool:=inR f.2.2.2.2.2.2.1 0 ((f.2.2.2.2.2.1.length:Int) - 1)&&affects ((f.2.2.2.2.2.1[f.2.2.2.2.2.2.1.toNat]?).getD []) x

def readV (b:List Int):den tRv:=((decV b).1,(decV b).2.1,(decV b).2.2.1)

def handR (f:den tFl) (p:den tPk):den tFl:=
 cond (p.1==3&&(decV p.2.2.2.2.2.2.2.2.2).2.2.2)
  (f.1,f.2.1,f.2.2.1,f.2.2.2.1,f.2.2.2.2.1,f.2.2.2.2.2.1,cond (hitR f (readV p.2.2.2.2.2.2.2.2.2)) (nextP f) f.2.2.2.2.2.2.1,cond (hitR f (readV p.2.2.2.2.2.2.2.2.2)) 0 f.2.2.2.2.2.2.2.1,addV f.2.2.2.2.2.2.2.2 (readV p.2.2.2.2.2.2.2.2.2)) f


def flowV (f:den tFl):Int×Int×Int×Int×Int×Int×(List (den tRv))×(List (den tMs))×(List (den tPt)):=(f.1,f.2.1,f.2.2.1,f.2.2.2.1,f.2.2.2.2.2.2.1,f.2.2.2.2.2.2.2.1,f.2.2.2.2.2.2.2.2,f.2.2.2.2.1,f.2.2.2.2.2.1)

theorem path_at {f:den tFl} (h:tot tFl f≤1073741824) (hr:inR f.2.2.2.2.2.2.1 0 ((f.2.2.2.2.2.1.length:Int) - 1)=true): ∃ q,f.2.2.2.2.2.1[f.2.2.2.2.2.2.1.toNat]? =some q∧idx f.2.2.2.2.2.1 f.2.2.2.2.2.2.1=some q∧tot tPt q≤1073741824:=by
 obtain ⟨h0,h1⟩:=inR_iff.1 hr
 obtain ⟨q,hq⟩:=get_some h0 h1
 have ht:=tot_get (t:=tPt) hq
 have hp:tot (.sl tPt) f.2.2.2.2.2.1≤1073741824:=tot_l (tot_r (tot_r (tot_r (tot_r (tot_r h)))))
 exact ⟨q,hq,idx_of h0 hq,by omega⟩

theorem i_handR {f:den tFl} {p:den tPk} {now:Int} (h:tot tFl f≤1073741824) (hp:tot tPk p≤1073741824) (hb: ∀ x∈p.2.2.2.2.2.2.2.2.2,0≤x∧x≤255):i_HandleRevocation f p now=some (flowR (handR f p)):=by
 have hf:SmB 68719476736 tFl f:=(sm_of_tot h).mono (by decide)
 have hl:p.2.2.2.2.2.2.2.2.2.length≤68719476736:=Nat.le_trans (tot_len (t:=tb) _) (Nat.le_trans (tot_r (tot_r (tot_r (tot_r (tot_r (tot_r (tot_r (tot_r (tot_r hp))))))))) (by decide))
 have hv:f.2.2.2.2.2.2.2.2.length≤1073741824:=Nat.le_trans (tot_len (t:=tRv) _) (tot_r (tot_r (tot_r (tot_r (tot_r (tot_r (tot_r (tot_r h))))))))
 have hn:f.2.2.2.2.2.1.length≤68719476736:=hf.2.2.2.2.2.1.1
 unfold i_HandleRevocation handR
 simp only [peta,i_copyF hf,obind_some,i_decV hb hl,i_in,wr_len hn,i_nextP,i_addV hv,bne]
 cases c1:p.1==3
 ·simp only [Bool.not_false,cond_true,obind_some,Bool.false_and,cond_false]
 ·cases c2:(decV p.2.2.2.2.2.2.2.2.2).2.2.2
  ·simp only [Bool.not_true,Bool.not_false,cond_true,cond_false,obind_some,Bool.true_and]
  ·simp only [Bool.not_true,cond_true,cond_false,obind_some,Bool.true_and]
   unfold hitR
   cases c3:inR f.2.2.2.2.2.2.1 0 ((f.2.2.2.2.2.1.length:Int) - 1)
   ·simp only [cond_false,obind_some,Bool.false_and];rfl
   ·obtain ⟨q,hq,hi,ht⟩:=path_at h c3
    have ha:=i_affects (p:=q) (x:=readV p.2.2.2.2.2.2.2.2.2) ht
    have ha:i_Affects q ((decV p.2.2.2.2.2.2.2.2.2).1,(decV p.2.2.2.2.2.2.2.2.2).2.1,(decV p.2.2.2.2.2.2.2.2.2).2.2.1)=some (affects q (readV p.2.2.2.2.2.2.2.2.2)):=ha
    simp only [cond_true,hi,hq,Option.getD_some,obind_some,ha,Bool.true_and]
    cases affects q (readV p.2.2.2.2.2.2.2.2.2)<;>rfl

theorem s_handR {f:den tFl} {p:den tPk} {now:Int} (h:tot tFl f≤1073741824) (hp:tot tPk p≤1073741824) (hb: ∀ x∈p.2.2.2.2.2.2.2.2.2,0≤x∧x≤255):s_HandleRevocation f p now=some (flowV (handR f p)):=by
 have hf:SmB 68719476736 tFl f:=(sm_of_tot h).mono (by decide)
 have hl:p.2.2.2.2.2.2.2.2.2.length≤68719476736:=Nat.le_trans (tot_len (t:=tb) _) (Nat.le_trans (tot_r (tot_r (tot_r (tot_r (tot_r (tot_r (tot_r (tot_r (tot_r hp))))))))) (by decide))
 have hv:f.2.2.2.2.2.2.2.2.length≤1073741824:=Nat.le_trans (tot_len (t:=tRv) _) (tot_r (tot_r (tot_r (tot_r (tot_r (tot_r (tot_r (tot_r h))))))))
 have hn:f.2.2.2.2.2.1.length≤68719476736:=hf.2.2.2.2.2.1.1
 unfold s_HandleRevocation handR
 simp only [peta,s_copyF hf,obind_some,s_decV hb hl,s_in,wr_len hn,s_addV hv,bne]
 cases c1:p.1==3
 ·simp only [Bool.not_false,cond_true,obind_some,Bool.false_and,cond_false];rfl
 ·cases c2:(decV p.2.2.2.2.2.2.2.2.2).2.2.2
  ·simp only [Bool.not_true,Bool.not_false,cond_true,cond_false,obind_some,Bool.true_and];rfl
  ·simp only [Bool.not_true,cond_true,cond_false,obind_some,Bool.true_and]
   unfold hitR
   cases c3:inR f.2.2.2.2.2.2.1 0 ((f.2.2.2.2.2.1.length:Int) - 1)
   ·simp only [cond_false,obind_some,Bool.false_and];rfl
   ·obtain ⟨q,hq,hi,ht⟩:=path_at h c3
    have ha:=s_affects (p:=q) (x:=readV p.2.2.2.2.2.2.2.2.2) ht
    have ha:s_Affects q ((decV p.2.2.2.2.2.2.2.2.2).1,(decV p.2.2.2.2.2.2.2.2.2).2.1,(decV p.2.2.2.2.2.2.2.2.2).2.2.1)=some (affects q (readV p.2.2.2.2.2.2.2.2.2)):=ha
    simp only [cond_true,hi,hq,Option.getD_some,obind_some,ha,Bool.true_and,s_turn hf c3]
    cases affects q (readV p.2.2.2.2.2.2.2.2.2)<;>rfl

theorem handR_tot (f:den tFl) (p:den tPk):tot tFl (handR f p)≤tot tFl f+1:=by
 unfold handR
 cases (p.1==3&&(decV p.2.2.2.2.2.2.2.2.2).2.2.2)
 ·simp
 ·have h1:=addV_tot f.2.2.2.2.2.2.2.2 (readV p.2.2.2.2.2.2.2.2.2)
  have h2:=tot_rv f.2.2.2.2.2.2.2.2
  simp only [cond_true,tot_pair,tot_int]
  omega

def validH (h:den tHop):Bool:=inR h.1 0 7&&(inR h.2.1 0 6&&(inR h.2.2.1 0 6&&(!(h.2.1==h.2.2.1)&&(inR h.2.2.2.1 0 1000000&&resid h.2.2.2.2))))

theorem i_validH (h:den tHop):i_ValidHop h=some (validH h):=by
 unfold i_ValidHop validH
 simp only [i_in,i_resid,obind_some,bne]
 cases inR h.1 0 7<;>cases inR h.2.1 0 6<;>cases inR h.2.2.1 0 6<;>cases h.2.1==h.2.2.1<;>cases inR h.2.2.2.1 0 1000000<;>rfl

theorem s_validH (h:den tHop):s_ValidHop h=some (validH h):=by
 unfold s_ValidHop validH
 simp only [s_in,s_resid,obind_some,bne]
 cases inR h.1 0 7<;>cases inR h.2.1 0 6<;>cases inR h.2.2.1 0 6<;>cases h.2.1==h.2.2.1<;>cases inR h.2.2.2.1 0 1000000<;>rfl

theorem gt_not (n k:Nat):decide ((n:Int)>(k:Int))= !decide (n≤k):=by rw [Bool.eq_iff_iff];simp

def hopsE (l:List (den tHop)):Bool:=decide (l.length≤8)&&l.all validH

theorem i_hopsE {l:List (den tHop)} (h:l.length≤68719476736):i_hopsEncodable l=some (hopsE l):=by
 unfold i_hopsEncodable hopsE
 rw [loop_scan (l:=l) (fun _ x=>if validH x then none else some false) (by omega) (fun k x hi hd hw hm hk=>by
  simp only [hd,hi,hw,cond_true,obind_some,peta,i_validH]
  cases validH x<;>rfl) (by simp),scanA validH]
 have e:=gt_not l.length 8
 rw [show ((8:Nat):Int)=8 from rfl] at e
 rw [e]
 cases decide (l.length≤8)<;>cases l.all validH<;>rfl

def encPt (p:den tPp):Bool:=inR p.1 1 4&&(inR p.2.1 0 1000000&&(resid p.2.2.1&&hopsE p.2.2.2))

theorem s_encS {p:den tSg} (h:p.2.2.length≤68719476736):s_Encodable p=some (inR p.1 0 1000000&&(resid p.2.1&&hopsE p.2.2)):=by
 unfold s_Encodable hopsE
 rw [loop_scan (l:=p.2.2) (fun _ x=>if validH x then none else some false) (by omega) (fun k x hi hd hw hm hk=>by
  simp only [hd,hi,hw,cond_true,obind_some,peta,s_validH]
  cases validH x<;>rfl) (by simp),scanA validH]
 have e:=gt_not p.2.2.length 8
 rw [show ((8:Nat):Int)=8 from rfl] at e
 rw [e,s_in,s_resid]
 cases inR p.1 0 1000000<;>cases resid p.2.1<;>cases decide (p.2.2.length≤8)<;>cases p.2.2.all validH<;>rfl

def encP (p:den tPt):Bool:=decide (p.length≤3)&&p.all encPt

theorem i_encP {p:den tPt} (h:SmB 68719476736 tPt p):i_EncodablePath p=some (encP p):=by
 unfold i_EncodablePath encP
 rw [loop_scan (l:=p) (fun _ x=>if encPt x then none else some false) (Nat.le_trans h.1 (by decide)) (fun k x hi hd hw hm hk=>by
  have hx:=(h.2 x hm).2.2.2.1
  simp only [hd,hi,hw,cond_true,obind_some,peta,i_in,i_resid,i_hopsE hx]
  unfold encPt
  cases inR x.1 1 4<;>cases inR x.2.1 0 1000000<;>cases resid x.2.2.1<;>cases hopsE x.2.2.2<;>rfl) (by simp),scanA encPt]
 have e:=gt_not p.length 3
 rw [show ((3:Nat):Int)=3 from rfl] at e
 rw [e]
 cases decide (p.length≤3)<;>cases p.all encPt<;>rfl

theorem s_encP {p:den tPt} (h:SmB 68719476736 tPt p):s_EncodablePath p=some (encP p):=by
 unfold s_EncodablePath encP
 rw [loop_scan (l:=p) (fun _ x=>if encPt x then none else some false) (Nat.le_trans h.1 (by decide)) (fun k x hi hd hw hm hk=>by
  have hx:=(h.2 x hm).2.2.2.1
  have hs:=s_encS (p:=(x.2.1,x.2.2.1,x.2.2.2)) hx
  simp only [hd,hi,hw,cond_true,obind_some,peta,s_in]
  simp only [peta] at hs
  simp only [hs,obind_some]
  unfold encPt
  cases inR x.1 1 4<;>cases inR x.2.1 0 1000000<;>cases resid x.2.2.1<;>cases hopsE x.2.2.2<;>rfl) (by simp),scanA encPt]
 have e:=gt_not p.length 3
 rw [show ((3:Nat):Int)=3 from rfl] at e
 rw [e]
 cases decide (p.length≤3)<;>cases p.all encPt<;>rfl

def full (x:den tPp):Bool:= !((x.2.2.2.length:Int)==0)

def validK (p:den tPk):Bool:=inR p.1 1 3&&(encP p.2.2.2.1&&(hasHop p&&(resid p.2.2.2.2.2.2.1&&(p.2.2.2.1.all full&&(inR p.2.1 0 7&&(inR p.2.2.1 0 7&&(inR p.2.2.2.2.2.2.2.1 0 100000&&(inR p.2.2.2.2.2.2.2.2.1 0 100000&&decide ((p.2.2.2.2.2.2.2.2.2.length:Int)≤40)))))))))

theorem hop_as {p:den tPk} (h:encP p.2.2.2.1=true):decide (curAS p<0)= !hasHop p:=by
 cases c:hasHop p with
 | false=>rw [curAS_no c];rfl
 | true=>
  obtain ⟨i,j,x,y,h1,h2,h3,h4,h5⟩:=hasHop_iff c
  rw [h5]
  unfold encP at h
  have ha:=(Bool.and_eq_true _ _▸h:_∧_).2
  have hx:=List.all_eq_true.1 ha x (List.mem_of_getElem? h3)
  unfold encPt hopsE at hx
  simp only [Bool.and_eq_true] at hx
  have hy:=List.all_eq_true.1 hx.2.2.2.2 y (List.mem_of_getElem? h4)
  unfold validH at hy
  simp only [Bool.and_eq_true,inR_iff] at hy
  have :=hy.1.1
  simp;omega

theorem i_validK {p:den tPk} (h:SmB 68719476736 tPk p):i_ValidPacket p=some (validK p):=by
 unfold i_ValidPacket validK
 rw [loop_scan (l:=p.2.2.2.1) (fun _ x=>if full x then none else some false) (Nat.le_trans h.2.2.2.1.1 (by decide)) (fun k x hi hd hw hm hk=>by
  simp only [hd,hi,hw,cond_true,obind_some]
  unfold full
  cases (x.2.2.2.length:Int)==0<;>rfl) (by simp),scanA full]
 simp only [i_in,peta,i_curAS h,i_encP h.2.2.2.1,i_resid,obind_some]
 cases inR p.1 1 3
 ·rfl
 ·cases he:encP p.2.2.2.1
  ·rfl
  ·rw [hop_as he]
   cases hz:(p.2.2.2.1.length:Int)==0
   ·cases hasHop p<;>simp only [Bool.not_true,Bool.not_false,cond_true,cond_false,obind_some,Bool.false_and,Bool.true_and]
    cases resid p.2.2.2.2.2.2.1<;>simp only [Bool.not_true,Bool.not_false,cond_true,cond_false,obind_some,Bool.false_and,Bool.true_and]
    cases p.2.2.2.1.all full<;>cases inR p.2.1 0 7<;>cases inR p.2.2.1 0 7<;>cases inR p.2.2.2.2.2.2.2.1 0 100000<;>cases inR p.2.2.2.2.2.2.2.2.1 0 100000<;>rfl
   ·have hh:hasHop p=false:=by
     have hl:(p.2.2.2.1.length:Int)=0:=by simpa using hz
     unfold hasHop
     have :inR p.2.2.2.2.1 0 ((p.2.2.2.1.length:Int) - 1)=false:=by rw [inR_not];omega
     rw [this];rfl
    rw [hh]
    rfl

theorem s_validK {p:den tPk} (h:SmB 68719476736 tPk p):s_ValidPacket p=some (validK p):=by
 have l1:=h.2.2.2.1.1
 unfold s_ValidPacket validK
 rw [loop_scan (l:=p.2.2.2.1) (fun _ x=>if full x then none else some false) (Nat.le_trans h.2.2.2.1.1 (by decide)) (fun k x hi hd hw hm hk=>by
  simp only [hd,hi,hw,cond_true,obind_some]
  unfold full
  cases (x.2.2.2.length:Int)==0<;>rfl) (by simp),scanA full]
 simp only [s_in,wr_len l1,s_encP h.2.2.2.1,s_resid,obind_some]
 unfold hasHop
 cases inR p.1 1 3
 ·rfl
 ·cases he:encP p.2.2.2.1
  ·rfl
  ·cases c1:inR p.2.2.2.2.1 0 ((p.2.2.2.1.length:Int) - 1)
   ·rfl
   ·rw [inR_iff] at c1
    obtain ⟨x,hx⟩:=get_some c1.1 c1.2
    have l2:=(h.2.2.2.1.2 _ (List.mem_of_getElem? hx)).2.2.2.1
    rw [idx_of c1.1 hx,hx]
    simp only [Bool.not_true,cond_false,obind_some,Option.getD_some,wr_len l2,Bool.true_and]
    cases resid p.2.2.2.2.2.2.1<;>cases inR p.2.2.2.2.2.1 0 ((x.2.2.2.length:Int) - 1)<;>cases p.2.2.2.1.all full<;>cases inR p.2.1 0 7<;>cases inR p.2.2.1 0 7<;>cases inR p.2.2.2.2.2.2.2.1 0 100000<;>cases inR p.2.2.2.2.2.2.2.2.1 0 100000<;>rfl

def atR (x:den tRs) (s d:Int):Bool:=x.2.1==s&&x.2.2.1==d

theorem i_at (x:den tRs) (s d:Int):i_Reservation_at x s d=some (atR x s d):=by
 unfold i_Reservation_at atR
 cases x.2.1==s<;>simp

theorem s_at (x:den tRs) (s d now:Int):s_l32At x s d now=some (atR x s d&&decide (now≤x.2.2.2.2)):=by
 unfold s_l32At atR
 cases x.2.1==s<;>cases x.2.2.1==d<;>simp

def rate (l:List (den tRs)) (s d now:Int):Int:=l.foldl (fun a x=>if atR x s d&&decide (now≤x.2.2.2.2) then wr (a+x.2.2.2.1) else a) 0

theorem i_rate {l:List (den tRs)} {s d now:Int} (h:l.length≤1073741824):i_ReservedRate l s d now=some (rate l s d now):=by
 unfold i_ReservedRate
 rw [(loop_fold' (l:=l) (out:=fun a=>a) (fun (a:Int) x=>if atR x s d&&decide (now≤x.2.2.2.2) then wr (a+x.2.2.2.1) else a) (fun _ _=>True) (by omega) trivial (fun k x a hi hd hw hx hk hI=>by
  refine ⟨?_,trivial⟩
  simp only [hd,hi,hw,cond_true,obind_some]
  rw [show ((x.1,x.2.1,x.2.2.1,x.2.2.2.1,x.2.2.2.2):den tRs)=x from rfl,i_at]
  cases atR x s d<;>cases decide (now≤x.2.2.2.2)<;>rfl) (fun a=>by simp)).1]
 rfl

theorem s_rate {l:List (den tRs)} {s d now:Int} (h:l.length≤1073741824):s_ReservedRate l s d now=some (rate l s d now):=by
 unfold s_ReservedRate
 rw [(loop_fold' (l:=l) (out:=fun a=>a) (fun (a:Int) x=>if atR x s d&&decide (now≤x.2.2.2.2) then wr (a+x.2.2.2.1) else a) (fun _ _=>True) (by omega) trivial (fun k x a hi hd hw hx hk hI=>by
  refine ⟨?_,trivial⟩
  simp only [hd,hi,hw,cond_true,obind_some]
  rw [show ((x.1,x.2.1,x.2.2.1,x.2.2.2.1,x.2.2.2.2):den tRs)=x from rfl,s_at]
  cases atR x s d<;>cases decide (now≤x.2.2.2.2)<;>rfl) (fun a=>by simp)).1]
 rfl

def free (l:List (den tRs)) (cap s d now:Int):Int:=if wr (cap - rate l s d now)>0 then wr (cap - rate l s d now) else 0

theorem i_free {l:List (den tRs)} {cap s d now:Int} (h:l.length≤1073741824):i_FreeRate l cap s d now=some (free l cap s d now):=by
 unfold i_FreeRate
 simp only [i_rate h,obind_some,i_max];rfl

theorem s_free {l:List (den tRs)} {cap s d now:Int} (h:l.length≤1073741824):s_FreeRate l cap s d now=some (free l cap s d now):=by
 unfold s_FreeRate
 simp only [s_rate h,obind_some,s_max];rfl

def resRate (l:List (den tRs)) (id s d now:Int):Int:=
 match scanI (fun _ (x:den tRs)=>if x.1==id&&(atR x s d&&decide (now≤x.2.2.2.2)) then some x.2.2.2.1 else none) 0 l with
 | some r=>r
 | none=>0

theorem i_resRate {l:List (den tRs)} {id s d now:Int} (h:l.length≤1073741824):i_ReservationRate l id s d now=some (resRate l id s d now):=by
 unfold i_ReservationRate
 rw [loop_scan (l:=l) (fun _ (x:den tRs)=>if x.1==id&&(atR x s d&&decide (now≤x.2.2.2.2)) then some x.2.2.2.1 else none) (by omega) (fun k x hi hd hw hx hk=>by
  simp only [hd,hi,hw,cond_true,obind_some]
  rw [show ((x.1,x.2.1,x.2.2.1,x.2.2.2.1,x.2.2.2.2):den tRs)=x from rfl,i_at]
  cases x.1==id<;>cases atR x s d<;>cases decide (now≤x.2.2.2.2)<;>rfl) (by simp)]
 unfold resRate
 cases scanI (fun _ (x:den tRs)=>if x.1==id&&(atR x s d&&decide (now≤x.2.2.2.2)) then some x.2.2.2.1 else none) 0 l<;>rfl

theorem s_resRate {l:List (den tRs)} {id s d now:Int} (h:l.length≤1073741824):s_ReservationRate l id s d now=some (resRate l id s d now):=by
 unfold s_ReservationRate
 rw [loop_scan (l:=l) (fun _ (x:den tRs)=>if x.1==id&&(atR x s d&&decide (now≤x.2.2.2.2)) then some x.2.2.2.1 else none) (by omega) (fun k x hi hd hw hx hk=>by
  simp only [hd,hi,hw,cond_true,obind_some]
  rw [show ((x.1,x.2.1,x.2.2.1,x.2.2.2.1,x.2.2.2.2):den tRs)=x from rfl,s_at]
  cases x.1==id<;>cases atR x s d<;>cases decide (now≤x.2.2.2.2)<;>rfl) (by simp)]
 unfold resRate
 cases scanI (fun _ (x:den tRs)=>if x.1==id&&(atR x s d&&decide (now≤x.2.2.2.2)) then some x.2.2.2.1 else none) 0 l<;>rfl

def sameU (id s d:Int) (x:den tUs):Bool:=x.1==id&&(x.2.1==s&&x.2.2.1==d)

def place (l:List (den tUs)) (id s d:Int):Int:=
 match scanI (fun k x=>if sameU id s d x then some (k:Int) else none) 0 l with
 | some i=>i
 | none=> -1

theorem place_at (l:List (den tUs)) (id s d:Int):place l id s d= -1∨ ∃ (j:Nat) (x:den tUs),place l id s d=(j:Int)∧l[j]? =some x∧j<l.length:=by
 unfold place
 cases h:scanI (fun k x=>if sameU id s d x then some (k:Int) else none) 0 l with
 | none=>exact .inl rfl
 | some i=>
  obtain ⟨j,x,h1,h2,h3⟩:=scanI_at h
  exact .inr ⟨j,x,by simpa using h2,h1,(List.getElem?_eq_some_iff.1 h1).1⟩

theorem i_place {g:den tSc} {id s d:Int} (h:g.2.2.length≤1073741824):i_usageAt g id s d=some (place g.2.2 id s d):=by
 unfold i_usageAt
 rw [loop_scan (l:=g.2.2) (fun k x=>if sameU id s d x then some (k:Int) else none) (by omega) (fun k x hi hd hw hx hk=>by
  simp only [hd,hi,hw,cond_true,obind_some]
  unfold sameU
  cases x.1==id<;>cases x.2.1==s<;>cases x.2.2.1==d<;>rfl) (by simp)]
 unfold place
 cases scanI (fun k x=>if sameU id s d x then some (k:Int) else none) 0 g.2.2<;>rfl

theorem s_place {l:List (den tUs)} {id s d:Int} (h:l.length≤1073741824):s_l34Place l id s d=some (place l id s d):=by
 unfold s_l34Place
 rw [loop_scan (l:=l) (fun k x=>if sameU id s d x then some (k:Int) else none) (by omega) (fun k x hi hd hw hx hk=>by
  simp only [hd,hi,hw,cond_true,obind_some]
  unfold sameU
  cases x.1==id<;>cases x.2.1==s<;>cases x.2.2.1==d<;>rfl) (by simp)]
 unfold place
 cases scanI (fun k x=>if sameU id s d x then some (k:Int) else none) 0 l<;>rfl

def rateU (g:den tSc) (id s d now:Int):Int:=if id==0 then free g.2.1 g.1 s d now else resRate g.2.1 id s d now

theorem i_rateU {g:den tSc} {id s d now:Int} (h:g.2.1.length≤1073741824):i_rateOf g id s d now=some (rateU g id s d now):=by
 unfold i_rateOf rateU
 rw [i_free h,i_resRate h]
 cases id==0<;>rfl

theorem wr_less {n:Nat} (h:n≤68719476736):wr ((n:Int) - 1)=(n:Int) - 1:=wri (by omega) (by omega)

def asOk (t:den tTo) (r:Int):Bool:=inR r 0 ((t.1.length:Int) - 1)

theorem i_asOk {t:den tTo} {r:Int} (h:t.1.length≤68719476736):i_isAS t r=some (asOk t r):=by
 unfold i_isAS asOk
 rw [wr_less h,i_in];rfl

theorem s_asOk {t:den tTo} {r:Int} (h:t.1.length≤68719476736):s_l5Realm t r=some (asOk t r):=by
 unfold s_l5Realm asOk
 rw [wr_less h,s_in];rfl

def endsL (l:den tLk) (r d:Int):Bool:=(l.1==r&&l.2.1==d)||(l.2.2.1==r&&l.2.2.2.1==d)

theorem i_endsL (l:den tLk) (r d:Int):i_usesInterface l r d=some (endsL l r d):=by
 unfold i_usesInterface endsL
 cases l.1==r<;>cases l.2.1==d<;>cases l.2.2.1==r<;>cases l.2.2.2.1==d<;>rfl

theorem s_endsL (l:den tLk) (r d:Int):s_l5Ends l r d=some (endsL l r d):=by
 unfold s_l5Ends endsL
 cases l.1==r<;>cases l.2.1==d<;>cases l.2.2.1==r<;>cases l.2.2.2.1==d<;>rfl

theorem as_at {t:den tTo} {r:Int} (h:asOk t r=true): ∃ x,t.1[r.toNat]? =some x∧idx t.1 r=some x:=by
 obtain ⟨h0,h1⟩:=inR_iff.1 h
 obtain ⟨x,hx⟩:=get_some h0 h1
 exact ⟨x,hx,idx_of h0 hx⟩

theorem slOk_take {k n:Nat} (h:k<n):slOk (0:Int) (k:Int) (n:Int)=true:=by
 have :=slOk_nat (a:=0) (b:=k) (n:=n)
 rw [show ((0:Nat):Int)=0 from rfl] at this
 rw [this];simp;omega

theorem len_take {α:Type} {l:List α} {k:Nat} (h:k<l.length):(l.take k).length=k:=by simp;omega

theorem i_copyT {t:den tTo} (h:SmB 68719476736 tTo t):i_copyTopology t=some t:=by
 unfold i_copyTopology
 simp only [apOk_le (b:=24) (n:=([]:List (den tAS)).length) (m:=t.1.length) (by decide) (by simpa using h.1.1),apOk_le (b:=40) (n:=([]:List (den tLk)).length) (m:=t.2.length) (by decide) (by simpa using h.2.1),cond_true,both_self,dup_self,dup3_self,dup4_self,dup5_self,obind_some,List.nil_append,peta]

theorem s_copyT {t:den tTo} (h:SmB 68719476736 tTo t):s_l37Topo t=some t:=by
 unfold s_l37Topo
 simp only [apOk_le (b:=24) (n:=([]:List (den tAS)).length) (m:=t.1.length) (by decide) (by simpa using h.1.1),apOk_le (b:=40) (n:=([]:List (den tLk)).length) (m:=t.2.length) (by decide) (by simpa using h.2.1),cond_true,both_self,dup_self,dup3_self,dup4_self,dup5_self,obind_some,List.nil_append,peta]

theorem i_copyG {x:den tSg} (h:x.2.2.length≤68719476736):i_copySegment x=some x:=by
 unfold i_copySegment
 rw [i_copyH h]
 rfl

theorem s_copyG {x:den tSg} (h:x.2.2.length≤68719476736):s_l9Copy x=some x:=by
 unfold s_l9Copy
 rw [apOk_le (b:=40) (n:=([]:List (den tHop)).length) (by decide) (by simpa using h)]
 rfl

theorem i_copyGs {l:List (den tSg)} (h:SmB 68719476736 (.sl tSg) l):i_copySegments l=some l:=by
 unfold i_copySegments
 rw [(loopF (fun k (a:List (den tSg))=>((k:Int),a)) ((0:Int),[]) [] l (fun _ x a=>a++[x]) List.length (fun _=>1) 68719476736 id rfl (Nat.le_trans h.1 (by decide)) (by rw [sum_one];simpa using h.1) (fun k x a hi hx hd hw hk hb=>by
  have e:=h.2 x (List.mem_of_getElem? hx)
  simp only [hd,hi,hw,cond_true,obind_some,peta,i_copyG e.2.2.1,apOk_le (b:=40) (by decide) hb]
  simp) (fun a=>by simp)).1,foldI_map (fun x=>x)]
 simp

theorem s_copyGs {l:List (den tSg)} (h:SmB 68719476736 (.sl tSg) l):s_l16All l=some l:=by
 unfold s_l16All
 rw [(loopF (fun k (a:List (den tSg))=>((k:Int),a)) ((0:Int),[]) [] l (fun _ x a=>a++[x]) List.length (fun _=>1) 68719476736 id rfl (Nat.le_trans h.1 (by decide)) (by rw [sum_one];simpa using h.1) (fun k x a hi hx hd hw hk hb=>by
  have e:=h.2 x (List.mem_of_getElem? hx)
  simp only [hd,hi,hw,cond_true,obind_some,peta,s_copyG e.2.2.1,apOk_le (b:=40) (by decide) hb]
  simp) (fun a=>by simp)).1,foldI_map (fun x=>x)]
 simp

def atFrom (a b:Int) (x:den tIb):Bool:=x.1==a&&x.2.1==b

theorem scan_find {α:Type} (p:α→Bool): ∀ (l:List α) (k:Nat),scanI (fun k x=>if p x then some (k:Int) else none) k l=(l.findIdx? p).map (fun i=>((k+i:Nat):Int))
 | [],_=>rfl
 | x::xs,k=>by
  simp only [scanI,List.findIdx?_cons]
  cases h:p x with
  | true=>simp
  | false=>
   simp only [Bool.false_eq_true,if_false]
   rw [scan_find p xs (k+1)]
   cases xs.findIdx? p with
   | none=>rfl
   | some i=>simp<;>omega

def findX (l:List (den tIb)) (a b:Int):Int:=((l.findIdx? (atFrom a b)).map (fun i=>((0+i:Nat):Int))).getD (-1)

theorem s_findX {l:List (den tIb)} {a b:Int} (h:l.length≤68719476736):s_FindInbox l a b=some (findX l a b):=by
 unfold s_FindInbox findX
 rw [loop_scan (l:=l) (fun k x=>if atFrom a b x then some (k:Int) else none) (by omega) (fun k x hi hd hw hm hk=>by
  simp only [hd,hi,hw,cond_true,obind_some]
  unfold atFrom
  cases x.1==a<;>cases x.2.1==b<;>rfl) (by simp),scan_find (atFrom a b)]
 cases l.findIdx? (atFrom a b)<;>rfl

def sameEnds (f g:den tFl):Bool:=g.1==f.1&&g.2.1==f.2.1

def alone (w:den tNw) (k:Nat) (f:den tFl):Bool:=(w.2.2.2.2.2.2.1.take k).all fun g=> !sameEnds f g

def found (w:den tNw) (k:Nat) (f:den tFl):Bool:=findX w.2.2.2.2.2.2.2.1 f.2.1 f.1==(k:Int)

theorem zip_iff {α:Type} (p:Nat→α→Bool) (l:List α):(l.zipIdx 0).all (fun z=>p z.2 z.1)=true↔ ∀ k x,l[k]? =some x→p k x=true:=by
 rw [List.all_eq_true]
 constructor
 ·intro h k x hx
  exact h (x,k) (List.mem_zipIdx_iff_getElem?.2 (by simpa using hx))
 ·rintro h ⟨x,k⟩ hz
  exact h k x (by simpa using List.mem_zipIdx_iff_getElem?.1 hz)

def modP (n:Int):Int:=Int.tmod (wr ((Int.tmod n 2147483647)+2147483647)) 2147483647

theorem i_modP (n:Int):i_Mod n 2147483647=some (modP n):=by unfold i_Mod;rw [i_in];rfl

theorem s_modP (n:Int):s_Mod n 2147483647=some (modP n):=by unfold s_Mod;rw [s_in];rfl

def digS (a x:Int):Int:=Int.tmod (wr ((wr ((wr (a * (1000003:Int)))+modP x))+(11:Int))) (2147483647:Int)

def digest (l:List Int):Int:=foldI (fun _ x a=>digS a x) 0 l 7

theorem i_digest {l:List Int} (h:l.length≤68719476736):i_Digest l=some (digest l):=by
 unfold i_Digest digest
 rw [loopG (fun k (a:Int)=>(a,(k:Int))) ((7:Int),(0:Int)) 7 l (fun _ x a=>digS a x) (fun _=>0) (fun _=>0) 1 id rfl (by omega) (by rw [sum_nil];omega) (fun k x a=>by omega) (fun k x a hi hx hd hw hk hb=>by
  simp only [hd,hi,hw,cond_true,obind_some,i_modP]
  rfl) (fun a=>by simp)]
 rfl

theorem s_digest {l:List Int} (h:l.length≤68719476736):s_Digest l=some (digest l):=by
 unfold s_Digest digest
 rw [loopG (fun k (a:Int)=>(a,(k:Int))) ((7:Int),(0:Int)) 7 l (fun _ x a=>digS a x) (fun _=>0) (fun _=>0) 1 id rfl (by omega) (by rw [sum_nil];omega) (fun k x a=>by omega) (fun k x a hi hx hd hw hk hb=>by
  simp only [hd,hi,hw,cond_true,obind_some,s_modP]
  rfl) (fun a=>by simp)]
 rfl

def hops (p:den tPt):List (den tHop):=foldI (fun _ x a=>a++x.2.2.2) 0 p []

theorem i_copyR {l:List (den tRs)} (h:l.length≤1073741824):i_copyReservations l=some l:=by
 unfold i_copyReservations
 rw [apOk_le (by decide) (by simp;omega)]
 simp

theorem i_copyS {g:den tSc} (h1:g.2.1.length≤1073741824) (h2:g.2.2.length≤1073741824):i_copyScheduler g=some g:=by
 unfold i_copyScheduler
 rw [i_copyR h1,obind_some,apOk_le (by decide) (by simp;omega)]
 simp

theorem s_copyS {g:den tSc} (h1:g.2.1.length≤1073741824) (h2:g.2.2.length≤1073741824):s_l34Copy g=some g:=by
 unfold s_l34Copy
 rw [apOk_le (b:=40) (by decide) (by simp;omega),apOk_le (b:=32) (by decide) (by simp;omega)]
 simp [both_self,dup_self,dup3_self,dup4_self,dup5_self]

def usedU (l:List (den tUs)) (id s d:Int):Int:=if place l id s d<0 then 0 else ((l[(place l id s d).toNat]?).map (·.2.2.2)).getD 0

theorem i_used {g:den tSc} {id s d:Int} (h:g.2.2.length≤1073741824):i_UsedCount g id s d=some (usedU g.2.2 id s d):=by
 unfold i_UsedCount usedU
 rw [show ((g.1,g.2.1,g.2.2):den tSc)=g from rfl,i_place h,obind_some]
 rcases place_at g.2.2 id s d with hp | ⟨j,x,hp,hx,hj⟩
 ·rw [hp];rfl
 ·rw [hp,decide_eq_true (by omega),cond_true,idx_nat,hx,if_neg (by omega)];simp [hx]

theorem s_used {g:den tSc} {id s d:Int} (h:g.2.2.length≤1073741824):s_UsedCount g id s d=some (usedU g.2.2 id s d):=by
 unfold s_UsedCount usedU
 rw [s_place h,obind_some]
 rcases place_at g.2.2 id s d with hp | ⟨j,x,hp,hx,hj⟩
 ·rw [hp];rfl
 ·rw [hp,decide_eq_false (by omega),cond_false,idx_nat,hx,if_neg (by omega)];simp [hx]

def moreU (l:List (den tUs)) (id s d:Int):List (den tUs):=
 if place l id s d<0 then l++[(id,s,d,1)] else match l[(place l id s d).toNat]? with
  | some x=>l.set (place l id s d).toNat (x.1,x.2.1,x.2.2.1,wr (x.2.2.2+1))
  | none=>l

theorem moreU_len (l:List (den tUs)) (id s d:Int):(moreU l id s d).length≤l.length+1:=by
 unfold moreU
 split
 ·simp
 ·split<;>simp

theorem s_more {g:den tSc} {id s d:Int} (h1:g.2.1.length≤1073741824) (h2:g.2.2.length≤1073741824):s_l34More g id s d=some (g.1,g.2.1,moreU g.2.2 id s d):=by
 unfold s_l34More moreU
 rw [show ((g.1,g.2.1,g.2.2):den tSc)=g from rfl,s_copyS h1 h2,obind_some,s_place h2,obind_some]
 rcases place_at g.2.2 id s d with hp | ⟨j,x,hp,hx,hj⟩
 ·rw [hp,apOk_le (b:=32) (by decide) (by omega)];rfl
 ·have hd:decide ((j:Int)<(g.2.2.length:Int))=true:=by simpa using hj
  have hd2:decide (j<g.2.2.length)=true:=by simpa using hj
  have hd0:decide ((0:Int)≤(j:Int))=true:=by simp
  rw [hp,decide_eq_false (show ¬ (j:Int)<0 by omega),cond_false,if_neg (by omega)]
  simp only [hd,hd0,hd2,cond_true,Int.toNat_natCast,hx,obind_some]

def transU (g:den tSc) (id s d now:Int):Int×Bool×List (den tRs)×List (den tUs):=
 if usedU g.2.2 id s d<rateU g id s d now then (g.1,true,g.2.1,moreU g.2.2 id s d)
 else if usedU g.2.2 0 s d<rateU g 0 s d now then (g.1,true,g.2.1,moreU g.2.2 0 s d)
 else (g.1,false,g.2.1,g.2.2)

theorem i_trans {g:den tSc} {id s d now:Int} (h1:g.2.1.length≤1073741824) (h2:g.2.2.length≤1073741824):i_Transmit g id s d now=some (transU g id s d now):=by
 unfold i_Transmit
 rw [show ((g.1,g.2.1,g.2.2):den tSc)=g from rfl,i_copyS h1 h2,obind_some]
 rw [loop_scan (l:=[id,0]) (fun _ n=>if usedU g.2.2 n s d<rateU g n s d now then some (g.1,true,g.2.1,moreU g.2.2 n s d) else none) (by simp) (fun k n hi hd hw hx hk=>by
  rw [idx_nat] at hi
  have hd0:decide ((0:Int)≤(k:Int))=true:=by simp
  simp only [hd,hd0,hi,hw,cond_true,obind_some,Int.toNat_natCast,i_used h2,i_rateU h1,i_place h2]
  by_cases hu:usedU g.2.2 n s d<rateU g n s d now
  ·rw [decide_eq_false (by omega),cond_false,if_pos hu]
   unfold moreU
   rcases place_at g.2.2 n s d with hp | ⟨j,x,hp,hx,hj⟩
   ·rw [hp,apOk_le (b:=32) (by decide) (by omega)];rfl
   ·have hd1:decide ((j:Int)<(g.2.2.length:Int))=true:=by simpa using hj
    have hd2:decide ((j:Int)≥0)=true:=by simp
    have hd3:decide ((0:Int)≤(j:Int))=true:=by simp
    rw [hp,if_neg (by omega)]
    simp only [hd1,hd2,hd3,cond_true,Int.toNat_natCast,hx,obind_some]
  ·rw [decide_eq_true (by omega),cond_true,if_neg hu]) (by simp)]
 unfold transU
 simp only [scanI]
 by_cases hu:usedU g.2.2 id s d<rateU g id s d now
 ·simp [hu]
 ·by_cases hv:usedU g.2.2 0 s d<rateU g 0 s d now<;>simp [hu,hv]

theorem s_trans {g:den tSc} {id s d now:Int} (h1:g.2.1.length≤1073741824) (h2:g.2.2.length≤1073741824):s_Transmit g id s d now=some (transU g id s d now):=by
 unfold s_Transmit transU
 rw [show ((g.1,g.2.1,g.2.2):den tSc)=g from rfl]
 simp only [s_used h2,s_resRate h1,s_free h1,s_more h1 h2,s_copyS h1 h2,obind_some]
 have h0:rateU g 0 s d now=free g.2.1 g.1 s d now:=rfl
 rw [h0]
 by_cases hid:id=0
 ·subst hid
  rw [h0]
  by_cases hv:usedU g.2.2 0 s d<free g.2.1 g.1 s d now<;>simp [hv]
 ·have hr:rateU g id s d now=resRate g.2.1 id s d now:=by unfold rateU;simp [hid]
  have hne:(id != 0)=true:=by simpa using hid
  rw [hr,hne,cond_true,obind_some]
  by_cases hu:usedU g.2.2 id s d<resRate g.2.1 id s d now
  ·simp [hu]
  ·by_cases hv:usedU g.2.2 0 s d<free g.2.1 g.1 s d now<;>simp [hu,hv]

def linkIx (t:den tTo) (r d:Int):Int:=
 match scanI (fun k x=>if endsL x r d then some (k:Int) else none) 0 t.2 with
 | some i=>i
 | none=> -1

theorem linkIx_at (t:den tTo) (r d:Int):linkIx t r d= -1∨ ∃ (j:Nat) (x:den tLk),linkIx t r d=(j:Int)∧t.2[j]? =some x∧endsL x r d=true:=by
 unfold linkIx
 cases h:scanI (fun k x=>if endsL x r d then some (k:Int) else none) 0 t.2 with
 | none=>exact .inl rfl
 | some i=>
  obtain ⟨j,x,h1,h2,h3⟩:=scanI_at h
  exact .inr ⟨j,x,by simpa using h2,h1,h3⟩

theorem i_linkIx {t:den tTo} {r d:Int} (h:t.2.length≤68719476736):i_LinkIndex t r d=some (linkIx t r d):=by
 unfold i_LinkIndex
 rw [loop_scan (l:=t.2) (fun k x=>if endsL x r d then some (k:Int) else none) (by omega) (fun k x hi hd hw hx hk=>by
  simp only [hd,hi,hw,cond_true,obind_some,i_endsL]
  cases endsL x r d<;>rfl) (by simp)]
 unfold linkIx
 cases scanI (fun k x=>if endsL x r d then some (k:Int) else none) 0 t.2<;>rfl

theorem s_linkIx {t:den tTo} {r d:Int} (h:t.2.length≤68719476736):s_LinkIndex t r d=some (linkIx t r d):=by
 unfold s_LinkIndex
 rw [loop_scan (l:=t.2) (fun k x=>if endsL x r d then some (k:Int) else none) (by omega) (fun k x hi hd hw hx hk=>by
  simp only [hd,hi,hw,cond_true,obind_some,s_endsL]
  cases endsL x r d<;>rfl) (by simp)]
 unfold linkIx
 cases scanI (fun k x=>if endsL x r d then some (k:Int) else none) 0 t.2<;>rfl


def farE (x:den tLk) (r d:Int):Int×Int:=cond (x.1==r&&x.2.1==d) (x.2.2.1,x.2.2.2.1) (x.1,x.2.1)

def remote (t:den tTo) (r d:Int):Int×Int:=if linkIx t r d<0 then (-1,0) else farE ((t.2[(linkIx t r d).toNat]?).getD (0,0,0,0,0)) r d

theorem i_remote {t:den tTo} {r d:Int} (h:t.2.length≤68719476736):i_RemoteEnd t r d=some (remote t r d):=by
 unfold i_RemoteEnd remote
 simp only [peta,i_linkIx h,obind_some]
 rcases linkIx_at t r d with e | ⟨j,x,e,hx,he⟩
 ·rw [e];rfl
 ·rw [e,decide_eq_false (by omega),cond_false,if_neg (by omega),idx_nat,hx,Int.toNat_natCast,hx,obind_some,Option.getD_some]
  unfold farE
  cases x.1==r<;>cases x.2.1==d<;>rfl

theorem s_remote {t:den tTo} {r d:Int} (h:t.2.length≤68719476736):s_RemoteEnd t r d=some (remote t r d):=by
 unfold s_RemoteEnd remote
 simp only [peta,s_linkIx h,obind_some]
 rcases linkIx_at t r d with e | ⟨j,x,e,hx,he⟩
 ·rw [e];rfl
 ·rw [e,decide_eq_false (by omega),cond_false,if_neg (by omega),idx_nat,hx,Int.toNat_natCast,hx,obind_some,Option.getD_some]
  unfold farE
  cases x.1==r<;>cases x.2.1==d<;>rfl

def kindL (x:den tLk) (r d:Int):Int:=cond (x.2.2.2.2==1) 1 (cond (x.2.2.2.2==3) 4 (cond (x.2.2.2.2==2) (cond (x.1==r&&x.2.1==d) 2 3) 0))

def kindI (t:den tTo) (r d:Int):Int:=cond (d==0) 5 (if linkIx t r d<0 then 0 else kindL ((t.2[(linkIx t r d).toNat]?).getD (0,0,0,0,0)) r d)

theorem i_kindI {t:den tTo} {r d:Int} (h:t.2.length≤68719476736):i_InterfaceKind t r d=some (kindI t r d):=by
 unfold i_InterfaceKind kindI
 simp only [peta,i_linkIx h,obind_some]
 cases d==0
 ·rcases linkIx_at t r d with e | ⟨j,x,e,hx,he⟩
  ·rw [e];rfl
  ·rw [e,decide_eq_false (by omega),cond_false,cond_false,cond_false,if_neg (by omega),idx_nat,hx,Int.toNat_natCast,hx,obind_some,Option.getD_some]
   unfold kindL
   rw [show (x.2.2.2.2 != 2)= !(x.2.2.2.2==2) from rfl]
   cases x.2.2.2.2==1<;>cases x.2.2.2.2==3<;>cases x.2.2.2.2==2<;>cases x.1==r<;>cases x.2.1==d<;>rfl
 ·rfl

theorem s_kindI {t:den tTo} {r d:Int} (h:t.2.length≤68719476736):s_InterfaceKind t r d=some (kindI t r d):=by
 unfold s_InterfaceKind kindI
 simp only [peta,s_linkIx h,obind_some]
 cases d==0
 ·rcases linkIx_at t r d with e | ⟨j,x,e,hx,he⟩
  ·rw [e];rfl
  ·rw [e,decide_eq_false (by omega),cond_false,cond_false,cond_false,if_neg (by omega),idx_nat,hx,Int.toNat_natCast,hx,obind_some,Option.getD_some]
   unfold kindL
   cases x.2.2.2.2==1<;>cases x.2.2.2.2==3<;>cases x.2.2.2.2==2<;>cases x.1==r<;>cases x.2.1==d<;>rfl
 ·rfl

def transit (a b:Int):Bool:=cond (a==5||a==2) (b==2||b==5||(b==1||b==3)) (cond (a==3) (b==2||b==5) (cond (a==1) (b==2||b==5||b==1) false))

theorem i_transit (a b:Int):i_TransitAllowed a b=some (transit a b):=by
 unfold i_TransitAllowed transit
 cases c5:a==5<;>cases c2:a==2<;>cases a==3<;>cases a==1<;>cases b==2<;>cases b==5<;>cases b==1<;>cases b==3<;>first | rfl | (simp at c5 c2;omega)

theorem s_transit (a b:Int):s_TransitAllowed a b=some (transit a b):=by
 unfold s_TransitAllowed transit
 cases c5:a==5<;>cases c2:a==2<;>cases a==3<;>cases a==1<;>cases b==2<;>cases b==5<;>cases b==1<;>cases b==3<;>first | rfl | (simp at c5 c2;omega)

def stepA (t:den tTo) (s:den tStep):Bool:=transit (kindI t s.1 s.2.1) (kindI t s.1 s.2.2)&&(!(s.2.1==s.2.2)||s.2.1==0)

theorem i_stepA {t:den tTo} {s:den tStep} (h:t.2.length≤68719476736):i_StepAllowed t s=some (stepA t s):=by
 unfold i_StepAllowed stepA
 simp only [peta,i_kindI h,i_transit,obind_some]
 rw [show (s.2.1 != s.2.2)= !(s.2.1==s.2.2) from rfl]
 cases transit (kindI t s.1 s.2.1) (kindI t s.1 s.2.2)<;>cases s.2.1==s.2.2<;>cases s.2.1==0<;>rfl

theorem s_stepA {t:den tTo} {s:den tStep} (h:t.2.length≤68719476736):s_StepAllowed t s=some (stepA t s):=by
 unfold s_StepAllowed stepA
 simp only [peta,s_kindI h,s_transit,obind_some]
 rw [show (s.2.1 != 0)= !(s.2.1==0) from rfl]
 cases transit (kindI t s.1 s.2.1) (kindI t s.1 s.2.2)<;>cases s.2.1==s.2.2<;>cases s.2.1==0<;>rfl

def inSet (s i:Int):Bool:=inR s 0 65535&&(inR i 0 15&&(bAnd .i64 (shr .i64 s i) 1==1))

theorem u64_small {i:Int} (h:inR i 0 15=true):IntKind.wrap .u64 i=i:=by
 obtain ⟨h0,h1⟩:=inR_iff.1 h
 have :=u64_wrap (n:=i.toNat) (by omega)
 rwa [Int.toNat_of_nonneg h0] at this

theorem i_inSet (s i:Int):i_Contains s i=some (inSet s i):=by
 unfold i_Contains inSet i_ValidSet
 simp only [i_in,obind_some]
 cases inR s 0 65535
 ·rfl
 ·cases c:inR i 0 15
  ·rfl
  ·rw [u64_small c,decide_eq_false (by have :=inR_iff.1 c;omega)]
   rfl

theorem s_inSet (s i:Int):s_Contains s i=some (inSet s i):=by
 unfold s_Contains inSet s_ValidSet s_l4One
 simp only [s_in,obind_some]
 cases inR s 0 65535
 ·rfl
 ·cases c:inR i 0 15
  ·rfl
  ·simp only [cond_true,obind_some,decide_eq_false (show ¬ i<0 by have :=inR_iff.1 c;omega),cond_false,Bool.true_and]

def addE (s i:Int):Int:=cond (inR s 0 65535&&inR i 0 15) (bOr .i64 s (shl .i64 1 i)) s

theorem i_addE (s i:Int):i_AddElement s i=some (addE s i):=by
 unfold i_AddElement addE i_ValidSet
 simp only [i_in,obind_some]
 cases inR s 0 65535
 ·rfl
 ·cases c:inR i 0 15
  ·rfl
  ·rw [u64_small c,decide_eq_false (by have :=inR_iff.1 c;omega)]
   rfl

theorem s_addE (s i:Int):s_AddElement s i=some (addE s i):=by
 unfold s_AddElement addE s_ValidSet s_l4One
 simp only [s_in,obind_some]
 cases inR s 0 65535
 ·rfl
 ·cases c:inR i 0 15
  ·rfl
  ·rw [decide_eq_false (by have :=inR_iff.1 c;omega)]
   rfl

theorem forL_pos {α:Type} (p:α→Bool) (N:Int): ∀ (l:List α) (k:Nat),N=((k+l.length:Nat):Int)→forL (fun k x (_:Unit)=>if p x then .inl () else .inr (k:Int)) (fun _=>N) k l ()=((k+l.findIdx (fun x=> !p x):Nat):Int)
 | [],k,h=>by simpa [forL] using h
 | x::xs,k,h=>by
  simp only [forL,List.findIdx_cons]
  cases hp:p x with
  | true=>
   have :=forL_pos p N xs (k+1) (by rw [h];simp;omega)
   simp only [if_true,this,Bool.not_true,cond_false]
   omega
  | false=>simp

def posI (l:List Int) (n:Int):Nat:=l.findIdx fun x=> !decide (x<n)

theorem posI_le (l:List Int) (n:Int):posI l n≤l.length:=List.findIdx_le_length

theorem posI_loop {l:List Int} {n:Int} {step:Int→Option (Int⊕Int)} (hl:l.length≤68719476736)
  (h: ∀ (k:Nat) (x:Int),idx l (k:Int)=some x→l[k]? =some x→decide ((k:Int)<(l.length:Int))=true→IntKind.i64.wrap ((k:Int)+1)=((k+1:Nat):Int)→step (k:Int)=some (if decide (x<n) then .inl ((k+1:Nat):Int) else .inr (k:Int)))
  (he:step (l.length:Int)=some (.inr (l.length:Int))):loopM step (0:Int)=some (posI l n:Int):=by
 rw [loopE (fun k (_:Unit)=>(k:Int)) (0:Int) () l (fun k x _=>if decide (x<n) then .inl () else .inr (k:Int)) (fun _ _=>True) (fun _=>(l.length:Int)) rfl (by omega) trivial (fun k x a hi hx hd hw hk _=>by
  refine ⟨?_,fun _ _=>trivial⟩
  rw [h k x hi hx hd hw]
  cases decide (x<n)<;>rfl) (fun _ _=>he)]
 rw [forL_pos (fun x=>decide (x<n)) (l.length:Int) l 0 (by simp)]
 simp [posI]


def insI (l:List Int) (n:Int):List Int:=if l[posI l n]? =some n then l else l.take (posI l n)++[n]++l.drop (posI l n)

theorem insI_len (l:List Int) (n:Int):(insI l n).length≤l.length+1:=by
 unfold insI
 split
 ·omega
 ·simp;omega

theorem slOk_to {k n:Nat} (h:k≤n):slOk (0:Int) (k:Int) (n:Int)=true:=by
 simp only [slOk,Bool.and_eq_true,decide_eq_true_eq];omega

theorem slOk_from {k n:Nat} (h:k≤n):slOk (k:Int) (n:Int) (n:Int)=true:=by
 simp only [slOk,Bool.and_eq_true,decide_eq_true_eq];omega

theorem cut_from {α:Type} {l:List α} {k:Nat}:cut l (k:Int) (l.length:Int)=l.drop k:=by
 unfold cut
 rw [Int.toNat_natCast]
 apply List.take_of_length_le
 simp

theorem i_copyI {l:List Int} (h:l.length≤68719476736):i_copyInts l=some l:=by
 unfold i_copyInts
 rw [apOk_le (n:=([]:List Int).length) (by decide) (by simpa using h)];rfl

theorem ins_at {l:List Int} {n:Int} {b:Bool} (hb:(l[posI l n]? =some n)=(b=true)):insI l n=cond b l (l.take (posI l n)++[n]++l.drop (posI l n)):=by
 unfold insI
 cases b with
 | true=>rw [if_pos (by rw [hb])];rfl
 | false=>rw [if_neg (by rw [hb];simp)];rfl

theorem i_insI {l:List Int} {n:Int} (h:l.length≤4294967296):i_insertInt l n=some (insI l n):=by
 have hp:=posI_le l n
 unfold i_insertInt
 rw [posI_loop (l:=l) (n:=n) (by omega) (fun k x hi hx hd hw=>by
  simp only [hd,cond_true,hi,obind_some,hw]
  cases decide (x<n)<;>rfl) (by simp)]
 simp only [obind_some,slOk_to hp,slOk_from hp,cut_take,cut_from,cond_true,both_self,dup_self,dup3_self,dup4_self,dup5_self,i_copyI (l:=l.take (posI l n)) (by simp;omega)]
 rw [apOk_le (b:=8) (n:=(l.take (posI l n)).length) (m:=1) (by decide) (by simp;omega),apOk_le (b:=8) (m:=(l.drop (posI l n)).length) (by decide) (by simp;omega)]
 by_cases hlt:posI l n<l.length
 ·have hx:l[posI l n]? =some l[posI l n]:=List.getElem?_eq_getElem hlt
  rw [decide_eq_true (by omega),cond_true,idx_nat,hx,obind_some,obind_some]
  rw [ins_at (b:=l[posI l n]==n) (by rw [hx];simp)]
  cases l[posI l n]==n<;>rfl
 ·rw [decide_eq_false (by omega),cond_false,obind_some]
  rw [ins_at (b:=false) (by rw [List.getElem?_eq_none (by omega)];simp)]
  rfl

theorem s_insI {l:List Int} {n:Int} (h:l.length≤4294967296):s_l5Put'r l n=some (insI l n):=by
 have hp:=posI_le l n
 unfold s_l5Put'r
 rw [posI_loop (l:=l) (n:=n) (by omega) (fun k x hi hx hd hw=>by
  simp only [hd,cond_true,pos_nat,Int.toNat_natCast,hx,obind_some,hw]
  cases decide (x<n)<;>rfl) (by simp)]
 simp only [obind_some,slOk_to hp,slOk_from hp,cut_take,cut_from,cond_true,both_self,dup_self,dup3_self,dup4_self,dup5_self,List.nil_append,List.length_nil]
 rw [apOk_le (b:=8) (n:=0) (m:=(l.take (posI l n)).length) (by decide) (by simp;omega),apOk_le (b:=8) (n:=(l.take (posI l n)).length) (m:=1) (by decide) (by simp;omega),apOk_le (b:=8) (m:=(l.drop (posI l n)).length) (by decide) (by simp;omega)]
 by_cases hlt:posI l n<l.length
 ·have hx:l[posI l n]? =some l[posI l n]:=List.getElem?_eq_getElem hlt
  rw [decide_eq_true (by omega),cond_true,pos_nat,cond_true,cond_true,Int.toNat_natCast,hx,obind_some,obind_some]
  rw [ins_at (b:=l[posI l n]==n) (by rw [hx];simp)]
  cases l[posI l n]==n<;>rfl
 ·rw [decide_eq_false (by omega),cond_false,obind_some]
  rw [ins_at (b:=false) (by rw [List.getElem?_eq_none (by omega)];simp)]
  rfl


def doorS (r:Int) (x:den tLk) (a:List Int):List Int:=cond (x.2.2.1==r) (insI (cond (x.1==r) (insI a x.2.1) a) x.2.2.2.1) (cond (x.1==r) (insI a x.2.1) a)

theorem doorS_len (r:Int) (x:den tLk) (a:List Int):(doorS r x a).length≤a.length+2:=by
 unfold doorS
 have h1:=insI_len a x.2.1
 have h2:=insI_len (insI a x.2.1) x.2.2.2.1
 have h3:=insI_len a x.2.2.2.1
 cases x.1==r<;>cases x.2.2.1==r<;>simp only [cond_true,cond_false]<;>omega

def doors (t:den tTo) (r:Int):List Int:=foldI (fun _ x a=>doorS r x a) 0 t.2 []

theorem doors_len (t:den tTo) (r:Int):(doors t r).length≤2 * t.2.length:=by
 have h:=foldI_m (f:=fun _ x (a:List Int)=>doorS r x a) (m:=List.length) (cost:=fun _=>2) (fun k x a=>doorS_len r x a) t.2 0 []
 rw [sum_two] at h
 simpa [doors] using h

theorem i_doors {t:den tTo} {r:Int} (h:t.2.length≤1073741824):i_Interfaces t r=some (doors t r):=by
 unfold i_Interfaces
 rw [(loopF (fun k (a:List Int)=>(a,(k:Int))) ([],(0:Int)) [] t.2 (fun _ x a=>doorS r x a) List.length (fun _=>2) 4294967296 id rfl (by omega) (by rw [sum_two];simp;omega) (fun k x a hi hx hd hw hk hb=>by
  refine ⟨?_,doorS_len r x a⟩
  have h1:=insI_len a x.2.1
  simp only [hd,hi,hw,cond_true,obind_some,i_insI (l:=a) (by omega),i_insI (l:=insI a x.2.1) (by omega)]
  unfold doorS
  cases x.1==r<;>cases x.2.2.1==r<;>simp only [cond_true,cond_false,obind_some,i_insI (l:=a) (by omega),i_insI (l:=insI a x.2.1) (by omega)]) (fun a=>by simp)).1]
 rfl

theorem s_doors {t:den tTo} {r:Int} (h:t.2.length≤1073741824):s_Interfaces t r=some (doors t r):=by
 unfold s_Interfaces
 rw [(loopF (fun k (a:List Int)=>((k:Int),a)) ((0:Int),[]) [] t.2 (fun _ x a=>doorS r x a) List.length (fun _=>2) 4294967296 id rfl (by omega) (by rw [sum_two];simp;omega) (fun k x a hi hx hd hw hk hb=>by
  refine ⟨?_,doorS_len r x a⟩
  have h1:=insI_len a x.2.1
  simp only [hd,hi,hw,cond_true,obind_some,s_insI (l:=a) (by omega),s_insI (l:=insI a x.2.1) (by omega)]
  unfold doorS
  cases x.1==r<;>cases x.2.2.1==r<;>simp only [cond_true,cond_false,obind_some,s_insI (l:=a) (by omega),s_insI (l:=insI a x.2.1) (by omega)]) (fun a=>by simp)).1]
 rfl

theorem sum_zero {α:Type} (l:List α):(l.map fun _=>0).sum=0:=by
 induction l with
 | nil=>rfl
 | cons x l ih=>rw [List.map_cons,List.sum_cons,ih]


def deadE (t:den tTo) (dead:List Int) (r:Int):Int:=foldI (fun _ x a=>cond (hasI dead (linkIx t r x)) (addE a x) a) 0 (doors t r) 0

theorem i_deadE {t:den tTo} {dead:List Int} {r:Int} (h:t.2.length≤1073741824) (hd:dead.length≤68719476736):i_FailedInterfaces t dead r=some (deadE t dead r):=by
 have hl:=doors_len t r
 unfold i_FailedInterfaces
 simp only [peta,i_doors h,obind_some]
 rw [loopG (fun k (a:Int)=>(a,(k:Int))) ((0:Int),(0:Int)) 0 (doors t r) (fun _ x a=>cond (hasI dead (linkIx t r x)) (addE a x) a) (fun _=>0) (fun _=>0) 0 id rfl (by omega) (by rw [sum_zero];exact Nat.le_refl _) (fun _ _ _=>Nat.le_refl _) (fun k x a hi hx hd' hw hk hb=>by
  simp only [hd',hi,hw,cond_true,obind_some,i_linkIx (t:=t) (r:=r) (d:=x) (by omega),i_hasI hd,i_addE]
  cases hasI dead (linkIx t r x)<;>rfl) (fun a=>by simp)]
 rfl

theorem s_deadE {t:den tTo} {dead:List Int} {r:Int} (h:t.2.length≤1073741824) (hd:dead.length≤68719476736):s_FailedInterfaces t dead r=some (deadE t dead r):=by
 have hl:=doors_len t r
 unfold s_FailedInterfaces
 simp only [peta,s_doors h,obind_some]
 rw [loopG (fun k (a:Int)=>(a,(k:Int))) ((0:Int),(0:Int)) 0 (doors t r) (fun _ x a=>cond (hasI dead (linkIx t r x)) (addE a x) a) (fun _=>0) (fun _=>0) 0 id rfl (by omega) (by rw [sum_zero];exact Nat.le_refl _) (fun _ _ _=>Nat.le_refl _) (fun k x a hi hx hd' hw hk hb=>by
  simp only [hd',pos_nat,Int.toNat_natCast,hx,hw,cond_true,obind_some,s_linkIx (t:=t) (r:=r) (d:=x) (by omega),s_hasI hd,s_addE]
  cases hasI dead (linkIx t r x)<;>rfl) (fun a=>by simp)]
 rfl

def macH (key ts beta:Int) (h:den tHop):Int:=digest (([key]++[ts,beta,h.1,h.2.1,h.2.2.1,h.2.2.2.1])++[key])

theorem i_macH (key ts beta:Int) (h:den tHop):i_HopMAC key ts beta h=some (macH key ts beta h):=by
 unfold i_HopMAC i_ComputeMAC macH
 rw [apOk_le (b:=8) (n:=[key].length) (by decide) (by simp),apOk_le (b:=8) (by decide) (by simp),i_digest (by simp)]
 rfl

theorem s_macH (key ts beta:Int) (h:den tHop):s_HopMAC key ts beta h=some (macH key ts beta h):=by
 unfold s_HopMAC s_ComputeMAC macH
 rw [apOk_le (b:=8) (n:=[key].length) (by decide) (by simp),apOk_le (b:=8) (by decide) (by simp),s_digest (by simp)]
 rfl

def h0:den tHop:=(0,0,0,0,0)

def keyOf (t:den tTo) (r:Int):Int:=((t.1[r.toNat]?).getD (0,false,0)).2.2

def verH (t:den tTo) (ts beta:Int) (h:den tHop):Bool:=validH h&&(asOk t h.1&&(h.2.2.2.2==macH (keyOf t h.1) ts beta h))

theorem i_verH {t:den tTo} {ts beta:Int} {h:den tHop} (ht:t.1.length≤68719476736):i_VerifyHop t ts beta h=some (verH t ts beta h):=by
 unfold i_VerifyHop verH
 simp only [peta,i_validH,i_asOk ht,obind_some,i_macH]
 cases validH h
 ·rfl
 ·cases c:asOk t h.1
  ·rfl
  ·obtain ⟨x,hx,ix⟩:=as_at c
   rw [ix,keyOf,hx]
   rfl

theorem s_verH {t:den tTo} {ts beta:Int} {h:den tHop} (ht:t.1.length≤68719476736):s_VerifyHop t ts beta h=some (verH t ts beta h):=by
 unfold s_VerifyHop verH
 simp only [peta,s_validH,s_asOk ht,obind_some,s_macH]
 cases validH h
 ·rfl
 ·cases c:asOk t h.1
  ·rfl
  ·obtain ⟨x,hx,ix⟩:=as_at c
   rw [ix,keyOf,hx]
   rfl

def hopP (t:den tTo) (l:List (den tHop)) (k:Nat) (x:den tHop):Bool:=validH x&&(asOk t x.1&&(l.take k).all fun y=> !(y.1==x.1))

def hopsV (t:den tTo) (l:List (den tHop)):Bool:=(l.zipIdx 0).all fun z=>hopP t l z.2 z.1

theorem i_hopsV {t:den tTo} {l:List (den tHop)} (ht:t.1.length≤68719476736) (hl:l.length≤68719476736):i_hopsOk t l=some (inR (l.length:Int) 1 8&&hopsV t l):=by
 unfold i_hopsOk hopsV
 rw [loop_scan (l:=l) (fun k x=>if hopP t l k x then none else some false) (by omega) (fun k x hi hd hw hm hk=>by
  simp only [hd,hi,cond_true,obind_some,peta,i_validH,i_asOk ht,slOk_take hk,cut_take,hw]
  rw [loop_scan (l:=l.take k) (fun _ y=>if !(y.1==x.1) then none else some (Sum.inr (Sum.inr false))) (by rw [len_take hk];omega) (fun j y hi hd hw hm hk=>by
   simp only [hd,hi,hw,cond_true,obind_some]
   cases y.1==x.1<;>rfl) (by simp),scanA (fun y:den tHop=> !(y.1==x.1))]
  unfold hopP
  cases validH x<;>cases asOk t x.1<;>cases (l.take k).all (fun y=> !(y.1==x.1))<;>rfl) (by simp),scanB (hopP t l)]
 rw [i_in,obind_some]
 cases inR (l.length:Int) 1 8<;>cases (l.zipIdx 0).all (fun z=>hopP t l z.2 z.1)<;>rfl

def lnkP (t:den tTo) (p:den tPp) (x y:den tHop):Bool:= !(pEg p x==0)&&((remote t x.1 (pEg p x)).1==y.1&&(remote t x.1 (pEg p x)).2==pIn p y)

def lnkAt (t:den tTo) (p:den tPp) (k:Nat) (y:den tHop):Bool:=decide (k=0)||lnkP t p ((p.2.2.2[k - 1]?).getD h0) y

def validPt (t:den tTo) (p:den tPp):Bool:=
 inR (p.2.2.2.length:Int) 1 8&&(inR p.1 1 4&&(inR p.2.1 0 1000000&&(resid p.2.2.1&&(hopsV t p.2.2.2&&(p.2.2.2.zipIdx 0).all fun z=>lnkAt t p z.2 z.1))))

theorem drop_all (t:den tTo) (p:den tPp):((p.2.2.2.drop 1).zipIdx 0).all (fun z=>lnkP t p ((p.2.2.2[z.2]?).getD h0) z.1)=(p.2.2.2.zipIdx 0).all (fun z=>lnkAt t p z.2 z.1):=by
 rw [Bool.eq_iff_iff,zip_iff (fun k x=>lnkP t p ((p.2.2.2[k]?).getD h0) x),zip_iff (lnkAt t p)]
 constructor
 ·intro h k x hx
  cases k with
  | zero=>rfl
  | succ k=>
   have :=h k x (by rw [List.getElem?_drop,Nat.add_comm];exact hx)
   simpa [lnkAt] using this
 ·intro h k x hx
  rw [List.getElem?_drop,Nat.add_comm] at hx
  have :=h (k+1) x hx
  simpa [lnkAt] using this

theorem ne_beq (a b:Int):(a != b)= !(a==b):=rfl

theorem i_validPt {t:den tTo} {p:den tPp} (ht:t.1.length≤68719476736) (ht2:t.2.length≤68719476736) (hl:p.2.2.2.length≤68719476736):i_ValidPart t p=some (validPt t p):=by
 unfold i_ValidPart validPt
 rw [loop_scan (l:=p.2.2.2.drop 1) (fun k y=>if lnkP t p ((p.2.2.2[k]?).getD h0) y then none else some false) (by rw [List.length_drop];omega) (fun k y hi hd hw hm hk=>by
  have hy:p.2.2.2[k+1]? =some y:=by rw [idx_nat,List.getElem?_drop,Nat.add_comm] at hi;exact hi
  have hlt:k+1<p.2.2.2.length:=(List.getElem?_eq_some_iff.1 hy).1
  obtain ⟨x,hx⟩: ∃ x,p.2.2.2[k]? =some x:=⟨_,List.getElem?_eq_getElem (by omega)⟩
  have hd':decide ((k:Int)<wr ((p.2.2.2.length:Int) - 1))=true:=by rw [wr_less hl];simp;omega
  have hy':idx p.2.2.2 ((k+1:Nat):Int)=some y:=by rw [idx_nat];exact hy
  simp only [hd',cond_true,peta,i_pEg hx hl,obind_some,idx_nat,hx,hw,hy,i_pIn hy hl,i_remote ht2,Option.getD_some,ne_beq]
  unfold lnkP
  cases pEg p x==0<;>cases (remote t x.1 (pEg p x)).1==y.1<;>cases (remote t x.1 (pEg p x)).2==pIn p y<;>rfl) (by
   rw [List.length_drop,wr_less hl,decide_eq_false (by omega)];rfl),scanB (fun k y=>lnkP t p ((p.2.2.2[k]?).getD h0) y),drop_all]
 simp only [peta,i_in,i_hopsV ht hl,i_resid,obind_some]
 cases inR (p.2.2.2.length:Int) 1 8<;>cases inR p.1 1 4<;>cases inR p.2.1 0 1000000<;>cases resid p.2.2.1<;>cases hopsV t p.2.2.2<;>cases (p.2.2.2.zipIdx 0).all (fun z=>lnkAt t p z.2 z.1)<;>rfl

theorem forL_all {α S:Type} (p:Nat→α→Bool) (o r:S): ∀ (l:List α) (k:Nat),forL (fun k x (_:Unit)=>if p k x then .inl () else .inr r) (fun _=>o) k l ()=if (l.zipIdx k).all (fun z=>p z.2 z.1) then o else r
 | [],_=>rfl
 | x::xs,k=>by
  simp only [forL,List.zipIdx_cons,List.all_cons]
  rcases Bool.eq_false_or_eq_true (p k x) with h | h
  ·simp only [h,if_true,Bool.true_and];exact forL_all p o r xs (k+1)
  ·simp [h]

theorem s_realms {p:den tPp} (hl:p.2.2.2.length≤68719476736):s_l21Realms p=some (p.2.2.2.map (·.1)):=by
 unfold s_l21Realms
 rw [(loopF (fun k (a:List Int)=>((k:Int),a)) ((0:Int),[]) [] p.2.2.2 (fun _ x a=>a++[x.1]) List.length (fun _=>1) 68719476736 id rfl (by omega) (by rw [sum_one];simpa using hl) (fun k x a hi hx hd hw hk hb=>by
  simp only [hd,hi,hw,cond_true,obind_some,apOk_le (b:=8) (by decide) hb]
  simp) (fun a=>by simp)).1,foldI_map (fun x:den tHop=>x.1)]
 simp

theorem hasI_map (l:List (den tHop)) (k:Nat) (n:Int):hasI ((l.map (·.1)).take k) n= !((l.take k).all fun y=> !(y.1==n)):=by
 unfold hasI
 rw [← List.map_take,List.all_map]
 rfl

theorem s_validPt {t:den tTo} {p:den tPp} (ht:t.1.length≤68719476736) (ht2:t.2.length≤68719476736) (hl:p.2.2.2.length≤68719476736):s_ValidPart t p=some (validPt t p):=by
 unfold s_ValidPart validPt
 simp only [peta,s_realms hl,obind_some]
 have hR:(p.2.2.2.map (·.1)).length=p.2.2.2.length:=by simp
 rw [loopE (fun k (_:Unit)=>(p.2.2.2.map (·.1),(k:Int))) (p.2.2.2.map (·.1),(0:Int)) () p.2.2.2 (fun k x _=>if (hopP t p.2.2.2 k x&&lnkAt t p k x) then .inl () else .inr (.inr false)) (fun _ _=>True) (fun _=> .inl ()) rfl (by omega) trivial (fun k x a hi hx hd hw hk _=>by
  refine ⟨?_,fun _ _=>trivial⟩
  have hr:(p.2.2.2.map (·.1))[k]? =some x.1:=by rw [List.getElem?_map,hx];rfl
  have hs:slOk (0:Int) (k:Int) ((p.2.2.2.map (·.1)).length:Int)=true:=by rw [hR];exact slOk_take hk
  have hh:s_l9Has ((p.2.2.2.map (·.1)).take k) x.1=some (!((p.2.2.2.take k).all fun y=> !(y.1==x.1))):=by
   rw [s_hasI (by simp;omega),hasI_map]
  simp only [hd,cond_true,hi,idx_nat,hr,obind_some,s_validH,s_asOk ht,hs,cut_take,hh,hw]
  cases k with
  | zero=>
   rw [show decide (((0:Nat):Int)>0)=false from by decide]
   unfold hopP lnkAt
   cases validH x<;>cases asOk t x.1<;>cases (p.2.2.2.take 0).all (fun y=> !(y.1==x.1))<;>rfl
  | succ j=>
   have hw1:wr (((j+1:Nat):Int) - 1)=(j:Int):=(wri (by omega) (by omega)).trans (by omega)
   obtain ⟨y,hy⟩: ∃ y,p.2.2.2[j]? =some y:=⟨_,List.getElem?_eq_getElem (by omega)⟩
   have hr1:(p.2.2.2.map (·.1))[j]? =some y.1:=by rw [List.getElem?_map,hy];rfl
   rw [show decide (((j+1:Nat):Int)>0)=true from by simp]
   simp only [hw1,idx_nat,hr1,obind_some,s_pEg hy hl,s_pIn hx hl,s_remote ht2,cond_true,ne_beq]
   unfold hopP lnkAt lnkP
   rw [Nat.add_sub_cancel,hy,Option.getD_some]
   cases validH x<;>cases asOk t x.1<;>cases (p.2.2.2.take (j+1)).all (fun y=> !(y.1==x.1))<;>cases pEg p y==0<;>cases (remote t y.1 (pEg p y)).1==x.1<;>cases (remote t y.1 (pEg p y)).2==pIn p x<;>rfl) (fun a _=>by simp)]
 rw [forL_all (fun k x=>hopP t p.2.2.2 k x&&lnkAt t p k x)]
 have hsplit:(p.2.2.2.zipIdx 0).all (fun z=>hopP t p.2.2.2 z.2 z.1&&lnkAt t p z.2 z.1)=(hopsV t p.2.2.2&&(p.2.2.2.zipIdx 0).all fun z=>lnkAt t p z.2 z.1):=by
  unfold hopsV
  rw [Bool.eq_iff_iff]
  simp only [List.all_eq_true,Bool.and_eq_true]
  exact ⟨fun h=>⟨fun z hz=>(h z hz).1,fun z hz=>(h z hz).2⟩,fun h z hz=>⟨h.1 z hz,h.2 z hz⟩⟩
 rw [hsplit]
 simp only [s_in,s_resid,obind_some]
 cases inR (p.2.2.2.length:Int) 1 8<;>cases inR p.1 1 4<;>cases inR p.2.1 0 1000000<;>cases resid p.2.2.1<;>cases hopsV t p.2.2.2<;>cases (p.2.2.2.zipIdx 0).all (fun z=>lnkAt t p z.2 z.1)<;>rfl

def placeK (k:Int):Int:=cond (k==1) 1 (cond (k==2||k==3) 2 3)

theorem i_placeK (k:Int):i_placeOf k=some (placeK k):=by
 unfold i_placeOf placeK
 cases k==1<;>cases k==2<;>cases k==3<;>rfl

theorem s_placeK (k:Int):s_l22Rank k=some (placeK k):=by
 unfold s_l22Rank placeK
 cases k==1<;>cases k==2<;>cases k==3<;>rfl

def pt0:den tPp:=(0,0,0,[])

def lastH (y:den tPp):den tHop:=(y.2.2.2[y.2.2.2.length - 1]?).getD h0

def headH (y:den tPp):den tHop:=(y.2.2.2[0]?).getD h0

def joinP (y x:den tPp):Bool:= !decide (placeK y.1≥placeK x.1)&&(lastH y).1==(headH x).1

def wfAt (t:den tTo) (p:den tPt) (k:Nat) (x:den tPp):Bool:=validPt t x&&(decide (k=0)||joinP ((p[k - 1]?).getD pt0) x)

def wfP (t:den tTo) (p:den tPt):Bool:=inR (p.length:Int) 1 3&&(p.zipIdx 0).all fun z=>wfAt t p z.2 z.1

theorem validPt_pos {t:den tTo} {p:den tPp} (h:validPt t p=true):0<p.2.2.2.length:=by
 unfold validPt at h
 rw [Bool.and_eq_true] at h
 have :=inR_iff.1 h.1
 omega

theorem last_idx {y:den tPp} (h:0<y.2.2.2.length) (hl:y.2.2.2.length≤68719476736):idx y.2.2.2 (wr ((y.2.2.2.length:Int) - 1))=some (lastH y):=by
 rw [wr_pos hl h,idx_nat]
 unfold lastH
 rw [List.getElem?_eq_getElem (show y.2.2.2.length - 1<y.2.2.2.length by omega)]
 rfl

theorem head_idx {y:den tPp} (h:0<y.2.2.2.length):idx y.2.2.2 (0:Int)=some (headH y):=by
 have :idx y.2.2.2 ((0:Nat):Int)=y.2.2.2[0]? :=idx_nat
 rw [show (0:Int)=((0:Nat):Int) from rfl,this]
 unfold headH
 rw [List.getElem?_eq_getElem h]
 rfl

theorem i_wfP {t:den tTo} {p:den tPt} (ht:t.1.length≤68719476736) (ht2:t.2.length≤68719476736) (h:SmB 68719476736 tPt p):i_WellFormedPath t p=some (wfP t p):=by
 have lp:=h.1
 have lh: ∀ (k:Nat) (x:den tPp),p[k]? =some x→x.2.2.2.length≤68719476736:=fun k x hx=>(h.2 x (List.mem_of_getElem? hx)).2.2.2.1
 unfold i_WellFormedPath wfP
 rw [loopE (fun k (_:Unit)=>(k:Int)) (0:Int) () p (fun k x _=>if wfAt t p k x then .inl () else .inr (.inr false)) (fun k _=> ∀ j y,j<k→p[j]? =some y→0<y.2.2.2.length) (fun _=> .inl ()) rfl (by omega) (fun j y hj=>absurd hj (Nat.not_lt_zero _)) (fun k x a hi hx hd hw hk hI=>by
  have hlx:=lh k x hx
  refine ⟨?_,fun a' ha j y hj hy=> ?_⟩
  ·simp only [hd,cond_true,hi,obind_some,peta,i_validPt ht ht2 hlx,hw]
   cases hv:validPt t x with
   | false=>unfold wfAt;rw [hv];rfl
   | true=>
    cases k with
    | zero=>
     rw [show decide (((0:Nat):Int)>0)=false from by decide]
     unfold wfAt;rw [hv];rfl
    | succ j=>
     have hw1:wr (((j+1:Nat):Int) - 1)=(j:Int):=(wri (by omega) (by omega)).trans (by omega)
     obtain ⟨y,hy⟩: ∃ y,p[j]? =some y:=⟨_,List.getElem?_eq_getElem (by omega)⟩
     rw [show decide (((j+1:Nat):Int)>0)=true from by simp]
     simp only [hw1,idx_nat,hy,obind_some,i_placeK,last_idx (hI j y (Nat.lt_succ_self j) hy) (lh j y hy),head_idx (validPt_pos hv),cond_true,ne_beq,Bool.not_true,cond_false]
     unfold wfAt joinP
     rw [Nat.add_sub_cancel,hy,Option.getD_some,hv]
     cases decide (placeK y.1≥placeK x.1)<;>cases (lastH y).1==(headH x).1<;>rfl
  ·rcases Nat.lt_succ_iff_lt_or_eq.1 hj with hj | rfl
   ·exact hI j y hj hy
   ·rw [hx] at hy
    injection hy with hy
    subst hy
    rcases Bool.eq_false_or_eq_true (wfAt t p j x) with hb | hb
    ·unfold wfAt at hb
     rw [Bool.and_eq_true] at hb
     exact validPt_pos hb.1
    ·simp [hb] at ha) (fun a _=>by simp)]
 rw [forL_all (wfAt t p),i_in,obind_some]
 cases inR (p.length:Int) 1 3<;>cases (p.zipIdx 0).all (fun z=>wfAt t p z.2 z.1)<;>rfl

theorem s_wfP {t:den tTo} {p:den tPt} (ht:t.1.length≤68719476736) (ht2:t.2.length≤68719476736) (h:SmB 68719476736 tPt p):s_WellFormedPath t p=some (wfP t p):=by
 have lp:=h.1
 have lh: ∀ (k:Nat) (x:den tPp),p[k]? =some x→x.2.2.2.length≤68719476736:=fun k x hx=>(h.2 x (List.mem_of_getElem? hx)).2.2.2.1
 unfold s_WellFormedPath wfP
 rw [loopE (fun k (_:Unit)=>(k:Int)) (0:Int) () p (fun k x _=>if wfAt t p k x then .inl () else .inr (.inr false)) (fun k _=> ∀ j y,j<k→p[j]? =some y→0<y.2.2.2.length) (fun _=> .inl ()) rfl (by omega) (fun j y hj=>absurd hj (Nat.not_lt_zero _)) (fun k x a hi hx hd hw hk hI=>by
  have hlx:=lh k x hx
  refine ⟨?_,fun a' ha j y hj hy=> ?_⟩
  ·simp only [hd,cond_true,hi,obind_some,peta,s_validPt ht ht2 hlx,hw]
   cases hv:validPt t x with
   | false=>unfold wfAt;rw [hv];rfl
   | true=>
    cases k with
    | zero=>
     rw [show decide (((0:Nat):Int)>0)=false from by decide]
     unfold wfAt;rw [hv];rfl
    | succ j=>
     have hw1:wr (((j+1:Nat):Int) - 1)=(j:Int):=(wri (by omega) (by omega)).trans (by omega)
     obtain ⟨y,hy⟩: ∃ y,p[j]? =some y:=⟨_,List.getElem?_eq_getElem (by omega)⟩
     rw [show decide (((j+1:Nat):Int)>0)=true from by simp]
     simp only [hw1,idx_nat,hy,obind_some,s_placeK,last_idx (hI j y (Nat.lt_succ_self j) hy) (lh j y hy),head_idx (validPt_pos hv),cond_true,ne_beq,Bool.not_true,cond_false]
     unfold wfAt joinP
     rw [Nat.add_sub_cancel,hy,Option.getD_some,hv]
     cases decide (placeK y.1≥placeK x.1)<;>cases (lastH y).1==(headH x).1<;>rfl
  ·rcases Nat.lt_succ_iff_lt_or_eq.1 hj with hj | rfl
   ·exact hI j y hj hy
   ·rw [hx] at hy
    injection hy with hy
    subst hy
    rcases Bool.eq_false_or_eq_true (wfAt t p j x) with hb | hb
    ·unfold wfAt at hb
     rw [Bool.and_eq_true] at hb
     exact validPt_pos hb.1
    ·simp [hb] at ha) (fun a _=>by simp)]
 rw [forL_all (wfAt t p),s_in,obind_some]
 cases inR (p.length:Int) 1 3<;>cases (p.zipIdx 0).all (fun z=>wfAt t p z.2 z.1)<;>rfl

def newAt (l:List Int) (k:Nat) (n:Int):Bool:= !hasI (l.take k) n

def simpleP (t:den tTo) (p:den tPt):Bool:=wfP t p&&((usedI p).zipIdx 0).all fun z=>newAt (usedI p) z.2 z.1

theorem path_sm {p:den tPt} (h:tot tPt p≤1073741824):SmB 68719476736 tPt p:=(sm_of_tot h).mono (by decide)

theorem i_simpleP {t:den tTo} {p:den tPt} (ht:t.1.length≤68719476736) (ht2:t.2.length≤68719476736) (h:tot tPt p≤1073741824):i_SimplePath t p=some (simpleP t p):=by
 have hu:=usedI_len p
 unfold i_SimplePath simpleP
 simp only [peta,i_wfP ht ht2 (path_sm h),i_usedI h,obind_some]
 rw [loopE (fun k (_:Unit)=>(usedI p,usedI p,(k:Int))) (usedI p,usedI p,(0:Int)) () (usedI p) (fun k x _=>if newAt (usedI p) k x then .inl () else .inr (.inr false)) (fun _ _=>True) (fun _=> .inl ()) rfl (by omega) trivial (fun k x a hi hx hd hw hk _=>by
  refine ⟨?_,fun _ _=>trivial⟩
  simp only [hd,cond_true,hi,obind_some,slOk_take hk,cut_take,hw,i_hasI (l:=(usedI p).take k) (n:=x) (by simp;omega)]
  unfold newAt
  cases hasI ((usedI p).take k) x<;>rfl) (fun a _=>by simp)]
 rw [forL_all (newAt (usedI p))]
 cases wfP t p<;>cases ((usedI p).zipIdx 0).all (fun z=>newAt (usedI p) z.2 z.1)<;>rfl

theorem s_simpleP {t:den tTo} {p:den tPt} (ht:t.1.length≤68719476736) (ht2:t.2.length≤68719476736) (h:tot tPt p≤1073741824):s_SimplePath t p=some (simpleP t p):=by
 have hu:=usedI_len p
 unfold s_SimplePath simpleP
 simp only [peta,s_wfP ht ht2 (path_sm h),s_usedI h,obind_some]
 rw [loopE (fun k (_:Unit)=>(usedI p,(k:Int))) (usedI p,(0:Int)) () (usedI p) (fun k x _=>if newAt (usedI p) k x then .inl () else .inr (.inr false)) (fun _ _=>True) (fun _=> .inl ()) rfl (by omega) trivial (fun k x a hi hx hd hw hk _=>by
  refine ⟨?_,fun _ _=>trivial⟩
  simp only [hd,cond_true,hi,obind_some,slOk_take hk,cut_take,hw,s_hasI (l:=(usedI p).take k) (n:=x) (by simp;omega)]
  unfold newAt
  cases hasI ((usedI p).take k) x<;>rfl) (fun a _=>by simp)]
 rw [forL_all (newAt (usedI p))]
 cases wfP t p<;>cases ((usedI p).zipIdx 0).all (fun z=>newAt (usedI p) z.2 z.1)<;>rfl

def curPt (p:den tPk):den tPp:=(p.2.2.2.1[p.2.2.2.2.1.toNat]?).getD pt0

def curHp (p:den tPk):den tHop:=((curPt p).2.2.2[p.2.2.2.2.2.1.toNat]?).getD h0

theorem hop_at {p:den tPk} (h:hasHop p=true): ∃ (i j:Nat),p.2.2.2.2.1=(i:Int)∧p.2.2.2.2.2.1=(j:Int)∧p.2.2.2.1[i]? =some (curPt p)∧(curPt p).2.2.2[j]? =some (curHp p)∧curAS p=(curHp p).1:=by
 obtain ⟨i,j,x,y,h1,h2,h3,h4,h5⟩:=hasHop_iff h
 have e1:curPt p=x:=by unfold curPt;rw [h1,Int.toNat_natCast,h3];rfl
 have e2:curHp p=y:=by unfold curHp;rw [e1,h2,Int.toNat_natCast,h4];rfl
 exact ⟨i,j,h1,h2,by rw [e1];exact h3,by rw [e1,e2];exact h4,by rw [e2];exact h5⟩

theorem cur_hop {p:den tPk} (h:0≤curAS p):hasHop p=true:=by
 cases c:hasHop p with
 | true=>rfl
 | false=>rw [curAS_no c] at h;omega

theorem pk_sm {p:den tPk} (h:tot tPk p≤34359738368):SmB 68719476736 tPk p:=(sm_of_tot h).mono (by decide)

theorem pt_len {p:den tPk} (h:SmB 68719476736 tPk p) {i:Nat} {x:den tPp} (hx:p.2.2.2.1[i]? =some x):x.2.2.2.length≤68719476736:=(h.2.2.2.1.2 x (List.mem_of_getElem? hx)).2.2.2.1


def lastPt (p:den tPk):Bool:=p.2.2.2.2.2.1==((curPt p).2.2.2.length:Int) - 1

def lastIn (p:den tPk):Bool:=p.2.2.2.2.1==(p.2.2.2.1.length:Int) - 1

def atLast (p:den tPk):Bool:=decide (curAS p≥0)&&(lastPt p&&lastIn p)

theorem i_lastPt {p:den tPk} (h:SmB 68719476736 tPk p) (hh:hasHop p=true):i_lastOfPart p=some (lastPt p):=by
 obtain ⟨i,j,h1,h2,h3,h4,_⟩:=hop_at hh
 unfold i_lastOfPart lastPt
 rw [h1,idx_nat,h3,obind_some,wr_less (pt_len h h3)]

theorem i_atLast {p:den tPk} (h:SmB 68719476736 tPk p):i_AtLastHop p=some (atLast p):=by
 unfold i_AtLastHop atLast
 simp only [peta,i_curAS h,obind_some]
 cases c:decide (curAS p≥0)
 ·rfl
 ·have hh:=cur_hop (of_decide_eq_true c)
  have l1:=h.2.2.2.1.1
  simp only [cond_true,i_lastPt h hh,obind_some,wr_less l1]
  unfold lastIn
  cases lastPt p<;>rfl

theorem s_atLast {p:den tPk} (h:SmB 68719476736 tPk p):s_AtLastHop p=some (atLast p):=by
 unfold s_AtLastHop atLast
 simp only [peta,s_curAS h,obind_some]
 cases c:decide (curAS p≥0)
 ·rfl
 ·have hh:=cur_hop (of_decide_eq_true c)
  have l1:=h.2.2.2.1.1
  obtain ⟨i,j,h1,h2,h3,h4,_⟩:=hop_at hh
  simp only [cond_true,wr_less l1]
  unfold lastIn lastPt
  rw [h1,idx_nat,h3,obind_some,wr_less (pt_len h h3)]
  cases p.2.2.2.2.2.1==((curPt p).2.2.2.length:Int) - 1<;>cases (i:Int)==(p.2.2.2.1.length:Int) - 1<;>rfl

theorem i_copyK {p:den tPk} (h:SmB 68719476736 tPk p):i_copyPacket p=some (pkR p):=by
 unfold i_copyPacket pkR
 rw [i_copyP h.2.2.2.1,i_copyB h.2.2.2.2.2.2.2.2.2.1]
 rfl

theorem s_copyK {p:den tPk} (h:SmB 68719476736 tPk p):s_l26Copy p=some (pkR p):=by
 unfold s_l26Copy pkR
 rw [s_copyP h.2.2.2.1,apOk_le (b:=1) (n:=([]:List Int).length) (by decide) (by simpa using h.2.2.2.2.2.2.2.2.2.1)]
 simp


def goTo (p:den tPk) (i j b:Int):den tPk:=(p.1,p.2.1,p.2.2.1,p.2.2.2.1,i,j,b,p.2.2.2.2.2.2.2.1,p.2.2.2.2.2.2.2.2.1,p.2.2.2.2.2.2.2.2.2)

def nextPt (p:den tPk):den tPp:=(p.2.2.2.1[p.2.2.2.2.1.toNat+1]?).getD pt0

def adv (p:den tPk):den tPk:=
 if decide (curAS p<0)||atLast p then p
 else if lastPt p then goTo p (p.2.2.2.2.1+1) 0 (nextPt p).2.2.1 else goTo p p.2.2.2.2.1 (p.2.2.2.2.2.1+1) p.2.2.2.2.2.2.1

theorem next_at {p:den tPk} (hh:hasHop p=true) (h0:0≤curAS p) (hl:lastPt p=true) (ha:atLast p=false): ∃ i:Nat,p.2.2.2.2.1=(i:Int)∧p.2.2.2.1[i+1]? =some (nextPt p):=by
 obtain ⟨i,j,h1,h2,h3,h4,_⟩:=hop_at hh
 refine ⟨i,h1,?_⟩
 have hlt:=(List.getElem?_eq_some_iff.1 h3).1
 have hne:lastIn p=false:=by
  unfold atLast at ha
  rw [hl,decide_eq_true h0] at ha
  simpa using ha
 unfold lastIn at hne
 rw [h1] at hne
 have hne: ¬ ((i:Int)=(p.2.2.2.1.length:Int) - 1):=by simpa using hne
 unfold nextPt
 rw [h1,Int.toNat_natCast,List.getElem?_eq_getElem (show i+1<p.2.2.2.1.length by omega)]
 rfl

theorem i_adv {p:den tPk} (h:SmB 68719476736 tPk p):i_AdvanceHop p=some (pkR (adv p)):=by
 unfold i_AdvanceHop adv
 simp only [peta,i_copyK h,i_curAS h,i_atLast h,obind_some]
 cases c:decide (curAS p<0)
 ·cases ca:atLast p
  ·have h0:0≤curAS p:=by have :=of_decide_eq_false c;omega
   have hh:=cur_hop h0
   obtain ⟨i,j,h1,h2,h3,h4,_⟩:=hop_at hh
   have hlt:=(List.getElem?_eq_some_iff.1 h3).1
   have hlt2:=(List.getElem?_eq_some_iff.1 h4).1
   have l1:List.length p.2.2.2.1≤68719476736:=h.2.2.2.1.1
   have l2:=pt_len h h3
   simp only [cond_false,obind_some,i_lastPt h hh,Bool.or_self,Bool.false_eq_true,if_false]
   cases cl:lastPt p
   ·simp only [cond_false,obind_some,Bool.false_eq_true,if_false]
    unfold pkR goTo
    rw [h2,show wr ((j:Int)+1)=(j:Int)+1 from wri (by omega) (by omega)]
   ·obtain ⟨i',e1,e2⟩:=next_at hh h0 cl ca
    have :i'=i:=Int.ofNat.inj (e1.symm.trans h1)
    subst this
    have hw:wr (((i':Nat):Int)+1)=((i'+1:Nat):Int):=(wri (by omega) (by omega)).trans (by omega)
    simp only [cond_true,if_true]
    unfold pkR goTo
    simp only [h1,hw,idx_nat,e2,obind_some]
    rw [show ((i'+1:Nat):Int)=(i':Int)+1 by omega]
  ·rfl
 ·rfl

theorem s_adv {p:den tPk} (h:SmB 68719476736 tPk p):s_AdvanceHop p=some (pkR (adv p)):=by
 unfold s_AdvanceHop adv
 simp only [peta,s_copyK h,s_curAS h,s_atLast h,obind_some]
 cases c:decide (curAS p<0)
 ·cases ca:atLast p
  ·have h0:0≤curAS p:=by have :=of_decide_eq_false c;omega
   have hh:=cur_hop h0
   obtain ⟨i,j,h1,h2,h3,h4,_⟩:=hop_at hh
   have hlt:=(List.getElem?_eq_some_iff.1 h3).1
   have hlt2:=(List.getElem?_eq_some_iff.1 h4).1
   have l1:List.length p.2.2.2.1≤68719476736:=h.2.2.2.1.1
   have l2:=pt_len h h3
   have hd:decide ((j:Int)<((curPt p).2.2.2.length:Int) - 1)= !lastPt p:=by
    have key:decide ((j:Int)<((curPt p).2.2.2.length:Int) - 1)= !((j:Int)==((curPt p).2.2.2.length:Int) - 1):=by
     rw [Bool.eq_iff_iff]
     simp only [decide_eq_true_eq,Bool.not_eq_true',beq_eq_false_iff_ne,ne_eq]
     omega
    unfold lastPt
    rw [h2]
    exact key
   simp only [cond_false,obind_some,Bool.or_self,Bool.false_eq_true,if_false,h1,h2,idx_nat,h3,wr_less l2,hd]
   cases cl:lastPt p
   ·simp only [Bool.not_false,cond_true,Bool.false_eq_true,if_false]
    unfold pkR goTo
    rw [show wr ((j:Int)+1)=(j:Int)+1 from wri (by omega) (by omega)]
    simp only [h1]
   ·obtain ⟨i',e1,e2⟩:=next_at hh h0 cl ca
    have :i'=i:=Int.ofNat.inj (e1.symm.trans h1)
    subst this
    have hw:wr (((i':Nat):Int)+1)=((i'+1:Nat):Int):=(wri (by omega) (by omega)).trans (by omega)
    simp only [Bool.not_true,cond_false,if_true]
    unfold pkR goTo
    simp only [hw,idx_nat,e2,obind_some]
    rw [show ((i'+1:Nat):Int)=(i':Int)+1 by omega]
  ·rfl
 ·rfl

def bef (p:den tPk):Int:=if isRev (curPt p).1 then subM p.2.2.2.2.2.2.1 (curHp p).2.2.2.2 else p.2.2.2.2.2.2.1

def aft (p:den tPk):Int:=if isRev (curPt p).1 then subM p.2.2.2.2.2.2.1 (curHp p).2.2.2.2 else addM p.2.2.2.2.2.2.1 (curHp p).2.2.2.2

def sealOk (t:den tTo) (p:den tPk):Bool:=hasHop p&&verH t (curPt p).2.1 (bef p) (curHp p)

def sealed (t:den tTo) (p:den tPk):den tPk:=if sealOk t p then goTo p p.2.2.2.2.1 p.2.2.2.2.2.1 (aft p) else p

def sealR (p:den tPk) (b:Bool):Int×Int×Int×Int×Int×Int×Int×Int×Bool×(List (den tPp))×(List Int):=(p.1,p.2.1,p.2.2.1,p.2.2.2.2.1,p.2.2.2.2.2.1,p.2.2.2.2.2.2.1,p.2.2.2.2.2.2.2.1,p.2.2.2.2.2.2.2.2.1,b,p.2.2.2.1,p.2.2.2.2.2.2.2.2.2)

theorem i_seal {t:den tTo} {p:den tPk} (ht:t.1.length≤68719476736) (h:SmB 68719476736 tPk p):i_VerifyCurrentHop t p=some (sealR (sealed t p) (sealOk t p)):=by
 unfold i_VerifyCurrentHop sealed sealOk
 simp only [peta,i_copyK h,i_hop h,obind_some]
 cases c:hasHop p
 ·rfl
 ·obtain ⟨i,j,h1,h2,h3,h4,_⟩:=hop_at c
  simp only [h1,h2,idx_nat,h3,h4,obind_some,i_isRev,i_addM,i_subM,Bool.not_true,cond_false,Bool.true_and]
  unfold bef aft
  cases isRev (curPt p).1
  ·simp only [cond_false,obind_some,i_verH ht,Bool.false_eq_true,if_false]
   cases verH t (curPt p).2.1 p.2.2.2.2.2.2.1 (curHp p)
   ·simp only [Bool.not_false,cond_true,Bool.false_eq_true,if_false];unfold sealR pkR;simp only [h1,h2]
   ·simp only [Bool.not_true,cond_false,if_true];unfold sealR pkR goTo;simp only [h1,h2]
  ·simp only [cond_true,obind_some,i_verH ht,if_true]
   cases verH t (curPt p).2.1 (subM p.2.2.2.2.2.2.1 (curHp p).2.2.2.2) (curHp p)
   ·simp only [Bool.not_false,cond_true,Bool.false_eq_true,if_false];unfold sealR pkR;simp only [h1,h2]
   ·simp only [Bool.not_true,cond_false,if_true];unfold sealR pkR goTo;simp only [h1,h2]

theorem verH_as {t:den tTo} {ts b:Int} {h:den tHop} (hv:h.1<0):verH t ts b h=false:=by
 unfold verH validH
 rw [inR_not.2 (fun hh=>absurd hv (Int.not_lt.2 hh.1))]
 rfl

theorem s_seal {t:den tTo} {p:den tPk} (ht:t.1.length≤68719476736) (h:SmB 68719476736 tPk p):s_VerifyCurrentHop t p=some (sealR (sealed t p) (sealOk t p)):=by
 unfold s_VerifyCurrentHop sealed sealOk
 simp only [peta,s_copyK h,s_curAS h,obind_some]
 cases c:hasHop p
 ·rw [curAS_no c];rfl
 ·obtain ⟨i,j,h1,h2,h3,h4,h5⟩:=hop_at c
  rw [h5]
  by_cases hn:(curHp p).1<0
  ·rw [decide_eq_true hn,verH_as hn];rfl
  ·simp only [decide_eq_false hn,cond_false,h1,h2,idx_nat,h3,h4,obind_some,s_isRev,s_addM,s_subM,Bool.true_and,s_verH ht]
   unfold bef aft
   cases isRev (curPt p).1
   ·simp only [cond_false,Bool.false_eq_true,if_false]
    cases verH t (curPt p).2.1 p.2.2.2.2.2.2.1 (curHp p)
    ·simp only [Bool.not_false,cond_true,Bool.false_eq_true,if_false];unfold sealR pkR;simp only [h1,h2]
    ·simp only [Bool.not_true,cond_false,if_true];unfold sealR pkR goTo;simp only [h1,h2]
   ·simp only [cond_true,if_true]
    cases verH t (curPt p).2.1 (subM p.2.2.2.2.2.2.1 (curHp p).2.2.2.2) (curHp p)
    ·simp only [Bool.not_false,cond_true,Bool.false_eq_true,if_false];unfold sealR pkR;simp only [h1,h2]
    ·simp only [Bool.not_true,cond_false,if_true];unfold sealR pkR goTo;simp only [h1,h2]

def inTime (p:den tPk) (now:Int):Bool:= !decide (curAS p<0)&&(decide ((curPt p).2.1≤now)&&decide (now≤(curHp p).2.2.2.1))

theorem i_inTime {p:den tPk} {now:Int} (h:SmB 68719476736 tPk p):i_CurrentHopValid p now=some (inTime p now):=by
 unfold i_CurrentHopValid inTime
 simp only [peta,i_curAS h,obind_some]
 cases c:decide (curAS p<0)
 ·have hh:=cur_hop (p:=p) (by have :=of_decide_eq_false c;omega)
  obtain ⟨i,j,h1,h2,h3,h4,h5⟩:=hop_at hh
  simp only [cond_false,h1,h2,idx_nat,h3,h4,obind_some,i_HopValidAt]
  cases decide ((curPt p).2.1≤now)<;>rfl
 ·rfl

theorem s_inTime {p:den tPk} {now:Int} (h:SmB 68719476736 tPk p):s_CurrentHopValid p now=some (inTime p now):=by
 unfold s_CurrentHopValid inTime
 simp only [peta,s_curAS h,obind_some]
 cases c:decide (curAS p<0)
 ·have hh:=cur_hop (p:=p) (by have :=of_decide_eq_false c;omega)
  obtain ⟨i,j,h1,h2,h3,h4,h5⟩:=hop_at hh
  simp only [cond_false,h1,h2,idx_nat,h3,h4,obind_some,s_HopValidAt]
  cases decide ((curPt p).2.1≤now)<;>rfl
 ·rfl

def chkC (t:den tTo) (now:Int) (p:den tPk):Int:=if sealOk t p then (if inTime p now then 0 else 5) else 4

def goC (t:den tTo) (now:Int):Nat→den tPk→Int×den tPk
 | 0,p=>(chkC t now p,sealed t p)
 | n+1,p=>if chkC t now p==0&&(lastPt (sealed t p)&& !atLast (sealed t p)) then goC t now n (adv (sealed t p)) else (chkC t now p,sealed t p)

theorem sealed_tot (t:den tTo) (p:den tPk):tot tPk (sealed t p)=tot tPk p:=by
 unfold sealed;split<;>rfl

theorem adv_tot (p:den tPk):tot tPk (adv p)=tot tPk p:=by
 unfold adv;split
 ·rfl
 ·split<;>rfl

theorem sealed_time (t:den tTo) (p:den tPk) (now:Int):inTime (sealed t p) now=inTime p now:=by
 unfold sealed;split<;>rfl

theorem sealed_cur (t:den tTo) (p:den tPk):hasHop (sealed t p)=hasHop p∧curAS (sealed t p)=curAS p∧curHp (sealed t p)=curHp p∧(sealed t p).2.2.2.1=p.2.2.2.1∧(sealed t p).2.2.2.2.1=p.2.2.2.2.1:=by
 unfold sealed;split<;>exact ⟨rfl,rfl,rfl,rfl,rfl⟩

theorem chk_zero {t:den tTo} {now:Int} {p:den tPk} (h:chkC t now p=0):hasHop p=true∧0≤curAS p:=by
 unfold chkC at h
 split at h
 ·rename_i hs
  unfold sealOk at hs
  rw [Bool.and_eq_true] at hs
  refine ⟨hs.1,?_⟩
  obtain ⟨i,j,h1,h2,h3,h4,h5⟩:=hop_at hs.1
  rw [h5]
  by_cases hn:(curHp p).1<0
  ·rw [verH_as hn] at hs;cases hs.2
  ·exact Int.not_lt.1 hn
 ·cases h

theorem adv_part {p:den tPk} (h0:0≤curAS p) (hc:(lastPt p&& !atLast p)=true):(adv p).2.2.2.1=p.2.2.2.1∧(adv p).2.2.2.2.1=p.2.2.2.2.1+1:=by
 rw [Bool.and_eq_true] at hc
 have ha:atLast p=false:=by simpa using hc.2
 unfold adv
 rw [decide_eq_false (by omega),ha,hc.1]
 exact ⟨rfl,rfl⟩

theorem go_loop {t:den tTo} {now:Int} {S R:Type} (enc:Int→den tPk→S) (out:S→R) {step:S→Option (S⊕R)} (st:den tPk→den tPk) (hst: ∀ p,chkC t now p=0→st p=sealed t p)
  (hstop: ∀ c p,c≠0→step (enc c p)=some (.inr (out (enc c p))))
  (hgo: ∀ q,tot tPk q≤34359738368→hasHop q=true→0≤curAS q→step (enc 0 q)=some (if lastPt q&& !atLast q then .inl (enc (chkC t now (adv q)) (st (adv q))) else .inr (out (enc 0 q)))):
  ∀ (n:Nat) (p:den tPk),tot tPk p≤34359738368→p.2.2.2.1.length - p.2.2.2.2.1.toNat≤n→ ∃ r,loopM step (enc (chkC t now p) (st p))=some (out (enc (goC t now n p).1 r))∧((goC t now n p).1=0→r=(goC t now n p).2):=by
 intro n
 induction n with
 | zero=>
  intro p hp hm
  by_cases hc:chkC t now p=0
  ·obtain ⟨hh,h0⟩:=chk_zero hc
   obtain ⟨i,j,h1,h2,h3,h4,h5⟩:=hop_at hh
   have hlt:=(List.getElem?_eq_some_iff.1 h3).1
   rw [h1,Int.toNat_natCast] at hm
   exact absurd hlt (by omega)
  ·exact ⟨_,loopM_done (hstop _ _ hc),fun h=>absurd h hc⟩
 | succ n ih=>
  intro p hp hm
  by_cases hc:chkC t now p=0
  ·obtain ⟨hh,h0⟩:=chk_zero hc
   obtain ⟨e1,e2,e3,e4,e5⟩:=sealed_cur t p
   have hq:=hgo (sealed t p) (by rw [sealed_tot];exact hp) (by rw [e1];exact hh) (by rw [e2];exact h0)
   rw [hst p hc]
   cases hb:lastPt (sealed t p)&& !atLast (sealed t p) with
   | false=>
    rw [hb] at hq
    have hg:goC t now (n+1) p=(chkC t now p,sealed t p):=by
     show (if _ then _ else _)=_
     rw [hb,Bool.and_false];rfl
    rw [hg,hc]
    exact ⟨sealed t p,loopM_done hq,fun _=>rfl⟩
   | true=>
    rw [hb,if_pos rfl] at hq
    have hg:goC t now (n+1) p=goC t now n (adv (sealed t p)):=by
     show (if _ then _ else _)=_
     rw [hb,hc];rfl
    rw [hg,hc,loopM_next hq]
    obtain ⟨a1,a2⟩:=adv_part (p:=sealed t p) (by rw [e2];exact h0) hb
    obtain ⟨i,j,h1,h2,h3,h4,h5⟩:=hop_at hh
    refine ih (adv (sealed t p)) (by rw [adv_tot,sealed_tot];exact hp) ?_
    rw [a1,a2,e4,e5,h1]
    rw [h1,Int.toNat_natCast] at hm
    have :((i:Int)+1).toNat=i+1:=by omega
    rw [this]
    omega
  ·have hg:goC t now (n+1) p=(chkC t now p,sealed t p):=by
    show (if _ then _ else _)=_
    rw [show (chkC t now p==0)=false from by simpa using hc];rfl
   rw [hg]
   exact ⟨_,loopM_done (hstop _ _ hc),fun h=>absurd h hc⟩

def wantI (p:den tPk):Int:=if p.2.2.2.2.1==0&&p.2.2.2.2.2.1==0 then 0 else pIn (curPt p) (curHp p)


def gone (t:den tTo) (now:Int) (p:den tPk):Int×den tPk:=goC t now (p.2.2.2.1.length - p.2.2.2.2.1.toNat) p


def fwd (t:den tTo) (r now dead inn:Int) (p:den tPk):Int×Int×den tPk×Int:=
 if !validK p||(!simpleP t p.2.2.2.1|| !(curAS p==r)) then (2,0,p,0)
 else if !(inn==wantI p) then (3,0,p,0)
 else if !((gone t now p).1==0) then ((gone t now p).1,0,p,0)
 else if atLast (gone t now p).2 then (if (gone t now p).2.2.2.1==r then (1,0,(gone t now p).2,0) else (2,0,p,0))
 else if !stepA t (r,inn,pEg (curPt (gone t now p).2) (curHp (gone t now p).2)) then (6,0,p,0)
 else if inSet dead (pEg (curPt (gone t now p).2) (curHp (gone t now p).2)) then (7,0,p,pEg (curPt (gone t now p).2) (curHp (gone t now p).2))
 else (0,pEg (curPt (gone t now p).2) (curHp (gone t now p).2),adv (gone t now p).2,pEg (curPt (gone t now p).2) (curHp (gone t now p).2))

def fwI (v:Int×Int×den tPk×Int):Int×Int×Int×Int×Int×(List (den tPp))×Int×Int×Int×Int×Int×(List Int)×Int:=
 (v.1,v.2.1,v.2.2.1.1,v.2.2.1.2.1,v.2.2.1.2.2.1,v.2.2.1.2.2.2.1,v.2.2.1.2.2.2.2.1,v.2.2.1.2.2.2.2.2.1,v.2.2.1.2.2.2.2.2.2.1,v.2.2.1.2.2.2.2.2.2.2.1,v.2.2.1.2.2.2.2.2.2.2.2.1,v.2.2.1.2.2.2.2.2.2.2.2.2,v.2.2.2)

def fwS (v:Int×Int×den tPk×Int):Int×Int×Int×Int×Int×Int×Int×Int×Int×Int×(List (den tPp))×(List Int):=(v.1,v.2.1,pkR v.2.2.1)

theorem goC_hop {t:den tTo} {now:Int}: ∀ (n:Nat) (p:den tPk),(goC t now n p).1=0→hasHop (goC t now n p).2=true∧0≤curAS (goC t now n p).2∧tot tPk (goC t now n p).2=tot tPk p
 | 0,p,h=>by
  obtain ⟨h1,h2⟩:=chk_zero (show chkC t now p=0 from h)
  obtain ⟨e1,e2,_⟩:=sealed_cur t p
  exact ⟨e1.trans h1,by rw [show (goC t now 0 p).2=sealed t p from rfl,e2];exact h2,sealed_tot t p⟩
 | n+1,p,h=>by
  unfold goC at h ⊢
  split at h
  ·rename_i hc
   rw [if_pos hc]
   obtain ⟨h1,h2,h3⟩:=goC_hop n _ h
   exact ⟨h1,h2,by rw [h3,adv_tot,sealed_tot]⟩
  ·rename_i hc
   rw [if_neg hc]
   obtain ⟨h1,h2⟩:=chk_zero (show chkC t now p=0 from h)
   obtain ⟨e1,e2,_⟩:=sealed_cur t p
   exact ⟨e1.trans h1,by rw [show (chkC t now p,sealed t p).2=sealed t p from rfl,e2];exact h2,sealed_tot t p⟩

def chkR (t:den tTo) (now:Int) (p:den tPk):den tPk:=if chkC t now p=0 then sealed t p else p

def chkI (p:den tPk) (c:Int):Int×Int×Int×(List (den tPp))×Int×Int×Int×Int×Int×(List Int)×Int:=(p.1,p.2.1,p.2.2.1,p.2.2.2.1,p.2.2.2.2.1,p.2.2.2.2.2.1,p.2.2.2.2.2.2.1,p.2.2.2.2.2.2.2.1,p.2.2.2.2.2.2.2.2.1,p.2.2.2.2.2.2.2.2.2,c)

def chkS (p:den tPk) (c:Int):Int×Int×Int×Int×Int×Int×Int×Int×Int×(List (den tPp))×(List Int):=(p.1,p.2.1,p.2.2.1,p.2.2.2.2.1,p.2.2.2.2.2.1,p.2.2.2.2.2.2.1,p.2.2.2.2.2.2.2.1,p.2.2.2.2.2.2.2.2.1,c,p.2.2.2.1,p.2.2.2.2.2.2.2.2.2)

theorem i_chk {t:den tTo} {now:Int} {p:den tPk} (ht:t.1.length≤68719476736) (h:tot tPk p≤34359738368):i_checkHop t now p=some (chkI (chkR t now p) (chkC t now p)):=by
 unfold i_checkHop
 simp only [peta,i_seal ht (pk_sm h),obind_some]
 unfold chkR chkC
 cases c:sealOk t p
 ·simp only [sealR,Bool.not_false,cond_true,Bool.false_eq_true,if_false];rfl
 ·have hs:tot tPk (sealed t p)≤34359738368:=by rw [sealed_tot];exact h
  have key:i_CurrentHopValid ((sealR (sealed t p) true).1,(sealR (sealed t p) true).2.1,(sealR (sealed t p) true).2.2.1,(sealR (sealed t p) true).2.2.2.2.2.2.2.2.2.1,(sealR (sealed t p) true).2.2.2.1,(sealR (sealed t p) true).2.2.2.2.1,(sealR (sealed t p) true).2.2.2.2.2.1,(sealR (sealed t p) true).2.2.2.2.2.2.1,(sealR (sealed t p) true).2.2.2.2.2.2.2.1,(sealR (sealed t p) true).2.2.2.2.2.2.2.2.2.2) now=some (inTime p now):=by
   rw [← sealed_time t p now]
   exact i_inTime (pk_sm hs)
  rw [key]
  simp only [sealR,Bool.not_true,cond_false,obind_some,if_true]
  cases inTime p now
  ·simp only [Bool.not_false,cond_true,Bool.false_eq_true,if_false];rfl
  ·simp only [Bool.not_true,cond_false,if_true];rfl

theorem s_chk {t:den tTo} {now:Int} {p:den tPk} (ht:t.1.length≤68719476736) (h:tot tPk p≤34359738368):s_l28Check t now p=some (chkS (sealed t p) (chkC t now p)):=by
 unfold s_l28Check
 simp only [peta,s_seal ht (pk_sm h),s_inTime (pk_sm h),obind_some]
 unfold chkC
 cases c:sealOk t p
 ·simp only [sealR,Bool.not_false,cond_true,Bool.false_eq_true,if_false];rfl
 ·simp only [sealR,Bool.not_true,cond_false,if_true]
  cases inTime p now
  ·simp only [Bool.not_false,cond_true,Bool.false_eq_true,if_false];rfl
  ·simp only [Bool.not_true,cond_false,if_true];rfl

theorem validK_hop {p:den tPk} (h:validK p=true):hasHop p=true:=by
 unfold validK at h
 simp only [Bool.and_eq_true] at h
 exact h.2.2.1

theorem i_rej {c:Int} {p:den tPk} (h:tot tPk p≤34359738368):i_decide_1 c p=some (c,0,p.1,p.2.1,p.2.2.1,p.2.2.2.2.1,p.2.2.2.2.2.1,p.2.2.2.2.2.2.1,p.2.2.2.2.2.2.2.1,p.2.2.2.2.2.2.2.2.1,p.2.2.2.1,p.2.2.2.2.2.2.2.2.2,p.1,p.2.1,p.2.2.1,p.2.2.2.1,p.2.2.2.2.1,p.2.2.2.2.2.1,p.2.2.2.2.2.2.1,p.2.2.2.2.2.2.2.1,p.2.2.2.2.2.2.2.2.1,p.2.2.2.2.2.2.2.2.2):=by
 unfold i_decide_1
 simp only [peta,i_copyK (pk_sm h),obind_some]
 rfl

theorem s_rej {c:Int} {p:den tPk} (h:tot tPk p≤34359738368):s_l28No c p=some (c,0,pkR p):=by
 unfold s_l28No
 simp only [peta,s_copyK (pk_sm h),obind_some]

theorem pk_tot {p:den tPk} {N:Nat} (h:tot tPk p≤N):tot tPt p.2.2.2.1≤N:=(pk_path h).1

theorem i_fwd {t:den tTo} {r now dead inn:Int} {p:den tPk} (ht:t.1.length≤68719476736) (ht2:t.2.length≤68719476736) (h:tot tPk p≤34359738368) (hpp:tot tPt p.2.2.2.1≤1073741824):i_decide t r now dead inn p=some (fwI (fwd t r now dead inn p)):=by
 unfold i_decide fwd
 simp only [peta,i_validK (pk_sm h),i_simpleP ht ht2 hpp,i_curAS (pk_sm h),obind_some,ne_beq,i_rej h]
 cases cv:validK p
 ·simp only [Bool.not_false,Bool.true_or,cond_true,obind_some,if_true];rfl
 ·cases cs:simpleP t p.2.2.2.1
  ·simp only [Bool.not_true,Bool.not_false,Bool.true_or,Bool.or_true,cond_true,cond_false,obind_some,if_true];rfl
  ·cases cr:curAS p==r
   ·simp only [Bool.not_true,Bool.not_false,Bool.true_or,Bool.or_true,cond_true,cond_false,obind_some,if_true];rfl
   ·simp only [Bool.not_true,Bool.or_self,cond_false,obind_some,Bool.false_eq_true,if_false]
    obtain ⟨i,j,h1,h2,h3,h4,h5⟩:=hop_at (validK_hop cv)
    have hl:=pt_len (pk_sm h) h3
    have hw:(@Option.bind Bool Int (cond (p.2.2.2.2.1==(0:Int)) (some (p.2.2.2.2.2.1==(0:Int))) (some false)) fun (s8:Bool)=>cond s8 (some (0:Int)) (some (pIn (curPt p) (curHp p))))=some (wantI p):=by
     unfold wantI
     cases p.2.2.2.2.1==0<;>cases p.2.2.2.2.2.1==0<;>rfl
    have hp1:idx p.2.2.2.1 p.2.2.2.2.1=some (curPt p):=by rw [h1,idx_nat];exact h3
    have hp2:i_PartIngress (curPt p) p.2.2.2.2.2.1=some (pIn (curPt p) (curHp p)):=by rw [h2];exact i_pIn h4 hl
    rw [hp1,obind_some,hp2,obind_some,hw,obind_some]
    cases ci:inn==wantI p
    ·simp only [Bool.not_false,cond_true,if_true,obind_some];rfl
    ·simp only [Bool.not_true,cond_false,Bool.false_eq_true,if_false,i_copyK (pk_sm h),obind_some]
     have hc:i_checkHop t now ((pkR p).1,(pkR p).2.1,(pkR p).2.2.1,(pkR p).2.2.2.2.2.2.2.2.1,(pkR p).2.2.2.1,(pkR p).2.2.2.2.1,(pkR p).2.2.2.2.2.1,(pkR p).2.2.2.2.2.2.1,(pkR p).2.2.2.2.2.2.2.1,(pkR p).2.2.2.2.2.2.2.2.2)=some (chkI (chkR t now p) (chkC t now p)):=i_chk ht h
     rw [hc]
     simp only [obind_some,both_self,dup_self,dup3_self,dup4_self,dup5_self]
     obtain ⟨q,hq1,hq2⟩:=go_loop (t:=t) (now:=now) (S:=Int×den tPk) (R:=Int×den tPk) (fun c p=>(c,p)) id (step:=fun s23=> @Option.bind Bool _ (cond (s23.1==(0:Int)) (Option.bind (i_lastOfPart s23.2) fun y24=>cond y24 (Option.bind (i_AtLastHop s23.2) fun y25=>some (!y25)) (some false)) (some false)) fun (s26:Bool)=>cond s26 (Option.bind (i_AdvanceHop s23.2) fun y27=>Option.bind (i_checkHop t now (y27.1,y27.2.1,y27.2.2.1,y27.2.2.2.2.2.2.2.2.1,y27.2.2.2.1,y27.2.2.2.2.1,y27.2.2.2.2.2.1,y27.2.2.2.2.2.2.1,y27.2.2.2.2.2.2.2.1,y27.2.2.2.2.2.2.2.2.2)) fun y28=>some (Sum.inl (y28.2.2.2.2.2.2.2.2.2.2,y28.1,y28.2.1,y28.2.2.1,y28.2.2.2.1,y28.2.2.2.2.1,y28.2.2.2.2.2.1,y28.2.2.2.2.2.2.1,y28.2.2.2.2.2.2.2.1,y28.2.2.2.2.2.2.2.2.1,y28.2.2.2.2.2.2.2.2.2.1))) (some (Sum.inr s23))) (chkR t now) (fun p hp=>if_pos hp) (fun c p hc=>by
       have :(c==0)=false:=by simpa using hc
       simp only [this,cond_false,obind_some,id]) (fun q hq hh h0=>by
       have e:i_checkHop t now ((pkR (adv q)).1,(pkR (adv q)).2.1,(pkR (adv q)).2.2.1,(pkR (adv q)).2.2.2.2.2.2.2.2.1,(pkR (adv q)).2.2.2.1,(pkR (adv q)).2.2.2.2.1,(pkR (adv q)).2.2.2.2.2.1,(pkR (adv q)).2.2.2.2.2.2.1,(pkR (adv q)).2.2.2.2.2.2.2.1,(pkR (adv q)).2.2.2.2.2.2.2.2.2)=some (chkI (chkR t now (adv q)) (chkC t now (adv q))):=i_chk (p:=adv q) ht (by rw [adv_tot];exact hq)
       simp only [beq_self_eq_true,cond_true,i_lastPt (pk_sm hq) hh,i_atLast (pk_sm hq),i_adv (pk_sm hq),obind_some,e]
       cases lastPt q<;>cases atLast q<;>rfl) _ p h (Nat.le_refl _)
     have hq1:loopM _ (chkC t now p,chkR t now p)=some ((gone t now p).1,q):=hq1
     have hq2:(gone t now p).1=0→q=(gone t now p).2:=hq2
     have e0:(((chkI (chkR t now p) (chkC t now p)).2.2.2.2.2.2.2.2.2.2,(chkI (chkR t now p) (chkC t now p)).1,(chkI (chkR t now p) (chkC t now p)).2.1,(chkI (chkR t now p) (chkC t now p)).2.2.1,(chkI (chkR t now p) (chkC t now p)).2.2.2.1,(chkI (chkR t now p) (chkC t now p)).2.2.2.2.1,(chkI (chkR t now p) (chkC t now p)).2.2.2.2.2.1,(chkI (chkR t now p) (chkC t now p)).2.2.2.2.2.2.1,(chkI (chkR t now p) (chkC t now p)).2.2.2.2.2.2.2.1,(chkI (chkR t now p) (chkC t now p)).2.2.2.2.2.2.2.2.1,(chkI (chkR t now p) (chkC t now p)).2.2.2.2.2.2.2.2.2.1):Int×den tPk)=(chkC t now p,chkR t now p):=rfl
     rw [e0,hq1,obind_some]
     by_cases hz:(gone t now p).1=0
     ·have hqq:=hq2 hz
      subst hqq
      obtain ⟨g1,g2,g3⟩:=goC_hop _ p hz
      have g1:hasHop (gone t now p).2=true:=g1
      have g2:0≤curAS (gone t now p).2:=g2
      have g3:tot tPk (gone t now p).2=tot tPk p:=g3
      have hg:tot tPk (gone t now p).2≤34359738368:=by rw [g3];exact h
      obtain ⟨i',j',k1,k2,k3,k4,k5⟩:=hop_at g1
      have hl':=pt_len (pk_sm hg) k3
      have q1:idx (gone t now p).2.2.2.2.1 (gone t now p).2.2.2.2.2.1=some (curPt (gone t now p).2):=by rw [k1,idx_nat];exact k3
      have q2:i_PartEgress (curPt (gone t now p).2) (gone t now p).2.2.2.2.2.2.1=some (pEg (curPt (gone t now p).2) (curHp (gone t now p).2)):=by rw [k2];exact i_pEg k4 hl'
      simp only [hz,beq_self_eq_true,Bool.not_true,cond_false,Bool.false_eq_true,if_false,i_atLast (pk_sm hg),obind_some]
      cases ca:atLast (gone t now p).2
      ·simp only [cond_false,Bool.false_eq_true,if_false,q1,q2,obind_some,i_stepA ht2,i_inSet]
       cases stepA t (r,inn,pEg (curPt (gone t now p).2) (curHp (gone t now p).2))
       ·simp only [Bool.not_false,cond_true,if_true];rfl
       ·simp only [Bool.not_true,cond_false,Bool.false_eq_true,if_false]
        cases inSet dead (pEg (curPt (gone t now p).2) (curHp (gone t now p).2))
        ·simp only [cond_false,Bool.false_eq_true,if_false,i_adv (pk_sm hg),obind_some];rfl
        ·simp only [cond_true,if_true];rfl
      ·simp only [cond_true,if_true]
       cases (gone t now p).2.2.2.1==r
       ·simp only [Bool.not_false,cond_true,Bool.false_eq_true,if_false];rfl
       ·simp only [Bool.not_true,cond_false,if_true];rfl
     ·have hz':((gone t now p).1==0)=false:=by simpa using hz
      simp only [hz',Bool.not_false,cond_true,if_true,i_rej h,obind_some];rfl


def encS (c:Int) (p:den tPk):Int×Int×Int×Int×Int×Int×Int×Int×Int×(List (den tPp))×(List Int):=(c,p.1,p.2.1,p.2.2.1,p.2.2.2.2.1,p.2.2.2.2.2.1,p.2.2.2.2.2.2.1,p.2.2.2.2.2.2.2.1,p.2.2.2.2.2.2.2.2.1,p.2.2.2.1,p.2.2.2.2.2.2.2.2.2)

theorem more_key {q:den tPk} (hh:hasHop q=true) (h0:0≤curAS q):(lastPt q&&decide (q.2.2.2.2.1<(q.2.2.2.1.length:Int) - 1))=(lastPt q&& !atLast q):=by
 obtain ⟨i,j,h1,h2,h3,h4,h5⟩:=hop_at hh
 have hlt:=(List.getElem?_eq_some_iff.1 h3).1
 unfold atLast lastIn
 rw [decide_eq_true (p:=curAS q≥0) h0,h1]
 have key:decide ((i:Int)<(q.2.2.2.1.length:Int) - 1)= !((i:Int)==(q.2.2.2.1.length:Int) - 1):=by
  rw [Bool.eq_iff_iff]
  simp only [decide_eq_true_eq,Bool.not_eq_true',beq_eq_false_iff_ne,ne_eq]
  omega
 rw [key]
 cases lastPt q<;>simp

theorem s_fwd {t:den tTo} {r now dead inn:Int} {p:den tPk} (ht:t.1.length≤68719476736) (ht2:t.2.length≤68719476736) (h:tot tPk p≤34359738368) (hpp:tot tPt p.2.2.2.1≤1073741824):s_Forward t r now dead inn p=some (fwS (fwd t r now dead inn p)):=by
 unfold s_Forward fwd
 simp only [peta,s_validK (pk_sm h),s_simpleP ht ht2 hpp,s_curAS (pk_sm h),obind_some,ne_beq,s_rej h]
 cases cv:validK p
 ·simp only [Bool.not_false,Bool.true_or,cond_true,obind_some,if_true];rfl
 ·cases cs:simpleP t p.2.2.2.1
  ·simp only [Bool.not_true,Bool.not_false,Bool.true_or,Bool.or_true,cond_true,cond_false,obind_some,if_true];rfl
  ·cases cr:curAS p==r
   ·simp only [Bool.not_true,Bool.not_false,Bool.true_or,Bool.or_true,cond_true,cond_false,obind_some,if_true];rfl
   ·simp only [Bool.not_true,Bool.or_self,cond_false,obind_some,Bool.false_eq_true,if_false]
    obtain ⟨i,j,h1,h2,h3,h4,h5⟩:=hop_at (validK_hop cv)
    have hl:=pt_len (pk_sm h) h3
    have hw:(@Option.bind Bool Int (cond (p.2.2.2.2.1==(0:Int)) (some (p.2.2.2.2.2.1==(0:Int))) (some false)) fun (s8:Bool)=>cond s8 (some (0:Int)) (some (pIn (curPt p) (curHp p))))=some (wantI p):=by
     unfold wantI
     cases p.2.2.2.2.1==0<;>cases p.2.2.2.2.2.1==0<;>rfl
    have hp1:idx p.2.2.2.1 p.2.2.2.2.1=some (curPt p):=by rw [h1,idx_nat];exact h3
    have hp2:s_PartIngress (curPt p) p.2.2.2.2.2.1=some (pIn (curPt p) (curHp p)):=by rw [h2];exact s_pIn h4 hl
    rw [hp1,obind_some,hp2,obind_some,hw,obind_some]
    cases ci:inn==wantI p
    ·simp only [Bool.not_false,cond_true,if_true,obind_some];rfl
    ·simp only [Bool.not_true,cond_false,Bool.false_eq_true,if_false,s_chk ht h,obind_some]
     obtain ⟨q,hq1,hq2⟩:=go_loop (t:=t) (now:=now) encS id (step:=fun s17=> @Option.bind Bool _ (cond (s17.1==(0:Int)) (cond (decide ((0:Int)≤s17.2.2.2.2.1)) (cond (decide (s17.2.2.2.2.1<(s17.2.2.2.2.2.2.2.2.2.1.length:Int))) (Option.bind s17.2.2.2.2.2.2.2.2.2.1[s17.2.2.2.2.1.toNat]? fun x18=>cond (s17.2.2.2.2.2.1==(wr ((x18.2.2.2.length:Int) - (1:Int)))) (some (decide (s17.2.2.2.2.1<(wr ((s17.2.2.2.2.2.2.2.2.2.1.length:Int) - (1:Int)))))) (some false)) none) none) (some false)) fun (s19:Bool)=>cond s19 (Option.bind (s_AdvanceHop (s17.2.1,s17.2.2.1,s17.2.2.2.1,s17.2.2.2.2.2.2.2.2.2.1,s17.2.2.2.2.1,s17.2.2.2.2.2.1,s17.2.2.2.2.2.2.1,s17.2.2.2.2.2.2.2.1,s17.2.2.2.2.2.2.2.2.1,s17.2.2.2.2.2.2.2.2.2.2)) fun y20=>Option.bind (s_l28Check t now (y20.1,y20.2.1,y20.2.2.1,y20.2.2.2.2.2.2.2.2.1,y20.2.2.2.1,y20.2.2.2.2.1,y20.2.2.2.2.2.1,y20.2.2.2.2.2.2.1,y20.2.2.2.2.2.2.2.1,y20.2.2.2.2.2.2.2.2.2)) fun y21=>some (Sum.inl (y21.2.2.2.2.2.2.2.2.1,y21.1,y21.2.1,y21.2.2.1,y21.2.2.2.1,y21.2.2.2.2.1,y21.2.2.2.2.2.1,y21.2.2.2.2.2.2.1,y21.2.2.2.2.2.2.2.1,y21.2.2.2.2.2.2.2.2.2.1,y21.2.2.2.2.2.2.2.2.2.2))) (some (Sum.inr s17))) (sealed t) (fun p hp=>rfl) (fun c p hc=>by
       have :(c==0)=false:=by simpa using hc
       simp only [encS,this,cond_false,obind_some,id]) (fun q hq hh h0=>by
       have e:s_l28Check t now ((pkR (adv q)).1,(pkR (adv q)).2.1,(pkR (adv q)).2.2.1,(pkR (adv q)).2.2.2.2.2.2.2.2.1,(pkR (adv q)).2.2.2.1,(pkR (adv q)).2.2.2.2.1,(pkR (adv q)).2.2.2.2.2.1,(pkR (adv q)).2.2.2.2.2.2.1,(pkR (adv q)).2.2.2.2.2.2.2.1,(pkR (adv q)).2.2.2.2.2.2.2.2.2)=some (chkS (sealed t (adv q)) (chkC t now (adv q))):=s_chk (p:=adv q) ht (by rw [adv_tot];exact hq)
       obtain ⟨i',j',k1,k2,k3,k4,k5⟩:=hop_at hh
       have hlt:=(List.getElem?_eq_some_iff.1 k3).1
       have l1:List.length q.2.2.2.1≤68719476736:=(pk_sm hq).2.2.2.1.1
       have hm:=more_key hh h0
       simp only [encS,beq_self_eq_true,cond_true,peta,s_adv (pk_sm hq),obind_some,e]
       rw [← hm]
       have hd:decide ((i':Int)<(q.2.2.2.1.length:Int))=true:=decide_eq_true (by omega)
       simp only [k1,pos_nat,hd,cond_true,Int.toNat_natCast,k3,obind_some,wr_less (pt_len (pk_sm hq) k3),wr_less l1]
       unfold lastPt
       cases q.2.2.2.2.2.1==((curPt q).2.2.2.length:Int) - 1<;>cases decide ((i':Int)<(q.2.2.2.1.length:Int) - 1)<;>rfl) _ p h (Nat.le_refl _)
     have hq1:loopM _ (encS (chkC t now p) (sealed t p))=some (encS (gone t now p).1 q):=hq1
     have hq2:(gone t now p).1=0→q=(gone t now p).2:=hq2
     have e0:(((chkS (sealed t p) (chkC t now p)).2.2.2.2.2.2.2.2.1,(chkS (sealed t p) (chkC t now p)).1,(chkS (sealed t p) (chkC t now p)).2.1,(chkS (sealed t p) (chkC t now p)).2.2.1,(chkS (sealed t p) (chkC t now p)).2.2.2.1,(chkS (sealed t p) (chkC t now p)).2.2.2.2.1,(chkS (sealed t p) (chkC t now p)).2.2.2.2.2.1,(chkS (sealed t p) (chkC t now p)).2.2.2.2.2.2.1,(chkS (sealed t p) (chkC t now p)).2.2.2.2.2.2.2.1,(chkS (sealed t p) (chkC t now p)).2.2.2.2.2.2.2.2.2.1,(chkS (sealed t p) (chkC t now p)).2.2.2.2.2.2.2.2.2.2))=encS (chkC t now p) (sealed t p):=rfl
     rw [e0,hq1,obind_some]
     by_cases hz:(gone t now p).1=0
     ·have hqq:=hq2 hz
      subst hqq
      obtain ⟨g1,g2,g3⟩:=goC_hop _ p hz
      have g1:hasHop (gone t now p).2=true:=g1
      have g2:0≤curAS (gone t now p).2:=g2
      have g3:tot tPk (gone t now p).2=tot tPk p:=g3
      have hg:tot tPk (gone t now p).2≤34359738368:=by rw [g3];exact h
      obtain ⟨i',j',k1,k2,k3,k4,k5⟩:=hop_at g1
      have hlt:=(List.getElem?_eq_some_iff.1 k3).1
      have hl':=pt_len (pk_sm hg) k3
      have q2:s_PartEgress (curPt (gone t now p).2) (gone t now p).2.2.2.2.2.2.1=some (pEg (curPt (gone t now p).2) (curHp (gone t now p).2)):=by rw [k2];exact s_pEg k4 hl'
      simp only [encS,peta,hz,beq_self_eq_true,Bool.not_true,cond_false,Bool.false_eq_true,if_false,s_atLast (pk_sm hg),obind_some]
      cases ca:atLast (gone t now p).2
      ·simp only [cond_false,obind_some,Bool.false_eq_true,if_false]
       have hd:decide ((i':Int)<((gone t now p).2.2.2.2.1.length:Int))=true:=decide_eq_true (by omega)
       simp only [k1,pos_nat,hd,cond_true,Int.toNat_natCast,k3,obind_some,q2,s_stepA ht2,s_inSet]
       cases stepA t (r,inn,pEg (curPt (gone t now p).2) (curHp (gone t now p).2))
       ·simp only [Bool.not_false,cond_true,if_true];rfl
       ·simp only [Bool.not_true,cond_false,Bool.false_eq_true,if_false]
        cases inSet dead (pEg (curPt (gone t now p).2) (curHp (gone t now p).2))
        ·simp only [cond_false,Bool.false_eq_true,if_false,s_adv (pk_sm hg),obind_some];rfl
        ·simp only [cond_true,if_true];rfl
      ·simp only [cond_true,obind_some]
       cases (gone t now p).2.2.2.1==r
       ·simp only [cond_false,cond_true,Bool.false_eq_true,if_false,if_true];rfl
       ·simp only [cond_true,if_true];rfl
     ·have hz':((gone t now p).1==0)=false:=by simpa using hz
      simp only [encS,hz',Bool.not_false,cond_true,if_true,s_rej h,obind_some];rfl

theorem fwd_tot (t:den tTo) (r now dead inn:Int) (p:den tPk):tot tPk (fwd t r now dead inn p).2.2.1=tot tPk p:=by
 unfold fwd
 split
 ·rfl
 ·split
  ·rfl
  ·split
   ·rfl
   ·rename_i hz
    have hz:(gone t now p).1=0:=by simpa using hz
    obtain ⟨_,_,g3⟩:=goC_hop _ p hz
    have g3:tot tPk (gone t now p).2=tot tPk p:=g3
    split
    ·split
     ·exact g3
     ·rfl
    ·split
     ·rfl
     ·split
      ·rfl
      ·show tot tPk (adv (gone t now p).2)=_
       rw [adv_tot];exact g3

def stepV (t:den tTo) (now:Int) (dead:List Int) (r inn:Int) (p:den tPk):Int×Int×den tPk×Int:=fwd t r now (deadE t dead r) inn p

abbrev nT (w:den tNw):den tTo:=w.1

abbrev nK (w:den tNw):den tDb:=w.2.1

abbrev nG (w:den tNw):den tSc:=w.2.2.1

abbrev nNow (w:den tNw):Int:=w.2.2.2.1

abbrev nDead (w:den tNw):List Int:=w.2.2.2.2.1

abbrev nFly (w:den tNw):List (den tFy):=w.2.2.2.2.2.1

abbrev nFlows (w:den tNw):List (den tFl):=w.2.2.2.2.2.2.1

abbrev nBox (w:den tNw):List (den tIb):=w.2.2.2.2.2.2.2.1

abbrev nDrop (w:den tNw):Int:=w.2.2.2.2.2.2.2.2


def netC (w:den tNw):Int×Int×Int×(List (den tAS))×(List (den tLk))×(List (den tSg))×(List (den tSg))×(List (den tRs))×(List (den tUs))×(List Int)×(List (den tFy))×(List (den tFl))×(List (den tIb)):=
 ((nG w).1,nNow w,nDrop w,(nT w).1,(nT w).2,(nK w).1,(nK w).2,(nG w).2.1,(nG w).2.2,nDead w,nFly w,nFlows w,nBox w)

theorem i_copyR' {l:List (den tRs)} (h:l.length≤68719476736):i_copyReservations l=some l:=by
 unfold i_copyReservations
 rw [apOk_le (n:=([]:List (den tRs)).length) (by decide) (by simpa using h)]
 rfl

theorem i_copyS' {g:den tSc} (h:SmB 68719476736 tSc g):i_copyScheduler g=some g:=by
 unfold i_copyScheduler
 rw [i_copyR' h.2.1.1,obind_some,apOk_le (n:=([]:List (den tUs)).length) (by decide) (by simpa using h.2.2.1)]
 rfl

theorem s_copyS' {g:den tSc} (h:SmB 68719476736 tSc g):s_l34Copy g=some g:=by
 unfold s_l34Copy
 rw [apOk_le (b:=40) (n:=([]:List (den tRs)).length) (by decide) (by simpa using h.2.1.1),apOk_le (b:=32) (n:=([]:List (den tUs)).length) (by decide) (by simpa using h.2.2.1)]
 simp only [both_self,dup_self,dup3_self,dup4_self,dup5_self,cond_true,obind_some,List.nil_append]

theorem flow_back (f:den tFl):(((flowR f).1,(flowR f).2.1,(flowR f).2.2.1,(flowR f).2.2.2.1,(flowR f).2.2.2.2.2.2.1,(flowR f).2.2.2.2.2.2.2.1,(flowR f).2.2.2.2.1,(flowR f).2.2.2.2.2.1,(flowR f).2.2.2.2.2.2.2.2):den tFl)=f:=rfl

theorem pk_back (p:den tPk):(((pkR p).1,(pkR p).2.1,(pkR p).2.2.1,(pkR p).2.2.2.2.2.2.2.2.1,(pkR p).2.2.2.1,(pkR p).2.2.2.2.1,(pkR p).2.2.2.2.2.1,(pkR p).2.2.2.2.2.2.1,(pkR p).2.2.2.2.2.2.2.1,(pkR p).2.2.2.2.2.2.2.2.2):den tPk)=p:=rfl

theorem fly_pk {x:den tFy} (h:SmB 68719476736 tFy x):SmB 68719476736 tPk x.2.2:=h.2.2

theorem i_copyW {w:den tNw} (h:SmB 68719476736 tNw w):i_copyNetwork w=some (netC w):=by
 obtain ⟨hT,hK,hG,_,hD,hY,hF,hX,_⟩:=h
 unfold i_copyNetwork i_copyDatabase
 simp only [peta,i_copyT hT,i_copyGs hK.1,i_copyGs hK.2,i_copyS' hG,i_copyI hD.1,obind_some]
 rw [(loopF (fun k (a:List (den tFy))=>((k:Int),(nG w).1,nNow w,nDrop w,a)) ((0:Int),(nG w).1,nNow w,nDrop w,[]) [] (nFly w) (fun _ x a=>a++[x]) List.length (fun _=>1) 68719476736 (fun a=>((nG w).1,nNow w,nDrop w,a)) rfl (Nat.le_trans hY.1 (by decide)) (by rw [sum_one];simpa using hY.1) (fun k x a hi hx hd hw hk hb=>by
  have e:=fly_pk (hY.2 x (List.mem_of_getElem? hx))
  simp only [hd,hi,hw,cond_true,obind_some,peta,i_copyK e,pk_back,apOk_le (b:=128) (n:=a.length) (m:=1) (by decide) hb]
  exact ⟨rfl,by simp⟩) (fun a=>by simp)).1,foldI_map (fun x=>x)]
 simp only [obind_some]
 rw [(loopF (fun k (a:List (den tFl))=>((k:Int),(nG w).1,nNow w,nDrop w,a)) ((0:Int),(nG w).1,nNow w,nDrop w,[]) [] (nFlows w) (fun _ x a=>a++[x]) List.length (fun _=>1) 68719476736 (fun a=>((nG w).1,nNow w,nDrop w,a)) rfl (Nat.le_trans hF.1 (by decide)) (by rw [sum_one];simpa using hF.1) (fun k x a hi hx hd hw hk hb=>by
  have e:=hF.2 x (List.mem_of_getElem? hx)
  simp only [hd,hi,hw,cond_true,obind_some,peta,i_copyF e,flow_back,apOk_le (b:=120) (n:=a.length) (m:=1) (by decide) hb]
  exact ⟨rfl,by simp⟩) (fun a=>by simp)).1,foldI_map (fun x=>x)]
 simp only [obind_some]
 rw [(loopF (fun k (a:List (den tIb))=>((k:Int),(nG w).1,nNow w,nDrop w,a)) ((0:Int),(nG w).1,nNow w,nDrop w,[]) [] (nBox w) (fun _ x a=>a++[x]) List.length (fun _=>1) 68719476736 (fun a=>((nG w).1,nNow w,nDrop w,a)) rfl (Nat.le_trans hX.1 (by decide)) (by rw [sum_one];simpa using hX.1) (fun k x a hi hx hd hw hk hb=>by
  have e:=hX.2 x (List.mem_of_getElem? hx)
  simp only [hd,hi,hw,cond_true,obind_some,peta,i_copyX e,apOk_le (b:=48) (n:=a.length) (m:=1) (by decide) hb]
  simp) (fun a=>by simp)).1,foldI_map (fun x=>x)]
 simp only [obind_some,List.nil_append,List.map_id']
 rfl

theorem s_fly {l:List (den tFy)} (h:SmB 68719476736 (.sl tFy) l):s_l37Fly l=some l:=by
 unfold s_l37Fly
 rw [(loopF (fun k (a:List (den tFy))=>((k:Int),a)) ((0:Int),[]) [] l (fun _ x a=>a++[x]) List.length (fun _=>1) 68719476736 id rfl (Nat.le_trans h.1 (by decide)) (by rw [sum_one];simpa using h.1) (fun k x a hi hx hd hw hk hb=>by
  have e:=fly_pk (h.2 x (List.mem_of_getElem? hx))
  simp only [hd,hi,hw,cond_true,obind_some,peta,s_copyK e,pk_back,apOk_le (b:=128) (n:=a.length) (m:=1) (by decide) hb]
  exact ⟨rfl,by simp⟩) (fun a=>by simp)).1,foldI_map (fun x=>x)]
 simp

theorem s_flows {l:List (den tFl)} (h:SmB 68719476736 (.sl tFl) l):s_l37Flows l=some l:=by
 unfold s_l37Flows
 rw [(loopF (fun k (a:List (den tFl))=>((k:Int),a)) ((0:Int),[]) [] l (fun _ x a=>a++[x]) List.length (fun _=>1) 68719476736 id rfl (Nat.le_trans h.1 (by decide)) (by rw [sum_one];simpa using h.1) (fun k x a hi hx hd hw hk hb=>by
  have e:=h.2 x (List.mem_of_getElem? hx)
  simp only [hd,hi,hw,cond_true,obind_some,peta,s_copyF e,flow_back,apOk_le (b:=120) (n:=a.length) (m:=1) (by decide) hb]
  exact ⟨rfl,by simp⟩) (fun a=>by simp)).1,foldI_map (fun x=>x)]
 simp

theorem s_boxes {l:List (den tIb)} (h:SmB 68719476736 (.sl tIb) l):s_l37Boxes l=some l:=by
 unfold s_l37Boxes
 rw [(loopF (fun k (a:List (den tIb))=>((k:Int),a)) ((0:Int),[]) [] l (fun _ x a=>a++[x]) List.length (fun _=>1) 68719476736 id rfl (Nat.le_trans h.1 (by decide)) (by rw [sum_one];simpa using h.1) (fun k x a hi hx hd hw hk hb=>by
  have e:=h.2 x (List.mem_of_getElem? hx)
  simp only [hd,hi,hw,cond_true,obind_some,peta,s_copyX e,apOk_le (b:=48) (n:=a.length) (m:=1) (by decide) hb]
  simp) (fun a=>by simp)).1,foldI_map (fun x=>x)]
 simp

theorem s_copyW {w:den tNw} (h:SmB 68719476736 tNw w):s_l37Copy w=some (netC w):=by
 obtain ⟨hT,hK,hG,_,hD,hY,hF,hX,_⟩:=h
 unfold s_l37Copy
 simp only [peta,s_copyT hT,s_copyGs hK.1,s_copyGs hK.2,s_copyS' hG,s_fly hY,s_flows hF,s_boxes hX,obind_some,apOk_le (b:=8) (n:=([]:List Int).length) (m:=w.2.2.2.2.1.length) (by decide) (by simpa using hD.1),cond_true,both_self,dup_self,dup3_self,dup4_self,dup5_self,List.nil_append]
 rfl


def netR (w:den tNw):(List (den tFy))×(List (den tFl))×(List (den tIb))×(List (den tAS))×(List (den tLk))×(List (den tSg))×(List (den tSg))×Int×(List (den tRs))×(List (den tUs))×Int×(List Int)×Int:=
 (nFly w,nFlows w,nBox w,(nT w).1,(nT w).2,(nK w).1,(nK w).2,(nG w).1,(nG w).2.1,(nG w).2.2,nNow w,nDead w,nDrop w)

def setFlows (w:den tNw) (l:List (den tFl)):den tNw:=(nT w,nK w,nG w,nNow w,nDead w,nFly w,l,nBox w,nDrop w)

def toldF (r:Int) (p:den tPk) (f:den tFl):den tFl:=if f.1==r then (if p.1==2 then handA f p else handR f p) else f

def tellW (w:den tNw) (r:Int) (p:den tPk):den tNw:=setFlows w ((nFlows w).map (toldF r p))

def bytesP (p:den tPk):Prop:= ∀ x∈p.2.2.2.2.2.2.2.2.2,0≤x∧x≤255


theorem loopSet {α S R:Type} (enc:Nat→List α→S) (l:List α) (g:α→α) (out:List α→R) {step:S→Option (S⊕R)} (hl:l.length≤4611686018427387904)
  (h: ∀ (k:Nat) (x:α) (a:List α),a.length=l.length→a[k]? =some x→x∈l→k<l.length→decide ((k:Int)<(l.length:Int))=true→IntKind.i64.wrap ((k:Int)+1)=((k+1:Nat):Int)→step (enc k a)=some (.inl (enc (k+1) (a.set k (g x)))))
  (he: ∀ a,a.length=l.length→step (enc l.length a)=some (.inr (out a))):loopM step (enc 0 l)=some (out (l.map g)):=by
 have key: ∀ (rest pre:List α),pre++rest=l→loopM step (enc pre.length (pre.map g++rest))=some (out (l.map g)):=by
  intro rest
  induction rest with
  | nil=>
   intro pre hp
   rw [List.append_nil] at hp
   subst hp
   rw [List.append_nil]
   exact loopM_done (he _ (by simp))
  | cons x rest ih=>
   intro pre hp
   have hlt:pre.length<l.length:=by rw [← hp];simp
   have hx:(pre.map g++x::rest)[pre.length]? =some x:=by simp
   have hlen:(pre.map g++x::rest).length=l.length:=by rw [← hp];simp
   rw [loopM_next (h pre.length x _ hlen hx (by rw [← hp];simp) hlt (by simpa using hlt) (by rw [wri (by omega) (by omega)];omega))]
   have hs:(pre.map g++x::rest).set pre.length (g x)=(pre++[x]).map g++rest:=by
    rw [List.set_append_right _ _ (by simp)]
    simp
   rw [hs]
   have :=ih (pre++[x]) (by simpa using hp)
   simpa using this
 exact key l [] rfl

theorem set_same {α:Type} {a:List α} {k:Nat} {x:α} (h:a[k]? =some x):a.set k x=a:=by
 obtain ⟨hlt,hx⟩:=List.getElem?_eq_some_iff.1 h
 rw [← hx]
 exact List.set_getElem_self hlt

theorem flow_sm {f:den tFl} (h:tot tFl f≤1073741824):SmB 68719476736 tFl f:=(sm_of_tot h).mono (by decide)

theorem dec_len {α:Type} {a:List α} {k n:Nat} (h:a.length=n) (hk:k<n):decide ((k:Int)<(a.length:Int))=true∧decide (k<a.length)=true:=by
 constructor<;>simp<;>omega

theorem i_tellW {w:den tNw} {r:Int} {p:den tPk} (hF: ∀ f∈nFlows w,tot tFl f≤1073741824) (hl:(nFlows w).length≤1073741824) (hp:tot tPk p≤1073741824) (hb:bytesP p):i_Network_tell w r p=some (netR (tellW w r p)):=by
 unfold i_Network_tell
 refine loopSet (fun k (a:List (den tFl))=>((k:Int),a)) (nFlows w) (toldF r p) (fun l=>netR (setFlows w l)) (Nat.le_trans hl (by decide)) (fun k f a ha hx hm hk hd hw=> ?_) (fun a ha=> ?_)
 ·obtain ⟨d1,d2⟩:=dec_len ha hk
  have hd:decide ((k:Int)<(w.2.2.2.2.2.2.1.length:Int))=true:=hd
  simp only [hd,d1,d2,pos_nat,Int.toNat_natCast,hx,cond_true,obind_some,peta,ne_beq,i_handA (flow_sm (hF f hm)),i_handR (hF f hm) hp hb,flow_back,hw]
  unfold toldF
  cases f.1==r
  ·simp only [Bool.not_false,cond_true,Bool.false_eq_true,if_false,obind_some,set_same hx]
  ·simp only [Bool.not_true,cond_false,if_true]
   cases p.1==2<;>rfl
 ·simp;rfl

end Go.Proofs.YtejfajiolkojlaaGreat
