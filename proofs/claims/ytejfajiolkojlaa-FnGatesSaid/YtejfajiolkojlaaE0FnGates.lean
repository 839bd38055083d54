/-
  The functions of the program compute what their definitions say. Conditions: none.
-/
import Derived.Test.YtejfajiolkojlaaC0FnGates
set_option linter.unusedVariables false
set_option linter.unusedSimpArgs false
set_option maxRecDepth 100000
namespace Go.Proofs.Ytejfajiolkojlaa
open Go.Ab Go.V
theorem l_big.ok:l_big.con.Ok Try.prog:=fk Try.func6 nok .z
theorem s_l1New.ok:s_l1New.con.Ok Try.prog:=fk Try.func37 nok (.seq .z (.seq .z (.cut ⟨[k0,e4],[]⟩ (.seq .z (.block (.loop ⟨[k0,e4,e10],[]⟩ (.seq (.cut ⟨[k0,k3,k4,(15,vr2)],[]⟩ .z .z) .z)))) .z)))
theorem s_l1Byte.ok:s_l1Byte.con.Ok Try.prog:=fk Try.func92 nok (.seq .z (.seq .z (.cut ⟨[k0,e4],[j1000000]⟩ .z (.cut ⟨[e4],[o1]⟩ .z .z))))
theorem s_l1Below.ok:s_l1Below.con.Ok Try.prog:=fk Try.func66 (s_l1Byte.ok.c nok) .z
theorem s_l1Int.ok:s_l1Int.con.Ok Try.prog:=fk Try.func63 (s_l1Below.ok.c nok) .z
theorem s_l1In.ok:s_l1In.con.Ok Try.prog:=fk Try.func68 nok (.seq .z (.cut sh14 .z .z))
theorem s_NewScheduler.ok:s_NewScheduler.con.Ok Try.prog:=fk Try.func30 (s_l1In.ok.c nok) (.seq .z (.cut ⟨[e2,k2],[j2]⟩ .z .z))
theorem s_l32Share.ok:s_l32Share.con.Ok Try.prog:=fk Try.func74 (s_l1Below.ok.c nok) .z
theorem s_l32Without.ok:s_l32Without.con.Ok Try.prog:=fk Try.func94 nok (.seq .z (.seq .z (.cut sh17 (.seq .z (.block (.loop ⟨[k0,k3,(5,vr6),(6,vr1)],[j3,(7,ow1)]⟩ (.seq .z (.cut ⟨[k0,k3,(5,vr6),k6],[j3,(7,ow1)]⟩ (.block (.cut ⟨[k0,k3,k5,k6,(41,vr2)],[j3,j7]⟩ .z .z)) .z))))) .z)))
theorem s_ValidRevocation.ok:s_ValidRevocation.con.Ok Try.prog:=fk Try.func100 (s_l1In.ok.c nok) (.seq .z (.cut sh11 .z .z))
theorem s_ValidReservation.ok:s_ValidReservation.con.Ok Try.prog:=fk Try.func93 (s_l1In.ok.c (s_ValidRevocation.ok.c nok)) (.seq .z (.cut sh11 .z .z))
theorem s_l32At.ok:s_l32At.con.Ok Try.prog:=fk Try.func88 nok (.seq .z (.cut ⟨[(8,vr2)],[]⟩ .z .z))
theorem s_ReservedRate.ok:s_ReservedRate.con.Ok Try.prog:=fk Try.func90 (s_l32At.ok.c nok) (.seq .z (.seq .z (.cut ⟨[e13],[]⟩ (.seq .z (.block (.loop ⟨[k0,k1,k2,k3,e13,(10,vr1)],[]⟩ (.seq .z (.cut ⟨[k0,k1,k2,k3,e13,k10],[]⟩ .z .z))))) .z)))
theorem s_Admit.ok:s_Admit.con.Ok Try.prog:=fk Try.func73 (s_l32Without.ok.c (s_ValidReservation.ok.c (s_ReservedRate.ok.c nok))) (.seq .z (.seq .z (.seq (.cut ⟨[k0,k5,k10,(41,vr2)],[j5,j1208]⟩ .z .z) .z)))
theorem s_l34Place.ok:s_l34Place.con.Ok Try.prog:=fk Try.func70 nok (.seq .z (.cutR sh3 (.seq .z (.block (.loop ⟨[k0,k1,k2,k3,e13],[]⟩ (.seq .z (.seq (.block (.cut ⟨[k0,k1,k2,k3,k9,(40,vr2)],[]⟩ .z .z)) .z))))) .z))
theorem s_UsedCount.ok:s_UsedCount.con.Ok Try.prog:=fk Try.func34 (s_l34Place.ok.c nok) .z
theorem s_ReservationRate.ok:s_ReservationRate.con.Ok Try.prog:=fk Try.func59 (s_l32At.ok.c nok) (.seq .z (.cutR sh3 (.seq .z (.block (.loop ⟨[k0,k1,k2,k3,k4,(11,vr1)],[]⟩ (.seq .z (.seq (.block (.cut ⟨[k0,k1,k2,k3,k4,k11,(34,vr2)],[]⟩ .z .z)) .z))))) .z))
theorem s_l34Copy.ok:s_l34Copy.con.Ok Try.prog:=fk Try.func62 nok (.seq .z (.cut ⟨[k2],[(2,.box [.var ti,.row 5,.row 9]),(5,ow1),(9,ow2)]⟩ .z .z))
theorem s_l34More.ok:s_l34More.con.Ok Try.prog:=fk Try.func60 (s_l34Copy.ok.c (s_l34Place.ok.c nok)) .z
theorem s_Max.ok:s_Max.con.Ok Try.prog:=fk Try.func89 nok .z
theorem s_FreeRate.ok:s_FreeRate.con.Ok Try.prog:=fk Try.func61 (s_ReservedRate.ok.c (s_Max.ok.c nok)) .z
theorem s_Transmit.ok:s_Transmit.con.Ok Try.prog:=fk Try.func23 (s_UsedCount.ok.c (s_ReservationRate.ok.c (s_l34More.ok.c (s_FreeRate.ok.c (s_l34Copy.ok.c nok))))) (.seq .z (.seq (.cut ⟨[k1,k2,k3,k4,k5,k10,(28,vr2)],[j5,j10]⟩ .z .z) .z))
theorem s_l34Draw.ok:s_l34Draw.con.Ok Try.prog:=fk Try.func38 (s_l1Int.ok.c (s_NewScheduler.ok.c (s_l1Below.ok.c (s_l32Share.ok.c (s_Admit.ok.c (s_Transmit.ok.c nok)))))) (.seq .z (.seq .z (.cut ⟨[k0,k2,k3],[j2,(3,ob3),j1177,o4,o1]⟩ (.seq .z (.block (.loop ⟨[k0,k2,k3,e10],[j2,(3,ob3),j1177,o4,o1]⟩ (.seq .z (.seq (.block (.cut ⟨[k0,k2,k3,k4,(5,.one (.row 1400))],[j2,j3,j1177,(1400,ow1),j300001,o1]⟩ .z .z)) .z))))) (.cut ⟨[k2,k3],[j2,(3,ob2),o4,o5,o1]⟩ (.seq .z (.block (.loop ⟨[k0,k2,k3,e11],[j2,(3,ob2),o4,o5,o1]⟩ (.seq .z (.cut ⟨[k0,k2,k3,k7],[j2,(3,.box [.var ti,.row 1720,.row 1721]),(1720,ow1),(1721,ow2),o1]⟩ .z .z))))) .z))))
theorem s_DrawScheduler.ok:s_DrawScheduler.con.Ok Try.prog:=fk Try.func7 (s_l1New.ok.c (s_l34Draw.ok.c nok)) .z
theorem s_l32Any.ok:s_l32Any.con.Ok Try.prog:=fk Try.func91 (s_l32Share.ok.c (s_l1Below.ok.c (s_l1Int.ok.c nok))) (.seq .z (.seq .z (.cut ⟨[k2,k3],[j2,(3,.box [.var ti,.var ti,.var ti,.var ti,.var ti]),o1]⟩ .z .z)))
theorem s_l34Any.ok:s_l34Any.con.Ok Try.prog:=fk Try.func64 (s_l34Draw.ok.c (s_l1Below.ok.c (s_l1Int.ok.c (s_l32Any.ok.c nok)))) (.seq .z (.seq .z (.cut ⟨[k2,k3],[j2,(3,.box [.var ti,.row 1080,.row 1081]),(1080,ow1),(1081,ow2),o1]⟩ .z .z)))
theorem s_DrawUsedCount.ok:s_DrawUsedCount.con.Ok Try.prog:=fk Try.func58 (s_l1New.ok.c (s_l34Any.ok.c (s_l1Below.ok.c nok))) (.seq .z (.seq .z (.seq .z (.cut ⟨[k2,e4,e10,(5,vr1)],[(2,.box [.var ti,.row 1176,.row 1177]),j1176,j1177]⟩ .z .z))))
theorem s_DrawTransmit.ok:s_DrawTransmit.con.Ok Try.prog:=fk Try.func22 (s_DrawUsedCount.ok.c nok) .z
theorem i_copyReservations.ok:i_copyReservations.con.Ok Try.prog:=fk Try.func75 nok .z
theorem i_copyScheduler.ok:i_copyScheduler.con.Ok Try.prog:=fk Try.func40 (i_copyReservations.ok.c nok) .z
theorem i_usageAt.ok:i_usageAt.con.Ok Try.prog:=fk Try.func42 nok (.seq .z (.cutR sh3 (.seq .z (.block (.loop ⟨[k1,k2,k3,k12,k13,(14,vr1)],[]⟩ (.seq .z (.seq .z (.seq (.block (.seq .z (.cut ⟨[k1,k2,k3,k9,k12,k13,k14,(34,vr2)],[]⟩ .z .z))) .z)))))) .z))
theorem i_UsedCount.ok:i_UsedCount.con.Ok Try.prog:=fk Try.func11 (i_usageAt.ok.c nok) .z
theorem i_Reservation_at.ok:i_Reservation_at.con.Ok Try.prog:=fk Try.func80 nok (.seq .z (.cut sh14 .z .z))
theorem i_ReservedRate.ok:i_ReservedRate.con.Ok Try.prog:=fk Try.func79 (i_Reservation_at.ok.c nok) (.seq .z (.seq .z (.cut ⟨[e13],[]⟩ (.seq .z (.block (.loop ⟨[k1,k2,k3,e13,k12,k13,(14,vr1)],[]⟩ (.seq .z (.seq .z (.cut ⟨[k1,k2,k3,e13,k12,k13,k14],[]⟩ (.block (.seq .z (.cut ⟨[k1,k2,k3,k9,k11,k12,k13,k14,(27,vr2)],[j11]⟩ .z .z))) .z)))))) .z)))
theorem i_Max.ok:i_Max.con.Ok Try.prog:=fk Try.func95 nok .z
theorem i_FreeRate.ok:i_FreeRate.con.Ok Try.prog:=fk Try.func76 (i_ReservedRate.ok.c (i_Max.ok.c nok)) .z
theorem i_ReservationRate.ok:i_ReservationRate.con.Ok Try.prog:=fk Try.func77 (i_Reservation_at.ok.c nok) (.seq .z (.cutR sh3 (.seq .z (.block (.loop ⟨[k1,k2,k3,k4,k13,k14,(15,vr1)],[]⟩ (.seq .z (.seq .z (.seq (.block (.seq .z (.cut ⟨[k1,k2,k3,k4,k12,k13,k14,k15,(34,vr2)],[j12]⟩ .z .z))) .z)))))) .z))
theorem i_rateOf.ok:i_rateOf.con.Ok Try.prog:=fk Try.func41 (i_FreeRate.ok.c (i_ReservationRate.ok.c nok)) .z
theorem i_Transmit.ok:i_Transmit.con.Ok Try.prog:=fk Try.func9 (i_copyScheduler.ok.c (i_UsedCount.ok.c (i_rateOf.ok.c (i_usageAt.ok.c nok)))) (.seq .z (.seq .z (.cutR ⟨[k10,k12],[j10,j12,j1272,j1273]⟩ (.seq .z (.block (.loop ⟨[k2,k3,k4,k5,k10,k12,k19,k20,(21,vr1)],[j5,j10,j12,j19,j1272,j1273]⟩ (.seq .z (.seq .z (.seq (.block (.seq .z (.seq .z (.cut ⟨[k10,k12],[j10,(12,ob4),j1272,(1273,ow2)]⟩ .z .z)))) .z)))))) .z)))
theorem s_DrawNewScheduler.ok:s_DrawNewScheduler.con.Ok Try.prog:=fk Try.func24 (s_l1New.ok.c (s_l1Int.ok.c nok)) .z
theorem s_DrawValidScheduler.ok:s_DrawValidScheduler.con.Ok Try.prog:=fk Try.func25 (s_l1New.ok.c (s_l34Any.ok.c nok)) .z
theorem s_l1Once.ok:s_l1Once.con.Ok Try.prog:=fk Try.func65 (s_l1Below.ok.c nok) .z
theorem s_DrawEqualSchedulers.ok:s_DrawEqualSchedulers.con.Ok Try.prog:=fk Try.func26 (s_l1New.ok.c (s_l34Any.ok.c (s_l1Once.ok.c (s_l34Copy.ok.c nok)))) (.seq .z (.seq .z (.seq .z (.seq .z (.cut ⟨[k2,k3],[(2,ob5),(3,ob4),j1144,j1145,(1272,ow1),(1273,ow2)]⟩ .z .z)))))
theorem s_DrawBeginTick.ok:s_DrawBeginTick.con.Ok Try.prog:=fk Try.func27 (s_l1New.ok.c (s_l34Any.ok.c (s_l1Below.ok.c nok))) (.seq .z (.seq .z (.seq .z (.cut ⟨[k2,e4],[(2,ob5),j1144,j1145]⟩ .z .z))))
theorem l_sameShares.ok:l_sameShares.con.Ok Try.prog:=fk Try.func67 nok (.seq .z (.seq .z (.cutR sh3 (.seq .z (.block (.loop ⟨[k0,k1,(5,vr1)],[]⟩ (.seq .z (.seq (.block (.cut ⟨[k0,k1,k5,(25,vr2)],[]⟩ .z .z)) .z))))) .z)))
theorem l_sameGate.ok:l_sameGate.con.Ok Try.prog:=fk Try.func28 (l_sameShares.ok.c nok) (.seq .z (.seq (.cut sh18 .z .z) (.cutR sh3 (.seq .z (.block (.loop ⟨[k2,k3,(5,vr1)],[j2,j3]⟩ .z))) .z)))
theorem i_IR.ok:i_IR.con.Ok Try.prog:=fk Try.func43 nok (.seq .z (.cut sh14 .z .z))
theorem i_NewScheduler.ok:i_NewScheduler.con.Ok Try.prog:=fk Try.func29 (i_IR.ok.c nok) (.seq .z (.cut ⟨[e2,k2],[j2]⟩ .z .z))
theorem i_ValidRevocation.ok:i_ValidRevocation.con.Ok Try.prog:=fk Try.func96 (i_IR.ok.c nok) (.seq .z (.cut sh11 .z .z))
theorem i_ValidReservation.ok:i_ValidReservation.con.Ok Try.prog:=fk Try.func78 (i_IR.ok.c (i_ValidRevocation.ok.c nok)) (.seq .z (.cut sh11 .z .z))
theorem i_ValidReservations.ok:i_ValidReservations.con.Ok Try.prog:=fk Try.func44 (i_ValidReservation.ok.c (i_ReservedRate.ok.c (i_Reservation_at.ok.c nok))) (.seq .z (.seq .z (.cutR sh3 (.seq .z (.block (.loop ⟨[k0,k1,k2,k14,k15,(16,vr1)],[]⟩ (.seq .z (.seq .z (.cutR ⟨[k0,k1,k2,k14,k15,k16],[]⟩ (.block (.seq .z (.seq (.cut ⟨[k0,k1,k2,k7,k8,k14,k15,k16,(34,vr2)],[j8]⟩ .z .z) (.seq .z (.block (.loop ⟨[k0,k1,k2,k8,k14,k15,k16,k37,k38,(39,vr1)],[j8]⟩ (.seq .z (.seq .z (.seq (.block (.seq .z (.cut ⟨[k0,k1,k2,k8,k14,k15,k16,k37,k38,k39,(55,vr2)],[j8]⟩ .z .z))) .z))))))))) .z)))))) .z)))
theorem i_ValidScheduler.ok:i_ValidScheduler.con.Ok Try.prog:=fk Try.func12 (i_IR.ok.c (i_ValidReservations.ok.c (i_usageAt.ok.c (i_rateOf.ok.c nok)))) (.seq .z (.seq (.cut ⟨[k1,k2,(19,vr2)],[j2]⟩ .z .z) (.cutR sh3 (.seq .z (.block (.loop ⟨[k1,k2,k21,k22,(23,vr1)],[j2]⟩ (.seq .z (.seq .z (.seq (.block (.seq .z (.cut ⟨[k1,k2,k21,k22,k23,(52,vr2)],[j2]⟩ .z .z))) .z)))))) .z)))
theorem s_ValidReservations.ok:s_ValidReservations.con.Ok Try.prog:=fk Try.func69 (s_ValidReservation.ok.c (s_l32Without.ok.c (s_ReservedRate.ok.c nok))) (.seq .z (.cutR ⟨[k0],[]⟩ (.seq .z (.block (.loop ⟨[k0,k1,k2,e11],[]⟩ (.seq .z (.seq (.block (.cut ⟨[k0,k1,k2,k7,(49,vr2)],[]⟩ .z .z)) .z))))) .z))
theorem s_ValidScheduler.ok:s_ValidScheduler.con.Ok Try.prog:=fk Try.func31 (s_l1In.ok.c (s_ValidReservations.ok.c (s_ReservationRate.ok.c (s_FreeRate.ok.c (s_l34Place.ok.c nok))))) (.seq .z (.seq (.cut ⟨[k1,k2,(20,vr2)],[j2]⟩ .z .z) (.cutR sh3 (.seq .z (.block (.loop ⟨[k1,k2,(5,vr1)],[j2]⟩ (.seq .z (.seq (.block (.seq .z (.seq .z (.cut ⟨[k1,k2,k5,k6,e11],[j2,j6]⟩ .z (.cut ⟨[k1,k2,k5,(73,vr2)],[j2]⟩ .z .z))))) .z))))) .z)))
theorem i_EqualReservations.ok:i_EqualReservations.con.Ok Try.prog:=fk Try.func71 nok (.seq .z (.seq .z (.cutR sh3 (.seq .z (.block (.loop ⟨[k0,k1,k12,(13,vr1)],[]⟩ (.seq .z (.seq .z (.seq (.block (.seq .z (.cut ⟨[k0,k1,k12,k13,(24,vr2)],[]⟩ .z .z))) .z)))))) .z)))
theorem i_EqualSchedulers.ok:i_EqualSchedulers.con.Ok Try.prog:=fk Try.func32 (i_EqualReservations.ok.c nok) (.seq .z (.seq (.cut sh18 .z .z) (.cutR sh3 (.seq .z (.block (.loop ⟨[k2,k3,k30,(31,vr1)],[j2,j3]⟩ .z))) .z)))
theorem i_ActiveReservations.ok:i_ActiveReservations.con.Ok Try.prog:=fk Try.func39 nok (.seq .z (.seq .z (.cut ⟨[(5,vr8)],[o4]⟩ (.seq .z (.block (.loop ⟨[k1,(5,vr8),k8,k9,(10,vr1)],[o4]⟩ (.seq .z (.seq .z (.cut ⟨[k1,(5,vr8),k8,k9,k10],[o4]⟩ .z .z)))))) .z)))
theorem i_BeginTick.ok:i_BeginTick.con.Ok Try.prog:=fk Try.func8 (i_ActiveReservations.ok.c nok) .z
theorem s_ActiveReservations.ok:s_ActiveReservations.con.Ok Try.prog:=fk Try.func72 nok (.seq .z (.seq .z (.cut sh17 (.seq .z (.block (.loop ⟨[k0,k1,(5,vr6),(6,vr1)],[(7,ow1)]⟩ (.seq .z (.cut ⟨[k0,k1,(5,vr6),k6],[(7,ow1)]⟩ .z .z))))) .z)))
theorem s_BeginTick.ok:s_BeginTick.con.Ok Try.prog:=fk Try.func33 (s_ActiveReservations.ok.c nok) .z
theorem i_SentCount.ok:i_SentCount.con.Ok Try.prog:=fk Try.func35 nok (.seq .z (.seq .z (.cut ⟨[e11],[]⟩ (.seq .z (.block (.loop ⟨[k1,k2,e11,k11,k12,(13,vr1)],[]⟩ (.seq .z (.seq .z (.cut ⟨[k1,k2,e11,k11,k12,k13],[]⟩ (.block (.seq .z (.cut ⟨[k1,k2,k7,k9,k11,k12,k13,(26,vr2)],[j9]⟩ .z .z))) .z)))))) .z)))
theorem s_SentCount.ok:s_SentCount.con.Ok Try.prog:=fk Try.func36 nok (.seq .z (.seq .z (.cut ⟨[e11],[]⟩ (.seq .z (.block (.loop ⟨[k1,k2,k3,e11,(8,vr1)],[j3]⟩ (.seq .z (.cut ⟨[k1,k2,k3,e11,k8],[j3]⟩ (.block (.cut ⟨[k1,k2,k3,k7,k8,(33,vr2)],[j3]⟩ .z .z)) .z))))) .z)))
theorem l_at.ok:l_at.con.Ok Try.prog:=fk Try.func10 nok .z
theorem l_FnGates.ok:l_FnGates.con.Ok Try.prog:=fk Try.func5 (l_big.ok.c (s_DrawScheduler.ok.c (s_DrawTransmit.ok.c (i_Transmit.ok.c (s_Transmit.ok.c (s_DrawNewScheduler.ok.c (s_DrawValidScheduler.ok.c (s_DrawEqualSchedulers.ok.c (s_DrawBeginTick.ok.c (l_sameGate.ok.c (i_NewScheduler.ok.c (s_NewScheduler.ok.c (i_ValidScheduler.ok.c (s_ValidScheduler.ok.c (i_EqualSchedulers.ok.c (i_BeginTick.ok.c (s_BeginTick.ok.c (i_UsedCount.ok.c (s_UsedCount.ok.c (i_SentCount.ok.c (s_SentCount.ok.c (l_at.ok.c nok)))))))))))))))))))))) (.seq .z (.seq .z (.seq .z (.seq .z (.seq .z (.seq .z (.seq .z (.seq .z (.seq .z (.seq .z (.seq (.cut ⟨[k0,k3,(139,vr2)],[j3,j1432,j1433]⟩ .z .z) (.seq .z (.cutR ⟨[k3],[(3,ob2),o4,o5]⟩ (.seq .z (.block (.loop ⟨[k0,k3,(20,vr1)],[(3,ob2),o4,o5]⟩ (.seq .z (.cutR ⟨[k0,k3,k20],[(3,ob6),(3624,ow1),(3625,ow2)]⟩ (.block (.cut ⟨[k0,k3,k20,(21,.one (.ptr 21 0))],[j3,(21,ob6),(3624,ow1),(3625,ow2),j300001,j300002]⟩ .z (.seq .z (.seq .z (.block (.loop ⟨[k0,k3,k20,(23,vr1)],[j3,j3624,j3625]⟩ (.seq .z (.seq (.block (.cut ⟨[k0,k3,k20,k23,(185,vr2)],[j3,j3624,j3625]⟩ .z .z)) .z)))))))) .z))))) .z)))))))))))))
end Go.Proofs.Ytejfajiolkojlaa
