/-
  Contracts of the functions of the program. Conditions: none.
-/
import Derived.Test.YtejfajiolkojlaaT0FnGates
import Derived.Test.YtejfajiolkojlaaProg
import Derived.KernelRfl
set_option linter.unusedVariables false
set_option linter.unusedSimpArgs false
set_option maxRecDepth 100000
namespace Go.Proofs.Ytejfajiolkojlaa
open Go.Ab Go.V
noncomputable section
theorem follows:Try.prog.follows .mixedOrders=true:=by kernel_rfl
theorem _root_.Go.V.Con.Ok.c {P:Program} {c:Con} {E:List Con} (h:c.Ok P) (k:AllOk P E):AllOk P (c::E):=⟨h,k⟩
theorem fk {E:List Con} {c:Con} {fn:Func} (hf:Try.prog.funcs[c.f]? =some fn) (k:AllOk Try.prog E) (pl:Plan) (e: ∀ x,evFn Try.prog E fn pl c.pre c.post x=c.sem x:=by intro x;kernel_rfl) (hn:(fn.name=="runtime.NumGoroutine")=false:=by rfl):c.Ok Try.prog:=fn_ok hf hn follows (AllOk.mem k) fun x y h=>(e x).trans h
theorem nok:AllOk Try.prog []:=trivial
def ow1:OT:= .row 34 5 tRs true
def ow2:OT:= .row 73 4 tUs true
def ob1:OT:= .box [.var (.sl tb),.var ti,.var ti]
def ob2:OT:= .box [.var ti,.row 300001,.row 300002]
def ob3:OT:= .box [.var ti,.row 300001,.row 1177]
def ob4:OT:= .box [.var ti,.row 1272,.row 1273]
def ob5:OT:= .box [.var ti,.row 1144,.row 1145]
def ob6:OT:= .box [.var ti,.row 3624,.row 3625]
def ag1:ST:= .agg [.var ti,.var (.sl tRs),.var (.sl tUs)]
def ag2:ST:= .agg [.var ti,.row 0,.row 1]
def ag3:ST:= .agg [.var ti,.var ti,.var ti,.var ti,.var ti]
def ag4:ST:= .agg [.var ti,.var ti,.var ti]
def vr1:ST:= .one (.var ti)
def vr2:ST:= .one (.var .bool)
def vr3:ST:= .one (.var (.sl tRs))
def vr4:ST:= .one (.var (.sl tb))
def vr5:ST:= .one (.ptr 1000000 0)
def vr6:ST:= .one (.row 7)
def vr7:ST:= .one (.row 0)
def vr8:ST:= .one (.row 300001)
def e1:Nat×ST:=(1,vr1)
def e2:Nat×ST:=(0,vr1)
def e3:Nat×ST:=(2,vr1)
def e4:Nat×ST:=(3,vr1)
def e5:Nat×ST:=(0,vr2)
def e6:Nat×ST:=(0,ag2)
def e7:Nat×ST:=(0,ag1)
def e8:Nat×ST:=(0,vr3)
def e9:Nat×ST:=(0,vr4)
def e10:Nat×ST:=(4,vr1)
def e11:Nat×ST:=(7,vr1)
def e12:Nat×ST:=(0,vr5)
def e13:Nat×ST:=(9,vr1)
def o1:Nat×OT:=(1000000,ob1)
def o2:Nat×OT:=(0,ow1)
def o3:Nat×OT:=(1,ow2)
def o4:Nat×OT:=(300001,ow1)
def o5:Nat×OT:=(300002,ow2)
def k0:Nat×ST:=(0,.keep)
def k1:Nat×ST:=(1,.keep)
def k2:Nat×ST:=(2,.keep)
def k3:Nat×ST:=(3,.keep)
def k4:Nat×ST:=(4,.keep)
def k5:Nat×ST:=(5,.keep)
def k6:Nat×ST:=(6,.keep)
def k7:Nat×ST:=(7,.keep)
def k8:Nat×ST:=(8,.keep)
def k9:Nat×ST:=(9,.keep)
def k10:Nat×ST:=(10,.keep)
def k11:Nat×ST:=(11,.keep)
def k12:Nat×ST:=(12,.keep)
def k13:Nat×ST:=(13,.keep)
def k14:Nat×ST:=(14,.keep)
def k15:Nat×ST:=(15,.keep)
def k16:Nat×ST:=(16,.keep)
def k19:Nat×ST:=(19,.keep)
def k20:Nat×ST:=(20,.keep)
def k21:Nat×ST:=(21,.keep)
def k22:Nat×ST:=(22,.keep)
def k23:Nat×ST:=(23,.keep)
def k30:Nat×ST:=(30,.keep)
def k37:Nat×ST:=(37,.keep)
def k38:Nat×ST:=(38,.keep)
def k39:Nat×ST:=(39,.keep)
def j2:Nat×OT:=(2,.keep)
def j3:Nat×OT:=(3,.keep)
def j5:Nat×OT:=(5,.keep)
def j6:Nat×OT:=(6,.keep)
def j7:Nat×OT:=(7,.keep)
def j8:Nat×OT:=(8,.keep)
def j9:Nat×OT:=(9,.keep)
def j10:Nat×OT:=(10,.keep)
def j11:Nat×OT:=(11,.keep)
def j12:Nat×OT:=(12,.keep)
def j19:Nat×OT:=(19,.keep)
def j1144:Nat×OT:=(1144,.keep)
def j1145:Nat×OT:=(1145,.keep)
def j1176:Nat×OT:=(1176,.keep)
def j1177:Nat×OT:=(1177,.keep)
def j1208:Nat×OT:=(1208,.keep)
def j1272:Nat×OT:=(1272,.keep)
def j1273:Nat×OT:=(1273,.keep)
def j1432:Nat×OT:=(1432,.keep)
def j1433:Nat×OT:=(1433,.keep)
def j3624:Nat×OT:=(3624,.keep)
def j3625:Nat×OT:=(3625,.keep)
def j300001:Nat×OT:=(300001,.keep)
def j300002:Nat×OT:=(300002,.keep)
def j1000000:Nat×OT:=(1000000,.keep)
def sh1:Sh:=⟨[e2],[]⟩
def sh2:Sh:=⟨[e5],[]⟩
def sh3:Sh:=⟨[],[]⟩
def sh4:Sh:=⟨[e9],[]⟩
def sh5:Sh:=⟨[e6],[o2,o3]⟩
def sh6:Sh:=⟨[e12],[o1]⟩
def sh7:Sh:=⟨[(0,vr7)],[o2]⟩
def sh8:Sh:=⟨[e7,e1,e3,e4],[]⟩
def sh9:Sh:=⟨[e8,e1,e3,e4,e10],[]⟩
def sh10:Sh:=⟨[e7,e1],[]⟩
def sh11:Sh:=⟨[(2,vr2)],[]⟩
def sh12:Sh:=⟨[e2],[o1]⟩
def sh13:Sh:=⟨[e7,e1,e3,e4,e10],[]⟩
def sh14:Sh:=⟨[(6,vr2)],[]⟩
def sh15:Sh:=⟨[e8,e1,e3,e4],[]⟩
def sh16:Sh:=⟨[e6,(1,vr2)],[o2,o3]⟩
def sh17:Sh:=⟨[(5,vr6)],[(7,ow1)]⟩
def sh18:Sh:=⟨[k2,k3,(27,vr2)],[j2,j3]⟩
def l_big.con:Con:=⟨6,sh4,sh2,false,fun x=>l_big x⟩
def s_l1New.con:Con:=⟨37,sh4,⟨[(0,.one (.ptr 0 0))],[(0,ob1)]⟩,false,fun x=>s_l1New x⟩
def s_l1Byte.con:Con:=⟨92,sh6,sh12,false,fun x=>s_l1Byte (x.1,x.2.1,x.2.2)⟩
def s_l1Below.con:Con:=⟨66,⟨[e12,e1],[o1]⟩,sh12,false,fun x=>s_l1Below (x.2.1,x.2.2.1,x.2.2.2) x.1⟩
def s_l1Int.con:Con:=⟨63,⟨[e12,(1,.one (.var (.sl ti)))],[o1]⟩,sh12,false,fun x=>s_l1Int (x.2.1,x.2.2.1,x.2.2.2) x.1⟩
def s_l1In.con:Con:=⟨68,⟨[e2,e1,e3],[]⟩,sh2,false,fun x=>s_l1In x.1 x.2.1 x.2.2⟩
def s_NewScheduler.con:Con:=⟨30,sh1,sh5,false,fun x=>s_NewScheduler x⟩
def s_l32Share.con:Con:=⟨74,sh6,⟨[(0,ag3)],[o1]⟩,false,fun x=>s_l32Share (x.1,x.2.1,x.2.2)⟩
def s_l32Without.con:Con:=⟨94,⟨[e8,(1,ag3)],[]⟩,sh7,false,fun x=>s_l32Without x.1 (x.2.1,x.2.2.1,x.2.2.2.1,x.2.2.2.2.1,x.2.2.2.2.2)⟩
def s_ValidRevocation.con:Con:=⟨100,⟨[(0,ag4)],[]⟩,sh2,false,fun x=>s_ValidRevocation (x.1,x.2.1,x.2.2)⟩
def s_ValidReservation.con:Con:=⟨93,⟨[(0,ag3)],[]⟩,sh2,false,fun x=>s_ValidReservation (x.1,x.2.1,x.2.2.1,x.2.2.2.1,x.2.2.2.2)⟩
def s_l32At.con:Con:=⟨88,⟨[(0,ag3),e1,e3,e4],[]⟩,sh2,false,fun x=>s_l32At (x.1,x.2.1,x.2.2.1,x.2.2.2.1,x.2.2.2.2.1) x.2.2.2.2.2.1 x.2.2.2.2.2.2.1 x.2.2.2.2.2.2.2⟩
def s_ReservedRate.con:Con:=⟨90,sh15,sh1,false,fun x=>s_ReservedRate x.1 x.2.1 x.2.2.1 x.2.2.2⟩
def s_Admit.con:Con:=⟨73,⟨[e8,(1,ag3),e3,e4],[]⟩,⟨[(0,vr7),(1,vr2)],[o2]⟩,false,fun x=>s_Admit x.1 (x.2.1,x.2.2.1,x.2.2.2.1,x.2.2.2.2.1,x.2.2.2.2.2.1) x.2.2.2.2.2.2.1 x.2.2.2.2.2.2.2⟩
def s_l34Place.con:Con:=⟨70,⟨[(0,.one (.var (.sl tUs))),e1,e3,e4],[]⟩,sh1,false,fun x=>s_l34Place x.1 x.2.1 x.2.2.1 x.2.2.2⟩
def s_UsedCount.con:Con:=⟨34,sh8,sh1,false,fun x=>s_UsedCount (x.1,x.2.1,x.2.2.1) x.2.2.2.1 x.2.2.2.2.1 x.2.2.2.2.2⟩
def s_ReservationRate.con:Con:=⟨59,sh9,sh1,false,fun x=>s_ReservationRate x.1 x.2.1 x.2.2.1 x.2.2.2.1 x.2.2.2.2⟩
def s_l34Copy.con:Con:=⟨62,⟨[e7],[]⟩,sh5,false,fun x=>s_l34Copy (x.1,x.2.1,x.2.2)⟩
def s_l34More.con:Con:=⟨60,sh8,sh5,false,fun x=>s_l34More (x.1,x.2.1,x.2.2.1) x.2.2.2.1 x.2.2.2.2.1 x.2.2.2.2.2⟩
def s_Max.con:Con:=⟨89,⟨[e2,e1],[]⟩,sh1,false,fun x=>s_Max x.1 x.2⟩
def s_FreeRate.con:Con:=⟨61,sh9,sh1,false,fun x=>s_FreeRate x.1 x.2.1 x.2.2.1 x.2.2.2.1 x.2.2.2.2⟩
def s_Transmit.con:Con:=⟨23,sh13,sh16,false,fun x=>s_Transmit (x.1,x.2.1,x.2.2.1) x.2.2.2.1 x.2.2.2.2.1 x.2.2.2.2.2.1 x.2.2.2.2.2.2⟩
def s_l34Draw.con:Con:=⟨38,sh6,⟨[e6],[o2,o3,o1]⟩,false,fun x=>s_l34Draw (x.1,x.2.1,x.2.2)⟩
def s_DrawScheduler.con:Con:=⟨7,sh4,sh5,false,fun x=>s_DrawScheduler x⟩
def s_l32Any.con:Con:=⟨91,sh6,⟨[(0,ag3)],[o1]⟩,false,fun x=>s_l32Any (x.1,x.2.1,x.2.2)⟩
def s_l34Any.con:Con:=⟨64,sh6,⟨[e6],[o2,o3,o1]⟩,false,fun x=>s_l34Any (x.1,x.2.1,x.2.2)⟩
def s_DrawUsedCount.con:Con:=⟨58,sh4,⟨[e6,e1,e3,e4],[o2,o3]⟩,false,fun x=>s_DrawUsedCount x⟩
def s_DrawTransmit.con:Con:=⟨22,sh4,⟨[e6,e1,e3,e4,e10],[o2,o3]⟩,false,fun x=>s_DrawTransmit x⟩
def i_copyReservations.con:Con:=⟨75,⟨[e8],[]⟩,sh7,false,fun x=>i_copyReservations x⟩
def i_copyScheduler.con:Con:=⟨40,⟨[e7],[]⟩,sh5,false,fun x=>i_copyScheduler (x.1,x.2.1,x.2.2)⟩
def i_usageAt.con:Con:=⟨42,sh8,sh1,false,fun x=>i_usageAt (x.1,x.2.1,x.2.2.1) x.2.2.2.1 x.2.2.2.2.1 x.2.2.2.2.2⟩
def i_UsedCount.con:Con:=⟨11,sh8,sh1,false,fun x=>i_UsedCount (x.1,x.2.1,x.2.2.1) x.2.2.2.1 x.2.2.2.2.1 x.2.2.2.2.2⟩
def i_Reservation_at.con:Con:=⟨80,⟨[(0,ag3),e1,e3],[]⟩,sh2,false,fun x=>i_Reservation_at (x.1,x.2.1,x.2.2.1,x.2.2.2.1,x.2.2.2.2.1) x.2.2.2.2.2.1 x.2.2.2.2.2.2⟩
def i_ReservedRate.con:Con:=⟨79,sh15,sh1,false,fun x=>i_ReservedRate x.1 x.2.1 x.2.2.1 x.2.2.2⟩
def i_Max.con:Con:=⟨95,⟨[e2,e1],[]⟩,sh1,false,fun x=>i_Max x.1 x.2⟩
def i_FreeRate.con:Con:=⟨76,sh9,sh1,false,fun x=>i_FreeRate x.1 x.2.1 x.2.2.1 x.2.2.2.1 x.2.2.2.2⟩
def i_ReservationRate.con:Con:=⟨77,sh9,sh1,false,fun x=>i_ReservationRate x.1 x.2.1 x.2.2.1 x.2.2.2.1 x.2.2.2.2⟩
def i_rateOf.con:Con:=⟨41,sh13,sh1,false,fun x=>i_rateOf (x.1,x.2.1,x.2.2.1) x.2.2.2.1 x.2.2.2.2.1 x.2.2.2.2.2.1 x.2.2.2.2.2.2⟩
def i_Transmit.con:Con:=⟨9,sh13,sh16,false,fun x=>i_Transmit (x.1,x.2.1,x.2.2.1) x.2.2.2.1 x.2.2.2.2.1 x.2.2.2.2.2.1 x.2.2.2.2.2.2⟩
def s_DrawNewScheduler.con:Con:=⟨24,sh4,sh1,false,fun x=>s_DrawNewScheduler x⟩
def s_DrawValidScheduler.con:Con:=⟨25,sh4,⟨[e6,e1],[o2,o3]⟩,false,fun x=>s_DrawValidScheduler x⟩
def s_l1Once.con:Con:=⟨65,⟨[e12,e1],[o1]⟩,⟨[e5],[o1]⟩,false,fun x=>s_l1Once (x.2.1,x.2.2.1,x.2.2.2) x.1⟩
def s_DrawEqualSchedulers.con:Con:=⟨26,sh4,⟨[e6,(1,.agg [.var ti,.row 2,.row 3])],[o2,o3,(2,ow1),(3,ow2)]⟩,false,fun x=>s_DrawEqualSchedulers x⟩
def s_DrawBeginTick.con:Con:=⟨27,sh4,⟨[e6,e1],[o2,o3]⟩,false,fun x=>s_DrawBeginTick x⟩
def l_sameShares.con:Con:=⟨67,⟨[e8,(1,vr3)],[]⟩,sh2,false,fun x=>l_sameShares x.1 x.2⟩
def l_sameGate.con:Con:=⟨28,⟨[e7,(1,ag1)],[]⟩,sh2,false,fun x=>l_sameGate (x.1,x.2.1,x.2.2.1) (x.2.2.2.1,x.2.2.2.2.1,x.2.2.2.2.2)⟩
def i_IR.con:Con:=⟨43,⟨[e2,e1,e3],[]⟩,sh2,false,fun x=>i_IR x.1 x.2.1 x.2.2⟩
def i_NewScheduler.con:Con:=⟨29,sh1,sh5,false,fun x=>i_NewScheduler x⟩
def i_ValidRevocation.con:Con:=⟨96,⟨[(0,ag4)],[]⟩,sh2,false,fun x=>i_ValidRevocation (x.1,x.2.1,x.2.2)⟩
def i_ValidReservation.con:Con:=⟨78,⟨[(0,ag3)],[]⟩,sh2,false,fun x=>i_ValidReservation (x.1,x.2.1,x.2.2.1,x.2.2.2.1,x.2.2.2.2)⟩
def i_ValidReservations.con:Con:=⟨44,⟨[e8,e1,e3],[]⟩,sh2,false,fun x=>i_ValidReservations x.1 x.2.1 x.2.2⟩
def i_ValidScheduler.con:Con:=⟨12,sh10,sh2,false,fun x=>i_ValidScheduler (x.1,x.2.1,x.2.2.1) x.2.2.2⟩
def s_ValidReservations.con:Con:=⟨69,⟨[e8,e1,e3],[]⟩,sh2,false,fun x=>s_ValidReservations x.1 x.2.1 x.2.2⟩
def s_ValidScheduler.con:Con:=⟨31,sh10,sh2,false,fun x=>s_ValidScheduler (x.1,x.2.1,x.2.2.1) x.2.2.2⟩
def i_EqualReservations.con:Con:=⟨71,⟨[e8,(1,vr3)],[]⟩,sh2,false,fun x=>i_EqualReservations x.1 x.2⟩
def i_EqualSchedulers.con:Con:=⟨32,⟨[e7,(1,ag1)],[]⟩,sh2,false,fun x=>i_EqualSchedulers (x.1,x.2.1,x.2.2.1) (x.2.2.2.1,x.2.2.2.2.1,x.2.2.2.2.2)⟩
def i_ActiveReservations.con:Con:=⟨39,⟨[e8,e1],[]⟩,sh7,false,fun x=>i_ActiveReservations x.1 x.2⟩
def i_BeginTick.con:Con:=⟨8,sh10,sh5,false,fun x=>i_BeginTick (x.1,x.2.1,x.2.2.1) x.2.2.2⟩
def s_ActiveReservations.con:Con:=⟨72,⟨[e8,e1],[]⟩,sh7,false,fun x=>s_ActiveReservations x.1 x.2⟩
def s_BeginTick.con:Con:=⟨33,sh10,sh5,false,fun x=>s_BeginTick (x.1,x.2.1,x.2.2.1) x.2.2.2⟩
def i_SentCount.con:Con:=⟨35,⟨[e7,e1,e3],[]⟩,sh1,false,fun x=>i_SentCount (x.1,x.2.1,x.2.2.1) x.2.2.2.1 x.2.2.2.2⟩
def s_SentCount.con:Con:=⟨36,⟨[e7,e1,e3],[]⟩,sh1,false,fun x=>s_SentCount (x.1,x.2.1,x.2.2.1) x.2.2.2.1 x.2.2.2.2⟩
def l_at.con:Con:=⟨10,⟨[e9,e1],[]⟩,sh1,false,fun x=>l_at x.1 x.2⟩
def l_FnGates.con:Con:=⟨5,sh4,sh2,false,fun x=>l_FnGates x⟩
end

end Go.Proofs.Ytejfajiolkojlaa
