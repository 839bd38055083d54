/-
  Contracts of the functions of the program. Conditions: none.
-/
import Derived.Test.YtkdbhilbpbppiaaGreatT0FnInboxes
import Derived.Test.YtkdbhilbpbppiaaGreatProg
import Derived.KernelRfl
set_option linter.unusedVariables false
set_option linter.unusedSimpArgs false
set_option maxRecDepth 100000
namespace Go.Proofs.YtkdbhilbpbppiaaGreat
open Go.Ab Go.V
noncomputable section
theorem follows:Tryz.prog.follows .mixedOrders=true:=by kernel_rfl
theorem _root_.Go.V.Con.Ok.c {P:Program} {c:Con} {E:List Con} (h:c.Ok P) (k:AllOk P E):AllOk P (c::E):=⟨h,k⟩
theorem fk {E:List Con} {c:Con} {fn:Func} (hf:Tryz.prog.funcs[c.f]? =some fn) (k:AllOk Tryz.prog E) (pl:Plan) (e: ∀ x,evFn Tryz.prog E fn pl c.pre c.post x=c.sem x:=by intro x;kernel_rfl) (hn:(fn.name=="runtime.NumGoroutine")=false:=by rfl):c.Ok Tryz.prog:=fn_ok hf hn follows (AllOk.mem k) fun x y h=>(e x).trans h
theorem nok:AllOk Tryz.prog []:=trivial
def ow1:OT:= .row 32 1 tPt true
def ow2:OT:= .row 112 4 tPp true
def ow3:OT:= .row 95 1 tMs true
def ow4:OT:= .row 3 1 ti true
def ow5:OT:= .row 161 3 tSg true
def ow6:OT:= .row 179 5 tHop true
def ow7:OT:= .row 5 1 tb true
def ow8:OT:= .row 60 3 tRv true
def ow9:OT:= .row 174 3 tAS true
def ow10:OT:= .row 153 3 tStep true
def ow11:OT:= .row 188 5 tLk true
def ow12:OT:= .row 32 1 tPt false
def ow13:OT:= .row 95 1 tMs false
def ob1:OT:= .box [.var (.sl tb),.var ti,.var ti]
def ob2:OT:= .box [.row 300001]
def ob3:OT:= .box [.row 300001,.row 300003]
def ob4:OT:= .box [.var (.sl tAS),.var (.sl tLk)]
def ob5:OT:= .box [.var ti,.var ti,.var ti,.row 1272]
def ob6:OT:= .box [.var ti,.var ti,.var ti,.row 300001]
def ob7:OT:= .box [.var ti,.var ti,.row 300003]
def ob8:OT:= .box [.row 300005]
def ob9:OT:= .box [.var ti,.var ti,.var ti,.row 1256]
def ob10:OT:= .box [.row 300001,.nil]
def ob11:OT:= .box [.var ti,.var ti,.row 300004]
def ob12:OT:= .box [.row 300001,.row 300002]
def ob13:OT:= .box [.var ti,.var ti,.var ti,.var ti,.row 300004,.var (.sl tPt),.var ti,.var ti,.row 300005]
def ob14:OT:= .box [.var ti,.var ti,.row 300001]
def ob15:OT:= .box [.var ti,.var ti,.var ti,.nil]
def ob16:OT:= .box [.var ti,.var ti,.var ti]
def ob17:OT:= .box [.var ti,.var ti,.var ti,.row 1160,.var ti,.var ti,.var ti,.var ti,.var ti,.row 1161]
def ob18:OT:= .box [.var ti,.var ti,.var ti,.row 1128]
def ob19:OT:= .box [.var ti,.var ti,.var ti,.row 1112]
def ob20:OT:= .box [.row 1160,.row 1208]
def ob21:OT:= .box [.var ti,.var ti,.var ti,.var ti,.row 300001,.row 300002,.var ti,.var ti,.row 300003]
def ag1:ST:= .agg [.var ti,.var ti,.var (.sl tHop)]
def ag2:ST:= .agg [.var (.sl tPp)]
def ag3:ST:= .agg [.var (.sl tAS),.var (.sl tLk)]
def ag4:ST:= .agg [.var ti,.var ti,.var ti,.var (.sl tHop)]
def ag5:ST:= .agg [.var ti,.var ti,.var ti,.var (.sl tMs)]
def ag6:ST:= .agg [.var ti,.var ti,.var ti,.row 0]
def ag7:ST:= .agg [.var ti,.var ti,.var ti,.var (.sl tPp),.var ti,.var ti,.var ti,.var ti,.var ti,.var (.sl tb)]
def ag8:ST:= .agg [.var (.sl tSg),.var (.sl tSg)]
def ag9:ST:= .agg [.var ti,.var ti,.var ti,.var ti,.var (.sl tMs),.var (.sl tPt),.var ti,.var ti,.var (.sl tRv)]
def ag10:ST:= .agg [.var ti,.var ti,.var ti,.var ti,.var ti]
def ag11:ST:= .agg [.row 0]
def ag12:ST:= .agg [.var ti,.var ti,.var ti,.row 0,.var ti,.var ti,.var ti,.var ti,.var ti,.row 1]
def ag13:ST:= .agg [.var ti,.var ti,.var ti,.var ti,.row 0,.row 1,.var ti,.var ti,.row 2]
def ag14:ST:= .agg [.var ti,.var ti,.var ti]
def ag15:ST:= .agg [.row 0,.row 1]
def ag16:ST:= .agg [.var ti,.var ti,.var ti,.row 1,.var ti,.var ti,.var ti,.var ti,.var ti,.row 2]
def ag17:ST:= .agg [.var ti,.var ti,.var ti,.var ti,.row 0,.var (.sl tPt),.var ti,.var ti,.row 1]
def ag18:ST:= .agg [.var ti,.var ti,.row 0]
def ag19:ST:= .agg [.var ti,.var ti,.var ti,.row 1]
def vr1:ST:= .one (.var ti)
def vr2:ST:= .one (.var .bool)
def vr3:ST:= .one (.row 0)
def vr4:ST:= .one (.var (.sl tb))
def vr5:ST:= .one (.ptr 1000000 0)
def vr6:ST:= .one (.row 300001)
def vr7:ST:= .one (.row 10)
def vr8:ST:= .one (.row 7)
def vr9:ST:= .one (.var (.sl tRv))
def vr10:ST:= .one (.row 1624)
def vr11:ST:= .one (.row 15)
def vr12:ST:= .one (.var (.sl ti))
def vr13:ST:= .one (.row 6)
def vr14:ST:= .one (.var (.sl tPt))
def vr15:ST:= .one (.var (.sl tMs))
def vr16:ST:= .one (.var (.sl tHop))
def vr17:ST:= .one (.row 5)
def vr18:ST:= .one (.row 127)
def vr19:ST:= .one (.var (.sl tSg))
def e1:Nat×ST:=(0,vr1)
def e2:Nat×ST:=(0,vr2)
def e3:Nat×ST:=(1,vr1)
def e4:Nat×ST:=(5,vr1)
def e5:Nat×ST:=(2,vr1)
def e6:Nat×ST:=(0,vr3)
def e7:Nat×ST:=(0,ag3)
def e8:Nat×ST:=(4,vr2)
def e9:Nat×ST:=(3,vr1)
def e10:Nat×ST:=(4,vr1)
def e11:Nat×ST:=(0,vr5)
def e12:Nat×ST:=(6,vr1)
def e13:Nat×ST:=(0,ag2)
def e14:Nat×ST:=(0,ag6)
def e15:Nat×ST:=(0,vr4)
def e16:Nat×ST:=(0,ag1)
def e17:Nat×ST:=(0,ag4)
def e18:Nat×ST:=(9,vr10)
def e19:Nat×ST:=(0,ag5)
def e20:Nat×ST:=(1,ag1)
def e21:Nat×ST:=(1,ag2)
def e22:Nat×ST:=(3,vr6)
def e23:Nat×ST:=(8,vr1)
def e24:Nat×ST:=(5,vr8)
def e25:Nat×ST:=(0,ag9)
def e26:Nat×ST:=(2,vr2)
def e27:Nat×ST:=(7,vr1)
def e28:Nat×ST:=(7,vr7)
def e29:Nat×ST:=(3,vr13)
def e30:Nat×ST:=(0,ag11)
def e31:Nat×ST:=(0,ag12)
def e32:Nat×ST:=(1,ag7)
def e33:Nat×ST:=(13,vr1)
def e34:Nat×ST:=(3,vr17)
def e35:Nat×ST:=(7,vr11)
def e36:Nat×ST:=(7,.one (.row 18))
def e37:Nat×ST:=(7,.one (.row 9))
def e38:Nat×ST:=(11,.one (.row 14))
def e39:Nat×ST:=(0,.one (.var (.sl tIb)))
def o1:Nat×OT:=(1000000,ob1)
def o2:Nat×OT:=(0,ow3)
def o3:Nat×OT:=(0,ow2)
def o4:Nat×OT:=(1624,ow1)
def o5:Nat×OT:=(300001,ow9)
def o6:Nat×OT:=(300001,ow2)
def o7:Nat×OT:=(15,ow1)
def o8:Nat×OT:=(300003,ow11)
def o9:Nat×OT:=(3,ob2)
def o10:Nat×OT:=(0,ow6)
def o11:Nat×OT:=(1,ow7)
def o12:Nat×OT:=(3,ob3)
def o13:Nat×OT:=(300001,ow6)
def o14:Nat×OT:=(0,ow4)
def o15:Nat×OT:=(10,ow10)
def o16:Nat×OT:=(300001,ow10)
def o17:Nat×OT:=(10,ow1)
def o18:Nat×OT:=(300001,ow4)
def o19:Nat×OT:=(300003,ow6)
def o20:Nat×OT:=(300001,ow3)
def o21:Nat×OT:=(0,.row 174 3 tAS false)
def o22:Nat×OT:=(1,.row 188 5 tLk false)
def k0:Nat×ST:=(0,.keep)
def k1:Nat×ST:=(1,.keep)
def k2:Nat×ST:=(2,.keep)
def k3:Nat×ST:=(3,.keep)
def k4:Nat×ST:=(4,.keep)
def k5:Nat×ST:=(5,.keep)
def k6:Nat×ST:=(6,.keep)
def k7:Nat×ST:=(7,.keep)
def k8:Nat×ST:=(8,.keep)
def k9:Nat×ST:=(9,.keep)
def k10:Nat×ST:=(10,.keep)
def k11:Nat×ST:=(11,.keep)
def k12:Nat×ST:=(12,.keep)
def k13:Nat×ST:=(13,.keep)
def k14:Nat×ST:=(14,.keep)
def k15:Nat×ST:=(15,.keep)
def k16:Nat×ST:=(16,.keep)
def k17:Nat×ST:=(17,.keep)
def k18:Nat×ST:=(18,.keep)
def k19:Nat×ST:=(19,.keep)
def k20:Nat×ST:=(20,.keep)
def k21:Nat×ST:=(21,.keep)
def k36:Nat×ST:=(36,.keep)
def k37:Nat×ST:=(37,.keep)
def j0:Nat×OT:=(0,.keep)
def j1:Nat×OT:=(1,.keep)
def j2:Nat×OT:=(2,.keep)
def j3:Nat×OT:=(3,.keep)
def j4:Nat×OT:=(4,.keep)
def j5:Nat×OT:=(5,.keep)
def j6:Nat×OT:=(6,.keep)
def j7:Nat×OT:=(7,.keep)
def j8:Nat×OT:=(8,.keep)
def j9:Nat×OT:=(9,.keep)
def j10:Nat×OT:=(10,.keep)
def j14:Nat×OT:=(14,.keep)
def j15:Nat×OT:=(15,.keep)
def j26:Nat×OT:=(26,.keep)
def j1080:Nat×OT:=(1080,.keep)
def j1081:Nat×OT:=(1081,.keep)
def j1082:Nat×OT:=(1082,.keep)
def j1112:Nat×OT:=(1112,.keep)
def j1128:Nat×OT:=(1128,.keep)
def j1129:Nat×OT:=(1129,.keep)
def j1130:Nat×OT:=(1130,.keep)
def j1144:Nat×OT:=(1144,.keep)
def j1145:Nat×OT:=(1145,.keep)
def j1146:Nat×OT:=(1146,.keep)
def j1147:Nat×OT:=(1147,.keep)
def j1160:Nat×OT:=(1160,.keep)
def j1161:Nat×OT:=(1161,.keep)
def j1176:Nat×OT:=(1176,.keep)
def j1177:Nat×OT:=(1177,.keep)
def j1192:Nat×OT:=(1192,.keep)
def j1193:Nat×OT:=(1193,.keep)
def j1194:Nat×OT:=(1194,.keep)
def j1208:Nat×OT:=(1208,.keep)
def j1224:Nat×OT:=(1224,.keep)
def j1256:Nat×OT:=(1256,.keep)
def j1272:Nat×OT:=(1272,.keep)
def j1288:Nat×OT:=(1288,.keep)
def j1304:Nat×OT:=(1304,.keep)
def j1320:Nat×OT:=(1320,.keep)
def j1352:Nat×OT:=(1352,.keep)
def j1368:Nat×OT:=(1368,.keep)
def j1384:Nat×OT:=(1384,.keep)
def j1385:Nat×OT:=(1385,.keep)
def j1386:Nat×OT:=(1386,.keep)
def j1464:Nat×OT:=(1464,.keep)
def j1528:Nat×OT:=(1528,.keep)
def j1529:Nat×OT:=(1529,.keep)
def j1530:Nat×OT:=(1530,.keep)
def j1592:Nat×OT:=(1592,.keep)
def j1593:Nat×OT:=(1593,.keep)
def j1624:Nat×OT:=(1624,.keep)
def j1672:Nat×OT:=(1672,.keep)
def j1720:Nat×OT:=(1720,.keep)
def j1736:Nat×OT:=(1736,.keep)
def j1944:Nat×OT:=(1944,.keep)
def j300001:Nat×OT:=(300001,.keep)
def j300002:Nat×OT:=(300002,.keep)
def j300003:Nat×OT:=(300003,.keep)
def j300004:Nat×OT:=(300004,.keep)
def j300005:Nat×OT:=(300005,.keep)
def j1000000:Nat×OT:=(1000000,.keep)
def sh1:Sh:=⟨[e2],[]⟩
def sh2:Sh:=⟨[e1],[]⟩
def sh3:Sh:=⟨[],[]⟩
def sh4:Sh:=⟨[e8],[]⟩
def sh5:Sh:=⟨[e1,e3],[]⟩
def sh6:Sh:=⟨[e13],[]⟩
def sh7:Sh:=⟨[e15],[]⟩
def sh8:Sh:=⟨[e11],[o1]⟩
def sh9:Sh:=⟨[e6],[o14]⟩
def sh10:Sh:=⟨[e30],[o3]⟩
def sh11:Sh:=⟨[e17,e3],[]⟩
def sh12:Sh:=⟨[e26],[]⟩
def sh13:Sh:=⟨[k2,k3,e4],[j2,j3]⟩
def sh14:Sh:=⟨[e14],[o2]⟩
def sh15:Sh:=⟨[e19,e32],[]⟩
def sh16:Sh:=⟨[e16],[]⟩
def sh17:Sh:=⟨[e6],[(0,ow1)]⟩
def sh18:Sh:=⟨[e25],[]⟩
def sh19:Sh:=⟨[k0,k1,e4],[]⟩
def sh20:Sh:=⟨[e7,e3,e5],[]⟩
def sh21:Sh:=⟨[e14],[o10]⟩
def sh22:Sh:=⟨[e17],[]⟩
def sh23:Sh:=⟨[e31],[o3,o11]⟩
def sh24:Sh:=⟨[e19],[]⟩
def sh25:Sh:=⟨[e7,e20],[]⟩
def sh26:Sh:=⟨[(0,vr14)],[]⟩
def sh27:Sh:=⟨[(6,vr2)],[]⟩
def sh28:Sh:=⟨[k0,k1,(12,vr2)],[]⟩
def sh29:Sh:=⟨[k2,k3],[j2,o9,o6]⟩
def sh30:Sh:=⟨[e1],[o1]⟩
def sh31:Sh:=⟨[e11,e3],[o1]⟩
def sh32:Sh:=⟨[e1,e3,e5],[]⟩
def sh33:Sh:=⟨[e16,e3],[]⟩
def sh34:Sh:=⟨[e16,e20],[]⟩
def sh35:Sh:=⟨[e31,(1,vr2)],[o3,o11]⟩
def sh36:Sh:=⟨[e6],[(0,ow5)]⟩
def sh37:Sh:=⟨[(0,ag13)],[o2,(1,ow1),(2,ow8)]⟩
def sh38:Sh:=⟨[e7,e21],[]⟩
def sh39:Sh:=⟨[e13,e21],[]⟩
def sh40:Sh:=⟨[e15,(1,vr4)],[]⟩
def sh41:Sh:=⟨[k1,k2,k3,e10],[j1,j2,o9,o6]⟩
def sh42:Sh:=⟨[e1,(1,vr12)],[]⟩
def sh43:Sh:=⟨[e1,e3,e5,(3,ag10)],[]⟩
def sh44:Sh:=⟨[e1,e21,e5,e9,(4,vr4)],[]⟩
def sh45:Sh:=⟨[e14,(1,ag16)],[o2,(1,ow2),(2,ow7),o1]⟩
def sh46:Sh:=⟨[(0,ag7),e3,e5,(3,vr4)],[]⟩
def sh47:Sh:=⟨[(0,vr16),(1,vr16)],[]⟩
def sh48:Sh:=⟨[(0,ag8),e3,e5],[]⟩
def sh49:Sh:=⟨[e17,(1,ag4)],[]⟩
def sh50:Sh:=⟨[(0,vr15),(1,vr15)],[]⟩
def sh51:Sh:=⟨[e19,(1,ag5)],[]⟩
def sh52:Sh:=⟨[e25,(1,ag5)],[]⟩
def sh53:Sh:=⟨[k1,k2,(5,vr6),k6],[j2,o18]⟩
def sh54:Sh:=⟨[k0,k2,k3,k4,k8],[j2,o12,o5,o8,o1]⟩
def sh55:Sh:=⟨[k1,e34,e10],[j1,(5,ow4)]⟩
def sh56:Sh:=⟨[k4,k5],[j4,(5,ob19),(1112,ow3)]⟩
def sh57:Sh:=⟨[k3,k4,(16,vr2)],[j3,j4]⟩
def sh58:Sh:=⟨[k2,k3,(5,vr12),e12],[j2,j3]⟩
def sh59:Sh:=⟨[k2,k3,k5,k6],[j2,j3]⟩
def sh60:Sh:=⟨[k0,k1,k5,(25,vr2)],[]⟩
def sh61:Sh:=⟨[k1,k2,k3,e35],[j3,o7]⟩
def sh62:Sh:=⟨[e29,k4,k5],[(6,ow4),j1128]⟩
def sh63:Sh:=⟨[k0,k3,k4,e4],[j300001]⟩
def l_big.con:Con:=⟨6,sh7,sh1,false,fun x=>l_big x⟩
def s_l1New.con:Con:=⟨56,sh7,⟨[(0,.one (.ptr 0 0))],[(0,ob1)]⟩,false,fun x=>s_l1New x⟩
def s_l1Byte.con:Con:=⟨121,sh8,sh30,false,fun x=>s_l1Byte (x.1,x.2.1,x.2.2)⟩
def s_l1Below.con:Con:=⟨72,sh31,sh30,false,fun x=>s_l1Below (x.2.1,x.2.2.1,x.2.2.2) x.1⟩
def s_l5Put'r.con:Con:=⟨224,⟨[e6,e3],[(0,.row 3 1 ti false)]⟩,sh9,false,fun x=>s_l5Put'r x.2 x.1⟩
def s_Interfaces.con:Con:=⟨205,⟨[e7,e3],[]⟩,sh9,false,fun x=>s_Interfaces (x.1,x.2.1) x.2.2⟩
def s_l5Add.con:Con:=⟨171,⟨[e11,e3,e5,e9],[(1000000,.box [.row 0,.row 1]),o21,o22]⟩,⟨[],[o21,o22,(1000000,.box [.row 0,.row 1])]⟩,false,fun x=>s_l5Add (x.2.2.2.1,x.2.2.2.2) x.1 x.2.1 x.2.2.1⟩
def s_l1Once.con:Con:=⟨86,sh31,⟨[e2],[o1]⟩,false,fun x=>s_l1Once (x.2.1,x.2.2.1,x.2.2.2) x.1⟩
def s_l1In.con:Con:=⟨65,sh32,sh1,false,fun x=>s_l1In x.1 x.2.1 x.2.2⟩
def s_l5Realm.con:Con:=⟨148,⟨[e7,e3],[]⟩,sh1,false,fun x=>s_l5Realm (x.1,x.2.1) x.2.2⟩
def s_l5LinkOk.con:Con:=⟨172,⟨[e7,(1,ag10)],[]⟩,sh1,false,fun x=>s_l5LinkOk (x.1,x.2.1) (x.2.2.1,x.2.2.2.1,x.2.2.2.2.1,x.2.2.2.2.2.1,x.2.2.2.2.2.2)⟩
def s_l5Draw.con:Con:=⟨140,sh8,⟨[(0,ag15)],[(0,ow9),(1,ow11),o1]⟩,false,fun x=>s_l5Draw (x.1,x.2.1,x.2.2)⟩
def s_l5Ends.con:Con:=⟨228,⟨[(0,ag10),e3,e5],[]⟩,sh1,false,fun x=>s_l5Ends (x.1,x.2.1,x.2.2.1,x.2.2.2.1,x.2.2.2.2.1) x.2.2.2.2.2.1 x.2.2.2.2.2.2⟩
def s_LinkIndex.con:Con:=⟨211,sh20,sh2,false,fun x=>s_LinkIndex (x.1,x.2.1) x.2.2.1 x.2.2.2⟩
def s_InterfaceKind.con:Con:=⟨210,sh20,sh2,false,fun x=>s_InterfaceKind (x.1,x.2.1) x.2.2.1 x.2.2.2⟩
def s_InterfacesOfKind.con:Con:=⟨179,sh20,sh9,false,fun x=>s_InterfacesOfKind (x.1,x.2.1) x.2.2.1 x.2.2.2⟩
def s_RemoteEnd.con:Con:=⟨180,sh20,sh5,false,fun x=>s_RemoteEnd (x.1,x.2.1) x.2.2.1 x.2.2.2⟩
def s_SegmentASes.con:Con:=⟨181,sh16,sh9,false,fun x=>s_SegmentASes (x.1,x.2.1,x.2.2)⟩
def s_l9Has.con:Con:=⟨132,⟨[(0,vr12),e3],[]⟩,sh1,false,fun x=>s_l9Has x.1 x.2⟩
def s_l9Seals.con:Con:=⟨214,sh33,sh9,false,fun x=>s_l9Seals (x.1,x.2.1,x.2.2.1) x.2.2.2⟩
def s_l3Ok.con:Con:=⟨208,sh2,sh1,false,fun x=>s_l3Ok x⟩
def s_AddMod.con:Con:=⟨223,sh5,sh2,false,fun x=>s_AddMod x.1 x.2⟩
def s_ChainAdd.con:Con:=⟨213,sh42,sh2,false,fun x=>s_ChainAdd x.1 x.2⟩
def s_BetaAt.con:Con:=⟨183,sh33,sh2,false,fun x=>s_BetaAt (x.1,x.2.1,x.2.2.1) x.2.2.2⟩
def s_Mod.con:Con:=⟨219,sh5,sh2,false,fun x=>s_Mod x.1 x.2⟩
def s_Digest.con:Con:=⟨196,⟨[(0,vr12)],[]⟩,sh2,false,fun x=>s_Digest x⟩
def s_ComputeMAC.con:Con:=⟨229,sh42,sh2,false,fun x=>s_ComputeMAC x.1 x.2⟩
def s_HopMAC.con:Con:=⟨212,sh43,sh2,false,fun x=>s_HopMAC x.1 x.2.1 x.2.2.1 (x.2.2.2.1,x.2.2.2.2.1,x.2.2.2.2.2.1,x.2.2.2.2.2.2.1,x.2.2.2.2.2.2.2)⟩
def s_AuthenticateHop.con:Con:=⟨182,sh43,⟨[(0,ag10)],[]⟩,false,fun x=>s_AuthenticateHop x.1 x.2.1 x.2.2.1 (x.2.2.2.1,x.2.2.2.2.1,x.2.2.2.2.2.1,x.2.2.2.2.2.2.1,x.2.2.2.2.2.2.2)⟩
def s_l9Grow.con:Con:=⟨142,⟨[e11,(1,ag3),e5],[o1]⟩,⟨[(0,ag18)],[o10,o1]⟩,false,fun x=>s_l9Grow (x.2.2.2.1,x.2.2.2.2.1,x.2.2.2.2.2) (x.1,x.2.1) x.2.2.1⟩
def s_IsReversed.con:Con:=⟨197,sh2,sh1,false,fun x=>s_IsReversed x⟩
def s_MakePart.con:Con:=⟨189,⟨[e16,e3,e5],[]⟩,sh21,false,fun x=>s_MakePart (x.1,x.2.1,x.2.2.1) x.2.2.2.1 x.2.2.2.2⟩
def s_l22Meet.con:Con:=⟨190,sh34,sh10,false,fun x=>s_l22Meet (x.1,x.2.1,x.2.2.1) (x.2.2.2.1,x.2.2.2.2.1,x.2.2.2.2.2)⟩
def s_l1Int.con:Con:=⟨68,⟨[e11,(1,vr12)],[o1]⟩,sh30,false,fun x=>s_l1Int (x.2.1,x.2.2.1,x.2.2.2) x.1⟩
def s_FirstAS.con:Con:=⟨153,sh16,sh2,false,fun x=>s_FirstAS (x.1,x.2.1,x.2.2)⟩
def s_LastAS.con:Con:=⟨143,sh16,sh2,false,fun x=>s_LastAS (x.1,x.2.1,x.2.2)⟩
def s_l22Draw.con:Con:=⟨204,sh8,⟨[e7,(1,ag11)],[o3,o1]⟩,false,fun x=>s_l22Draw (x.1,x.2.1,x.2.2)⟩
def s_l1Bytes.con:Con:=⟨67,sh31,⟨[e6],[(0,ow7),o1]⟩,false,fun x=>s_l1Bytes (x.2.1,x.2.2.1,x.2.2.2) x.1⟩
def s_PartIngress.con:Con:=⟨162,sh11,sh2,false,fun x=>s_PartIngress (x.1,x.2.1,x.2.2.1,x.2.2.2.1) x.2.2.2.2⟩
def s_PartEgress.con:Con:=⟨163,sh11,sh2,false,fun x=>s_PartEgress (x.1,x.2.1,x.2.2.1,x.2.2.2.1) x.2.2.2.2⟩
def s_PathSteps.con:Con:=⟨128,sh6,⟨[e6],[(0,ow10)]⟩,false,fun x=>s_PathSteps x⟩
def s_Endpoints.con:Con:=⟨119,sh6,sh5,false,fun x=>s_Endpoints x⟩
def s_l21Copy.con:Con:=⟨147,sh22,sh21,false,fun x=>s_l21Copy (x.1,x.2.1,x.2.2.1,x.2.2.2)⟩
def s_l22Copy.con:Con:=⟨120,sh6,sh10,false,fun x=>s_l22Copy x⟩
def s_NewPacket.con:Con:=⟨66,sh44,sh23,false,fun x=>s_NewPacket x.1 x.2.1 x.2.2.1 x.2.2.2.1 x.2.2.2.2⟩
def s_l26Draw.con:Con:=⟨170,sh8,⟨[e7,(1,ag12)],[o3,o11,o1]⟩,false,fun x=>s_l26Draw (x.1,x.2.1,x.2.2)⟩
def s_NewInbox.con:Con:=⟨53,sh5,sh14,false,fun x=>s_NewInbox x.1 x.2⟩
def s_l36Draw.con:Con:=⟨138,sh8,sh45,false,fun x=>s_l36Draw (x.1,x.2.1,x.2.2)⟩
def s_l36Any.con:Con:=⟨104,sh8,sh45,false,fun x=>s_l36Any (x.1,x.2.1,x.2.2)⟩
def s_l36One.con:Con:=⟨97,sh7,⟨[(0,.one (.ptr 0 0)),(1,ag19),(2,.agg [.var ti,.var ti,.var ti,.row 2,.var ti,.var ti,.var ti,.var ti,.var ti,.row 3])],[(0,ob1),(1,ow3),(2,ow2),(3,ow7)]⟩,false,fun x=>s_l36One x⟩
def s_DrawHandleData.con:Con:=⟨37,sh7,⟨[e14,(1,ag16)],[o2,(1,ow2),(2,ow7)]⟩,false,fun x=>s_DrawHandleData x⟩
def i_copyBytes.con:Con:=⟨69,sh7,⟨[e6],[(0,ow7)]⟩,false,fun x=>i_copyBytes x⟩
def i_copyMessages.con:Con:=⟨112,⟨[(0,vr15)],[]⟩,⟨[e6],[o2]⟩,false,fun x=>i_copyMessages x⟩
def i_copyInbox.con:Con:=⟨98,sh24,sh14,false,fun x=>i_copyInbox (x.1,x.2.1,x.2.2.1,x.2.2.2)⟩
def i_comesTo.con:Con:=⟨99,sh15,sh1,false,fun x=>i_comesTo (x.1,x.2.1,x.2.2.1,x.2.2.2.1) (x.2.2.2.2.1,x.2.2.2.2.2.1,x.2.2.2.2.2.2.1,x.2.2.2.2.2.2.2.1,x.2.2.2.2.2.2.2.2.1,x.2.2.2.2.2.2.2.2.2.1,x.2.2.2.2.2.2.2.2.2.2.1,x.2.2.2.2.2.2.2.2.2.2.2.1,x.2.2.2.2.2.2.2.2.2.2.2.2.1,x.2.2.2.2.2.2.2.2.2.2.2.2.2)⟩
def i_HandleData.con:Con:=⟨38,sh15,sh14,false,fun x=>i_HandleData (x.1,x.2.1,x.2.2.1,x.2.2.2.1) (x.2.2.2.2.1,x.2.2.2.2.2.1,x.2.2.2.2.2.2.1,x.2.2.2.2.2.2.2.1,x.2.2.2.2.2.2.2.2.1,x.2.2.2.2.2.2.2.2.2.1,x.2.2.2.2.2.2.2.2.2.2.1,x.2.2.2.2.2.2.2.2.2.2.2.1,x.2.2.2.2.2.2.2.2.2.2.2.2.1,x.2.2.2.2.2.2.2.2.2.2.2.2.2)⟩
def i_ReverseKind.con:Con:=⟨199,sh2,sh2,false,fun x=>i_ReverseKind x⟩
def i_IR.con:Con:=⟨63,sh32,sh1,false,fun x=>i_IR x.1 x.2.1 x.2.2⟩
def i_IsReversed.con:Con:=⟨198,sh2,sh1,false,fun x=>i_IsReversed x⟩
def i_isResidue.con:Con:=⟨234,sh2,sh1,false,fun x=>i_isResidue x⟩
def i_SubMod.con:Con:=⟨220,sh5,sh2,false,fun x=>i_SubMod x.1 x.2⟩
def i_AddMod.con:Con:=⟨221,sh5,sh2,false,fun x=>i_AddMod x.1 x.2⟩
def i_BetaAfter.con:Con:=⟨200,sh11,sh2,false,fun x=>i_BetaAfter (x.1,x.2.1,x.2.2.1,x.2.2.2.1) x.2.2.2.2⟩
def i_reversedHops.con:Con:=⟨201,⟨[(0,vr16)],[]⟩,⟨[e6],[o10]⟩,false,fun x=>i_reversedHops x⟩
def i_ReversePart.con:Con:=⟨168,sh22,sh21,false,fun x=>i_ReversePart (x.1,x.2.1,x.2.2.1,x.2.2.2)⟩
def i_ReversePath.con:Con:=⟨136,sh6,sh10,false,fun x=>i_ReversePath x⟩
def i_copyHops.con:Con:=⟨146,⟨[(0,vr16)],[]⟩,⟨[e6],[o10]⟩,false,fun x=>i_copyHops x⟩
def i_copyPath.con:Con:=⟨117,sh6,sh10,false,fun x=>i_copyPath x⟩
def i_PartEgress.con:Con:=⟨166,sh11,sh2,false,fun x=>i_PartEgress (x.1,x.2.1,x.2.2.1,x.2.2.2.1) x.2.2.2.2⟩
def i_PartIngress.con:Con:=⟨167,sh11,sh2,false,fun x=>i_PartIngress (x.1,x.2.1,x.2.2.1,x.2.2.2.1) x.2.2.2.2⟩
def i_PathSteps.con:Con:=⟨135,sh6,⟨[e6],[(0,ow10)]⟩,false,fun x=>i_PathSteps x⟩
def i_Endpoints.con:Con:=⟨118,sh6,sh5,false,fun x=>i_Endpoints x⟩
def i_NewPacket.con:Con:=⟨64,sh44,sh23,false,fun x=>i_NewPacket x.1 x.2.1 x.2.2.1 x.2.2.2.1 x.2.2.2.2⟩
def i_Reply.con:Con:=⟨100,sh46,sh23,false,fun x=>i_Reply (x.1,x.2.1,x.2.2.1,x.2.2.2.1,x.2.2.2.2.1,x.2.2.2.2.2.1,x.2.2.2.2.2.2.1,x.2.2.2.2.2.2.2.1,x.2.2.2.2.2.2.2.2.1,x.2.2.2.2.2.2.2.2.2.1) x.2.2.2.2.2.2.2.2.2.2.1 x.2.2.2.2.2.2.2.2.2.2.2.1 x.2.2.2.2.2.2.2.2.2.2.2.2⟩
def i_MakeAck.con:Con:=⟨39,sh15,sh35,false,fun x=>i_MakeAck (x.1,x.2.1,x.2.2.1,x.2.2.2.1) (x.2.2.2.2.1,x.2.2.2.2.2.1,x.2.2.2.2.2.2.1,x.2.2.2.2.2.2.2.1,x.2.2.2.2.2.2.2.2.1,x.2.2.2.2.2.2.2.2.2.1,x.2.2.2.2.2.2.2.2.2.2.1,x.2.2.2.2.2.2.2.2.2.2.2.1,x.2.2.2.2.2.2.2.2.2.2.2.2.1,x.2.2.2.2.2.2.2.2.2.2.2.2.2)⟩
def s_l35Texts.con:Con:=⟨115,⟨[(0,vr15)],[]⟩,⟨[e6],[o2]⟩,false,fun x=>s_l35Texts x⟩
def s_l36Copy.con:Con:=⟨103,sh24,sh14,false,fun x=>s_l36Copy (x.1,x.2.1,x.2.2.1,x.2.2.2)⟩
def s_l36For.con:Con:=⟨101,sh15,sh1,false,fun x=>s_l36For (x.1,x.2.1,x.2.2.1,x.2.2.2.1) (x.2.2.2.2.1,x.2.2.2.2.2.1,x.2.2.2.2.2.2.1,x.2.2.2.2.2.2.2.1,x.2.2.2.2.2.2.2.2.1,x.2.2.2.2.2.2.2.2.2.1,x.2.2.2.2.2.2.2.2.2.2.1,x.2.2.2.2.2.2.2.2.2.2.2.1,x.2.2.2.2.2.2.2.2.2.2.2.2.1,x.2.2.2.2.2.2.2.2.2.2.2.2.2)⟩
def s_HandleData.con:Con:=⟨41,sh15,sh14,false,fun x=>s_HandleData (x.1,x.2.1,x.2.2.1,x.2.2.2.1) (x.2.2.2.2.1,x.2.2.2.2.2.1,x.2.2.2.2.2.2.1,x.2.2.2.2.2.2.2.1,x.2.2.2.2.2.2.2.2.1,x.2.2.2.2.2.2.2.2.2.1,x.2.2.2.2.2.2.2.2.2.2.1,x.2.2.2.2.2.2.2.2.2.2.2.1,x.2.2.2.2.2.2.2.2.2.2.2.2.1,x.2.2.2.2.2.2.2.2.2.2.2.2.2)⟩
def s_ReverseKind.con:Con:=⟨202,sh2,sh2,false,fun x=>s_ReverseKind x⟩
def s_SubMod.con:Con:=⟨222,sh5,sh2,false,fun x=>s_SubMod x.1 x.2⟩
def s_BetaAfter.con:Con:=⟨203,sh11,sh2,false,fun x=>s_BetaAfter (x.1,x.2.1,x.2.2.1,x.2.2.2.1) x.2.2.2.2⟩
def s_ReversePart.con:Con:=⟨169,sh22,sh21,false,fun x=>s_ReversePart (x.1,x.2.1,x.2.2.1,x.2.2.2)⟩
def s_ReversePath.con:Con:=⟨137,sh6,sh10,false,fun x=>s_ReversePath x⟩
def s_Reply.con:Con:=⟨102,sh46,sh23,false,fun x=>s_Reply (x.1,x.2.1,x.2.2.1,x.2.2.2.1,x.2.2.2.2.1,x.2.2.2.2.2.1,x.2.2.2.2.2.2.1,x.2.2.2.2.2.2.2.1,x.2.2.2.2.2.2.2.2.1,x.2.2.2.2.2.2.2.2.2.1) x.2.2.2.2.2.2.2.2.2.2.1 x.2.2.2.2.2.2.2.2.2.2.2.1 x.2.2.2.2.2.2.2.2.2.2.2.2⟩
def s_MakeAck.con:Con:=⟨40,sh15,sh35,false,fun x=>s_MakeAck (x.1,x.2.1,x.2.2.1,x.2.2.2.1) (x.2.2.2.2.1,x.2.2.2.2.2.1,x.2.2.2.2.2.2.1,x.2.2.2.2.2.2.2.1,x.2.2.2.2.2.2.2.2.1,x.2.2.2.2.2.2.2.2.2.1,x.2.2.2.2.2.2.2.2.2.2.1,x.2.2.2.2.2.2.2.2.2.2.2.1,x.2.2.2.2.2.2.2.2.2.2.2.2.1,x.2.2.2.2.2.2.2.2.2.2.2.2.2)⟩
def s_DrawFindInbox.con:Con:=⟨42,sh7,⟨[e6,e3,e5],[(0,.row 66 4 tIb true)]⟩,false,fun x=>s_DrawFindInbox x⟩
def s_l9Copy.con:Con:=⟨178,sh16,⟨[(0,ag18)],[o10]⟩,false,fun x=>s_l9Copy (x.1,x.2.1,x.2.2)⟩
def s_l16All.con:Con:=⟨173,⟨[(0,vr19)],[]⟩,sh36,false,fun x=>s_l16All x⟩
def s_ValidHop.con:Con:=⟨225,⟨[(0,ag10)],[]⟩,sh1,false,fun x=>s_ValidHop (x.1,x.2.1,x.2.2.1,x.2.2.2.1,x.2.2.2.2)⟩
def s_WellFormed.con:Con:=⟨206,sh25,sh1,false,fun x=>s_WellFormed (x.1,x.2.1) (x.2.2.1,x.2.2.2.1,x.2.2.2.2)⟩
def s_VerifyHop.con:Con:=⟨226,⟨[e7,e3,e5,(3,ag10)],[]⟩,sh1,false,fun x=>s_VerifyHop (x.1,x.2.1) x.2.2.1 x.2.2.2.1 (x.2.2.2.2.1,x.2.2.2.2.2.1,x.2.2.2.2.2.2.1,x.2.2.2.2.2.2.2.1,x.2.2.2.2.2.2.2.2)⟩
def s_FirstInvalidHop.con:Con:=⟨207,sh25,sh2,false,fun x=>s_FirstInvalidHop (x.1,x.2.1) (x.2.2.1,x.2.2.2.1,x.2.2.2.2)⟩
def s_SegmentKind.con:Con:=⟨177,sh25,sh2,false,fun x=>s_SegmentKind (x.1,x.2.1) (x.2.2.1,x.2.2.2.1,x.2.2.2.2)⟩
def s_ValidSegment.con:Con:=⟨174,sh25,sh1,false,fun x=>s_ValidSegment (x.1,x.2.1) (x.2.2.1,x.2.2.2.1,x.2.2.2.2)⟩
def s_IsTerminated.con:Con:=⟨175,sh16,sh1,false,fun x=>s_IsTerminated (x.1,x.2.1,x.2.2)⟩
def s_l9SameHops.con:Con:=⟨233,sh47,sh1,false,fun x=>s_l9SameHops x.1 x.2⟩
def s_EqualSegments.con:Con:=⟨227,sh34,sh1,false,fun x=>s_EqualSegments (x.1,x.2.1,x.2.2.1) (x.2.2.2.1,x.2.2.2.2.1,x.2.2.2.2.2)⟩
def s_l16Has.con:Con:=⟨209,⟨[(0,vr19),e20],[]⟩,sh1,false,fun x=>s_l16Has x.1 (x.2.1,x.2.2.1,x.2.2.2)⟩
def s_HasSegment.con:Con:=⟨176,⟨[(0,ag8),e20],[]⟩,sh1,false,fun x=>s_HasSegment (x.1,x.2.1) (x.2.2.1,x.2.2.2.1,x.2.2.2.2)⟩
def s_AddSegment.con:Con:=⟨141,⟨[e7,(1,ag8),(2,ag1)],[]⟩,⟨[(0,ag15)],[(0,ow5),(1,ow5)]⟩,false,fun x=>s_AddSegment (x.1,x.2.1) (x.2.2.1,x.2.2.2.1) (x.2.2.2.2.1,x.2.2.2.2.2.1,x.2.2.2.2.2.2)⟩
def s_l23Book.con:Con:=⟨107,sh8,⟨[e7,(1,ag15)],[(0,ow5),(1,ow5),o1]⟩,false,fun x=>s_l23Book (x.1,x.2.1,x.2.2)⟩
def s_l23Ends.con:Con:=⟨108,⟨[e11,(1,ag8)],[o1]⟩,⟨[e1,e3],[o1]⟩,false,fun x=>s_l23Ends (x.2.2.1,x.2.2.2.1,x.2.2.2.2) (x.1,x.2.1)⟩
def s_NewFlow.con:Con:=⟨24,sh32,sh37,false,fun x=>s_NewFlow x.1 x.2.1 x.2.2⟩
def s_l24Copy.con:Con:=⟨116,sh26,sh17,false,fun x=>s_l24Copy x⟩
def s_l35Copy.con:Con:=⟨61,sh18,sh37,false,fun x=>s_l35Copy (x.1,x.2.1,x.2.2.1,x.2.2.2.1,x.2.2.2.2.1,x.2.2.2.2.2.1,x.2.2.2.2.2.2.1,x.2.2.2.2.2.2.2.1,x.2.2.2.2.2.2.2.2)⟩
def s_Max.con:Con:=⟨82,sh5,sh2,false,fun x=>s_Max x.1 x.2⟩
def s_ValidRevocation.con:Con:=⟨83,⟨[(0,ag14)],[]⟩,sh1,false,fun x=>s_ValidRevocation (x.1,x.2.1,x.2.2)⟩
def s_ValidFlow.con:Con:=⟨26,sh18,sh1,false,fun x=>s_ValidFlow (x.1,x.2.1,x.2.2.1,x.2.2.2.1,x.2.2.2.2.1,x.2.2.2.2.2.1,x.2.2.2.2.2.2.1,x.2.2.2.2.2.2.2.1,x.2.2.2.2.2.2.2.2)⟩
def s_Enqueue.con:Con:=⟨16,⟨[e25,(1,vr4)],[]⟩,⟨[(0,ag13),(1,vr2)],[o2,(1,ow1),(2,ow8)]⟩,false,fun x=>s_Enqueue (x.1,x.2.1,x.2.2.1,x.2.2.2.1,x.2.2.2.2.1,x.2.2.2.2.2.1,x.2.2.2.2.2.2.1,x.2.2.2.2.2.2.2.1,x.2.2.2.2.2.2.2.2.1) x.2.2.2.2.2.2.2.2.2⟩
def s_l31Note.con:Con:=⟨85,sh8,⟨[(0,ag14)],[o1]⟩,false,fun x=>s_l31Note (x.1,x.2.1,x.2.2)⟩
def s_AddRevocation.con:Con:=⟨93,⟨[(0,vr9),(1,ag14)],[]⟩,⟨[(0,vr9)],[]⟩,false,fun x=>s_AddRevocation x.1 (x.2.1,x.2.2.1,x.2.2.2)⟩
def s_l31List.con:Con:=⟨109,sh8,⟨[(0,vr9)],[o1]⟩,false,fun x=>s_l31List (x.1,x.2.1,x.2.2)⟩
def s_DownSegments.con:Con:=⟨150,⟨[(0,ag8),e3],[]⟩,sh36,false,fun x=>s_DownSegments (x.1,x.2.1) x.2.2⟩
def s_l23Index.con:Con:=⟨188,sh33,sh2,false,fun x=>s_l23Index (x.1,x.2.1,x.2.2.1) x.2.2.2⟩
def s_l16Between.con:Con:=⟨191,sh48,sh36,false,fun x=>s_l16Between (x.1,x.2.1) x.2.2.1 x.2.2.2⟩
def s_JoinThree.con:Con:=⟨192,⟨[e16,e20,e26,(3,ag1)],[]⟩,sh10,false,fun x=>s_JoinThree (x.1,x.2.1,x.2.2.1) (x.2.2.2.1,x.2.2.2.2.1,x.2.2.2.2.2.1) x.2.2.2.2.2.2.1 (x.2.2.2.2.2.2.2.1,x.2.2.2.2.2.2.2.2.1,x.2.2.2.2.2.2.2.2.2)⟩
def s_l23Cores.con:Con:=⟨152,⟨[(0,ag8),e20,e5,e9,(4,ag1)],[]⟩,sh17,false,fun x=>s_l23Cores (x.1,x.2.1) (x.2.2.1,x.2.2.2.1,x.2.2.2.2.1) x.2.2.2.2.2.1 x.2.2.2.2.2.2.1 (x.2.2.2.2.2.2.2.1,x.2.2.2.2.2.2.2.2.1,x.2.2.2.2.2.2.2.2.2)⟩
def s_l23Alone.con:Con:=⟨149,sh48,sh17,false,fun x=>s_l23Alone (x.1,x.2.1) x.2.2.1 x.2.2.2⟩
def s_JoinUpDown.con:Con:=⟨151,sh34,sh10,false,fun x=>s_JoinUpDown (x.1,x.2.1,x.2.2.1) (x.2.2.2.1,x.2.2.2.2.1,x.2.2.2.2.2)⟩
def s_CombinePaths.con:Con:=⟨122,⟨[e7,(1,ag8),e5,e9],[]⟩,sh17,false,fun x=>s_CombinePaths (x.1,x.2.1) (x.2.2.1,x.2.2.2.1) x.2.2.2.2.1 x.2.2.2.2.2⟩
def s_l21Realms.con:Con:=⟨235,sh22,sh9,false,fun x=>s_l21Realms (x.1,x.2.1,x.2.2.1,x.2.2.2)⟩
def s_ValidPart.con:Con:=⟨230,⟨[e7,(1,ag4)],[]⟩,sh1,false,fun x=>s_ValidPart (x.1,x.2.1) (x.2.2.1,x.2.2.2.1,x.2.2.2.2.1,x.2.2.2.2.2)⟩
def s_l22Rank.con:Con:=⟨231,sh2,sh2,false,fun x=>s_l22Rank x⟩
def s_WellFormedPath.con:Con:=⟨215,sh38,sh1,false,fun x=>s_WellFormedPath (x.1,x.2.1) x.2.2⟩
def s_InterfacesUsed.con:Con:=⟨87,sh6,sh9,false,fun x=>s_InterfacesUsed x⟩
def s_SimplePath.con:Con:=⟨184,sh38,sh1,false,fun x=>s_SimplePath (x.1,x.2.1) x.2.2⟩
def s_l21Beta.con:Con:=⟨232,sh11,sh2,false,fun x=>s_l21Beta (x.1,x.2.1,x.2.2.1,x.2.2.2.1) x.2.2.2.2⟩
def s_VerifyPart.con:Con:=⟨216,⟨[e7,(1,ag4)],[]⟩,sh1,false,fun x=>s_VerifyPart (x.1,x.2.1) (x.2.2.1,x.2.2.2.1,x.2.2.2.2.1,x.2.2.2.2.2)⟩
def s_VerifyPath.con:Con:=⟨185,sh38,sh1,false,fun x=>s_VerifyPath (x.1,x.2.1) x.2.2⟩
def s_HopValidAt.con:Con:=⟨186,⟨[(0,ag10),e3],[]⟩,sh1,false,fun x=>s_HopValidAt (x.1,x.2.1,x.2.2.1,x.2.2.2.1,x.2.2.2.2.1) x.2.2.2.2.2⟩
def s_PathUsable.con:Con:=⟨144,⟨[e7,e21,e5],[]⟩,sh1,false,fun x=>s_PathUsable (x.1,x.2.1) x.2.2.1 x.2.2.2⟩
def s_EqualParts.con:Con:=⟨217,sh49,sh1,false,fun x=>s_EqualParts (x.1,x.2.1,x.2.2.1,x.2.2.2.1) (x.2.2.2.2.1,x.2.2.2.2.2.1,x.2.2.2.2.2.2.1,x.2.2.2.2.2.2.2)⟩
def s_EqualPaths.con:Con:=⟨187,sh39,sh1,false,fun x=>s_EqualPaths x.1 x.2⟩
def s_HasPath.con:Con:=⟨145,⟨[(0,vr14),e21],[]⟩,sh1,false,fun x=>s_HasPath x.1 x.2⟩
def s_FindPaths.con:Con:=⟨110,⟨[e7,(1,ag8),e5,e9,e10],[]⟩,sh26,false,fun x=>s_FindPaths (x.1,x.2.1) (x.2.2.1,x.2.2.2.1) x.2.2.2.2.1 x.2.2.2.2.2.1 x.2.2.2.2.2.2⟩
def s_Min.con:Con:=⟨71,sh5,sh2,false,fun x=>s_Min x.1 x.2⟩
def s_PathLength.con:Con:=⟨159,sh6,sh2,false,fun x=>s_PathLength x⟩
def s_PathExpiry.con:Con:=⟨160,sh6,sh2,false,fun x=>s_PathExpiry x⟩
def s_PathDigest.con:Con:=⟨161,sh6,sh2,false,fun x=>s_PathDigest x⟩
def s_BetterPath.con:Con:=⟨126,sh39,sh1,false,fun x=>s_BetterPath x.1 x.2⟩
def s_SortPaths.con:Con:=⟨80,sh26,sh26,false,fun x=>s_SortPaths x⟩
def s_ActiveRevocations.con:Con:=⟨158,⟨[(0,vr9),e3],[]⟩,⟨[e6],[(0,ow8)]⟩,false,fun x=>s_ActiveRevocations x.1 x.2⟩
def s_Affects.con:Con:=⟨92,⟨[e13,(1,ag14)],[]⟩,sh1,false,fun x=>s_Affects x.1 (x.2.1,x.2.2.1,x.2.2.2)⟩
def s_Revoked.con:Con:=⟨125,⟨[(0,vr9),e21,e5],[]⟩,sh1,false,fun x=>s_Revoked x.1 x.2.1 x.2.2⟩
def s_PreferUnrevoked.con:Con:=⟨79,⟨[(0,vr9),(1,vr14),e5],[]⟩,sh17,false,fun x=>s_PreferUnrevoked x.1 x.2.1 x.2.2⟩
def s_SetPaths.con:Con:=⟨22,⟨[e25,(1,vr14),e5],[]⟩,⟨[(0,ag17)],[o2,(1,ow8)]⟩,false,fun x=>s_SetPaths (x.1,x.2.1,x.2.2.1,x.2.2.2.1,x.2.2.2.2.1,x.2.2.2.2.2.1,x.2.2.2.2.2.2.1,x.2.2.2.2.2.2.2.1,x.2.2.2.2.2.2.2.2.1) x.2.2.2.2.2.2.2.2.2.1 x.2.2.2.2.2.2.2.2.2.2⟩
def s_NextTransmission.con:Con:=⟨13,sh18,sh35,false,fun x=>s_NextTransmission (x.1,x.2.1,x.2.2.1,x.2.2.2.1,x.2.2.2.2.1,x.2.2.2.2.2.1,x.2.2.2.2.2.2.1,x.2.2.2.2.2.2.2.1,x.2.2.2.2.2.2.2.2)⟩
def s_l35Turn.con:Con:=⟨62,sh18,sh37,false,fun x=>s_l35Turn (x.1,x.2.1,x.2.2.1,x.2.2.2.1,x.2.2.2.2.1,x.2.2.2.2.2.1,x.2.2.2.2.2.2.1,x.2.2.2.2.2.2.2.1,x.2.2.2.2.2.2.2.2)⟩
def s_TickFlow.con:Con:=⟨10,sh18,⟨[(0,ag13),(1,.agg [.var ti,.var ti,.var ti,.row 3,.var ti,.var ti,.var ti,.var ti,.var ti,.row 4]),e26],[o2,(1,ow1),(2,ow8),(3,ow2),(4,ow7)]⟩,false,fun x=>s_TickFlow (x.1,x.2.1,x.2.2.1,x.2.2.2.1,x.2.2.2.2.1,x.2.2.2.2.2.1,x.2.2.2.2.2.2.1,x.2.2.2.2.2.2.2.1,x.2.2.2.2.2.2.2.2)⟩
def s_l35Draw.con:Con:=⟨57,sh8,⟨[(0,ag17)],[o2,(1,ow8),o1]⟩,false,fun x=>s_l35Draw (x.1,x.2.1,x.2.2)⟩
def s_DrawConsistentWith.con:Con:=⟨43,sh7,⟨[(0,ag17),(1,ag5)],[o2,(1,ow8)]⟩,false,fun x=>s_DrawConsistentWith x⟩
def s_DrawEqualInboxes.con:Con:=⟨44,sh7,⟨[e14,(1,ag19)],[o2,(1,ow3)]⟩,false,fun x=>s_DrawEqualInboxes x⟩
def s_DrawNewInbox.con:Con:=⟨45,sh7,sh5,false,fun x=>s_DrawNewInbox x⟩
def l_same.con:Con:=⟨75,sh40,sh1,false,fun x=>l_same x.1 x.2⟩
def l_sameBodies.con:Con:=⟨36,sh50,sh1,false,fun x=>l_sameBodies x.1 x.2⟩
def l_sameBox.con:Con:=⟨46,sh51,sh1,false,fun x=>l_sameBox (x.1,x.2.1,x.2.2.1,x.2.2.2.1) (x.2.2.2.2.1,x.2.2.2.2.2.1,x.2.2.2.2.2.2.1,x.2.2.2.2.2.2.2)⟩
def l_sameHops.con:Con:=⟨127,sh47,sh1,false,fun x=>l_sameHops x.1 x.2⟩
def l_samePart.con:Con:=⟨84,sh49,sh1,false,fun x=>l_samePart (x.1,x.2.1,x.2.2.1,x.2.2.2.1) (x.2.2.2.2.1,x.2.2.2.2.2.1,x.2.2.2.2.2.2.1,x.2.2.2.2.2.2.2)⟩
def l_samePath.con:Con:=⟨27,sh39,sh1,false,fun x=>l_samePath x.1 x.2⟩
def l_samePacket.con:Con:=⟨20,⟨[(0,ag7),e32],[]⟩,sh1,false,fun x=>l_samePacket (x.1,x.2.1,x.2.2.1,x.2.2.2.1,x.2.2.2.2.1,x.2.2.2.2.2.1,x.2.2.2.2.2.2.1,x.2.2.2.2.2.2.2.1,x.2.2.2.2.2.2.2.2.1,x.2.2.2.2.2.2.2.2.2.1) (x.2.2.2.2.2.2.2.2.2.2.1,x.2.2.2.2.2.2.2.2.2.2.2.1,x.2.2.2.2.2.2.2.2.2.2.2.2.1,x.2.2.2.2.2.2.2.2.2.2.2.2.2.1,x.2.2.2.2.2.2.2.2.2.2.2.2.2.2.1,x.2.2.2.2.2.2.2.2.2.2.2.2.2.2.2.1,x.2.2.2.2.2.2.2.2.2.2.2.2.2.2.2.2.1,x.2.2.2.2.2.2.2.2.2.2.2.2.2.2.2.2.2.1,x.2.2.2.2.2.2.2.2.2.2.2.2.2.2.2.2.2.2.1,x.2.2.2.2.2.2.2.2.2.2.2.2.2.2.2.2.2.2.2)⟩
def i_FindInbox.con:Con:=⟨47,⟨[e39,e3,e5],[]⟩,sh2,false,fun x=>i_FindInbox x.1 x.2.1 x.2.2⟩
def s_FindInbox.con:Con:=⟨48,⟨[e39,e3,e5],[]⟩,sh2,false,fun x=>s_FindInbox x.1 x.2.1 x.2.2⟩
def i_EqualBytes.con:Con:=⟨139,sh40,sh1,false,fun x=>i_EqualBytes x.1 x.2⟩
def i_equalMessages.con:Con:=⟨105,sh50,sh1,false,fun x=>i_equalMessages x.1 x.2⟩
def i_ConsistentWith.con:Con:=⟨49,sh52,sh1,false,fun x=>i_ConsistentWith (x.1,x.2.1,x.2.2.1,x.2.2.2.1,x.2.2.2.2.1,x.2.2.2.2.2.1,x.2.2.2.2.2.2.1,x.2.2.2.2.2.2.2.1,x.2.2.2.2.2.2.2.2.1) (x.2.2.2.2.2.2.2.2.2.1,x.2.2.2.2.2.2.2.2.2.2.1,x.2.2.2.2.2.2.2.2.2.2.2.1,x.2.2.2.2.2.2.2.2.2.2.2.2)⟩
def s_EqualBytes.con:Con:=⟨106,sh40,sh1,false,fun x=>s_EqualBytes x.1 x.2⟩
def s_ConsistentWith.con:Con:=⟨50,sh52,sh1,false,fun x=>s_ConsistentWith (x.1,x.2.1,x.2.2.1,x.2.2.2.1,x.2.2.2.2.1,x.2.2.2.2.2.1,x.2.2.2.2.2.2.1,x.2.2.2.2.2.2.2.1,x.2.2.2.2.2.2.2.2.1) (x.2.2.2.2.2.2.2.2.2.1,x.2.2.2.2.2.2.2.2.2.2.1,x.2.2.2.2.2.2.2.2.2.2.2.1,x.2.2.2.2.2.2.2.2.2.2.2.2)⟩
def i_EqualInboxes.con:Con:=⟨51,sh51,sh1,false,fun x=>i_EqualInboxes (x.1,x.2.1,x.2.2.1,x.2.2.2.1) (x.2.2.2.2.1,x.2.2.2.2.2.1,x.2.2.2.2.2.2.1,x.2.2.2.2.2.2.2)⟩
def i_NewInbox.con:Con:=⟨52,sh5,sh14,false,fun x=>i_NewInbox x.1 x.2⟩
def i_ValidInbox.con:Con:=⟨54,sh24,sh1,false,fun x=>i_ValidInbox (x.1,x.2.1,x.2.2.1,x.2.2.2)⟩
def s_ValidInbox.con:Con:=⟨55,sh24,sh1,false,fun x=>s_ValidInbox (x.1,x.2.1,x.2.2.1,x.2.2.2)⟩
def l_FnInboxes.con:Con:=⟨5,sh7,sh1,false,fun x=>l_FnInboxes x⟩
end

end Go.Proofs.YtkdbhilbpbppiaaGreat
