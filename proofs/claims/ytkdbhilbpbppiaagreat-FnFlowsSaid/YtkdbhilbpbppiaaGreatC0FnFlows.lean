/-
  Contracts of the functions of the program. Conditions: none.
-/
import Derived.Test.YtkdbhilbpbppiaaGreatT0FnFlows
import Derived.Test.YtkdbhilbpbppiaaGreatProg
import Derived.KernelRfl
set_option linter.unusedVariables false
set_option linter.unusedSimpArgs false
set_option maxRecDepth 100000
namespace Go.Proofs.YtkdbhilbpbppiaaGreat
open Go.Ab Go.V
noncomputable section
theorem follows:Tryz.prog.follows .mixedOrders=true:=by kernel_rfl
theorem _root_.Go.V.Con.Ok.c {P:Program} {c:Con} {E:List Con} (h:c.Ok P) (k:AllOk P E):AllOk P (c::E):=⟨h,k⟩
theorem fk {E:List Con} {c:Con} {fn:Func} (hf:Tryz.prog.funcs[c.f]? =some fn) (k:AllOk Tryz.prog E) (pl:Plan) (e: ∀ x,evFn Tryz.prog E fn pl c.pre c.post x=c.sem x:=by intro x;kernel_rfl) (hn:(fn.name=="runtime.NumGoroutine")=false:=by rfl):c.Ok Tryz.prog:=fn_ok hf hn follows (AllOk.mem k) fun x y h=>(e x).trans h
theorem nok:AllOk Tryz.prog []:=trivial
def ow1:OT:= .row 32 1 tPt true
def ow2:OT:= .row 3 1 ti true
def ow3:OT:= .row 60 3 tRv true
def ow4:OT:= .row 95 1 tMs true
def ow5:OT:= .row 161 3 tSg true
def ow6:OT:= .row 112 4 tPp true
def ow7:OT:= .row 174 3 tAS true
def ow8:OT:= .row 153 3 tStep true
def ow9:OT:= .row 188 5 tLk true
def ow10:OT:= .row 179 5 tHop true
def ow11:OT:= .row 5 1 tb true
def ow12:OT:= .row 32 1 tPt false
def ob1:OT:= .box [.var (.sl tb),.var ti,.var ti]
def ob2:OT:= .box [.row 300001,.row 300003]
def ob3:OT:= .box [.row 300001]
def ob4:OT:= .box [.row 300001,.nil]
def ob5:OT:= .box [.var (.sl tAS),.var (.sl tLk)]
def ob6:OT:= .box [.row 300001,.row 300002]
def ob7:OT:= .box [.var ti,.var ti,.var ti,.var ti,.row 1144,.row 1145,.var ti,.var ti,.row 1146]
def ob8:OT:= .box [.var ti,.var ti,.var ti,.var ti,.row 300004,.var (.sl tPt),.var ti,.var ti,.row 300005]
def ob9:OT:= .box [.var ti,.var ti,.row 300001]
def ob10:OT:= .box [.row 1160,.row 1208]
def ob11:OT:= .box [.var ti,.var ti,.var ti,.row 300001]
def ob12:OT:= .box [.var ti,.var ti,.var ti]
def ob13:OT:= .box [.var ti,.var ti,.var ti,.row 1192,.var ti,.var ti,.var ti,.var ti,.var ti,.row 1193]
def ob14:OT:= .box [.var ti,.var ti,.var ti,.var ti,.row 300001,.row 300002,.var ti,.var ti,.row 300003]
def ob15:OT:= .box [.var ti,.var ti,.var ti,.var ti,.var (.sl tMs),.var (.sl tPt),.var ti,.var ti,.var (.sl tRv)]
def ag1:ST:= .agg [.var (.sl tPp)]
def ag2:ST:= .agg [.var ti,.var ti,.var (.sl tHop)]
def ag3:ST:= .agg [.var (.sl tAS),.var (.sl tLk)]
def ag4:ST:= .agg [.var ti,.var ti,.var ti,.var ti,.var (.sl tMs),.var (.sl tPt),.var ti,.var ti,.var (.sl tRv)]
def ag5:ST:= .agg [.var ti,.var ti,.var ti,.var (.sl tHop)]
def ag6:ST:= .agg [.var ti,.var ti,.var ti,.var ti,.row 0,.row 1,.var ti,.var ti,.row 2]
def ag7:ST:= .agg [.var (.sl tSg),.var (.sl tSg)]
def ag8:ST:= .agg [.var ti,.var ti,.var ti,.var ti,.var ti]
def ag9:ST:= .agg [.var ti,.var ti,.var ti,.var ti,.row 0,.var (.sl tPt),.var ti,.var ti,.row 1]
def ag10:ST:= .agg [.var ti,.var ti,.var ti]
def ag11:ST:= .agg [.row 0]
def ag12:ST:= .agg [.var ti,.var ti,.var ti,.row 0,.var ti,.var ti,.var ti,.var ti,.var ti,.row 1]
def ag13:ST:= .agg [.row 0,.row 1]
def ag14:ST:= .agg [.var ti,.var ti,.row 0]
def ag15:ST:= .agg [.var ti,.var ti,.var ti,.row 0]
def ag16:ST:= .agg [.var ti,.var ti,.var ti,.row 3,.var ti,.var ti,.var ti,.var ti,.var ti,.row 4]
def ag17:ST:= .agg [.var ti,.var ti,.var ti,.var (.sl tPp),.var ti,.var ti,.var ti,.var ti,.var ti,.var (.sl tb)]
def vr1:ST:= .one (.var ti)
def vr2:ST:= .one (.var .bool)
def vr3:ST:= .one (.row 300001)
def vr4:ST:= .one (.row 0)
def vr5:ST:= .one (.var (.sl tRv))
def vr6:ST:= .one (.var (.sl tb))
def vr7:ST:= .one (.ptr 1000000 0)
def vr8:ST:= .one (.var (.sl tPt))
def vr9:ST:= .one (.row 10)
def vr10:ST:= .one (.row 7)
def vr11:ST:= .one (.row 1624)
def vr12:ST:= .one (.var (.sl ti))
def vr13:ST:= .one (.row 15)
def vr14:ST:= .one (.row 6)
def vr15:ST:= .one (.var (.sl tHop))
def vr16:ST:= .one (.row 5)
def vr17:ST:= .one (.var (.sl tMs))
def vr18:ST:= .one (.row 127)
def vr19:ST:= .one (.row 300002)
def vr20:ST:= .one (.var (.sl tSg))
def e1:Nat×ST:=(0,vr1)
def e2:Nat×ST:=(0,vr2)
def e3:Nat×ST:=(1,vr1)
def e4:Nat×ST:=(0,vr4)
def e5:Nat×ST:=(5,vr1)
def e6:Nat×ST:=(2,vr1)
def e7:Nat×ST:=(3,vr1)
def e8:Nat×ST:=(3,vr3)
def e9:Nat×ST:=(0,ag3)
def e10:Nat×ST:=(0,ag1)
def e11:Nat×ST:=(4,vr2)
def e12:Nat×ST:=(6,vr1)
def e13:Nat×ST:=(0,vr7)
def e14:Nat×ST:=(0,ag4)
def e15:Nat×ST:=(4,vr1)
def e16:Nat×ST:=(8,vr1)
def e17:Nat×ST:=(0,ag2)
def e18:Nat×ST:=(1,ag1)
def e19:Nat×ST:=(9,vr11)
def e20:Nat×ST:=(0,vr6)
def e21:Nat×ST:=(1,ag2)
def e22:Nat×ST:=(0,vr5)
def e23:Nat×ST:=(0,ag6)
def e24:Nat×ST:=(0,ag5)
def e25:Nat×ST:=(2,vr2)
def e26:Nat×ST:=(5,vr10)
def e27:Nat×ST:=(0,vr8)
def e28:Nat×ST:=(7,vr9)
def e29:Nat×ST:=(0,ag9)
def e30:Nat×ST:=(9,vr1)
def e31:Nat×ST:=(13,vr1)
def e32:Nat×ST:=(3,vr14)
def e33:Nat×ST:=(5,vr3)
def e34:Nat×ST:=(3,vr16)
def e35:Nat×ST:=(7,vr13)
def e36:Nat×ST:=(7,.one (.row 18))
def e37:Nat×ST:=(7,.one (.row 9))
def e38:Nat×ST:=(11,.one (.row 14))
def o1:Nat×OT:=(1000000,ob1)
def o2:Nat×OT:=(0,ow4)
def o3:Nat×OT:=(1624,ow1)
def o4:Nat×OT:=(300001,ow2)
def o5:Nat×OT:=(300001,ow7)
def o6:Nat×OT:=(2,ow3)
def o7:Nat×OT:=(1,ow1)
def o8:Nat×OT:=(15,ow1)
def o9:Nat×OT:=(0,ow2)
def o10:Nat×OT:=(0,ow6)
def o11:Nat×OT:=(300003,ow9)
def o12:Nat×OT:=(0,ow1)
def o13:Nat×OT:=(1,ow3)
def o14:Nat×OT:=(3,ob2)
def o15:Nat×OT:=(300001,ow6)
def o16:Nat×OT:=(0,ow10)
def o17:Nat×OT:=(300001,ow10)
def o18:Nat×OT:=(10,ow8)
def o19:Nat×OT:=(10,ow1)
def o20:Nat×OT:=(300001,ow8)
def o21:Nat×OT:=(300002,ow1)
def o22:Nat×OT:=(300001,ow1)
def o23:Nat×OT:=(300001,ow12)
def o24:Nat×OT:=(300001,ow4)
def o25:Nat×OT:=(0,.row 174 3 tAS false)
def o26:Nat×OT:=(1,.row 188 5 tLk false)
def k0:Nat×ST:=(0,.keep)
def k1:Nat×ST:=(1,.keep)
def k2:Nat×ST:=(2,.keep)
def k3:Nat×ST:=(3,.keep)
def k4:Nat×ST:=(4,.keep)
def k5:Nat×ST:=(5,.keep)
def k6:Nat×ST:=(6,.keep)
def k7:Nat×ST:=(7,.keep)
def k8:Nat×ST:=(8,.keep)
def k9:Nat×ST:=(9,.keep)
def k10:Nat×ST:=(10,.keep)
def k11:Nat×ST:=(11,.keep)
def k12:Nat×ST:=(12,.keep)
def k13:Nat×ST:=(13,.keep)
def k14:Nat×ST:=(14,.keep)
def k15:Nat×ST:=(15,.keep)
def k16:Nat×ST:=(16,.keep)
def k17:Nat×ST:=(17,.keep)
def k18:Nat×ST:=(18,.keep)
def k19:Nat×ST:=(19,.keep)
def k20:Nat×ST:=(20,.keep)
def k25:Nat×ST:=(25,.keep)
def k26:Nat×ST:=(26,.keep)
def k30:Nat×ST:=(30,.keep)
def k31:Nat×ST:=(31,.keep)
def k32:Nat×ST:=(32,.keep)
def k33:Nat×ST:=(33,.keep)
def k35:Nat×ST:=(35,.keep)
def k52:Nat×ST:=(52,.keep)
def k53:Nat×ST:=(53,.keep)
def k64:Nat×ST:=(64,.keep)
def k65:Nat×ST:=(65,.keep)
def j0:Nat×OT:=(0,.keep)
def j1:Nat×OT:=(1,.keep)
def j2:Nat×OT:=(2,.keep)
def j3:Nat×OT:=(3,.keep)
def j4:Nat×OT:=(4,.keep)
def j5:Nat×OT:=(5,.keep)
def j6:Nat×OT:=(6,.keep)
def j7:Nat×OT:=(7,.keep)
def j8:Nat×OT:=(8,.keep)
def j9:Nat×OT:=(9,.keep)
def j10:Nat×OT:=(10,.keep)
def j14:Nat×OT:=(14,.keep)
def j15:Nat×OT:=(15,.keep)
def j26:Nat×OT:=(26,.keep)
def j31:Nat×OT:=(31,.keep)
def j33:Nat×OT:=(33,.keep)
def j1080:Nat×OT:=(1080,.keep)
def j1081:Nat×OT:=(1081,.keep)
def j1082:Nat×OT:=(1082,.keep)
def j1128:Nat×OT:=(1128,.keep)
def j1129:Nat×OT:=(1129,.keep)
def j1130:Nat×OT:=(1130,.keep)
def j1144:Nat×OT:=(1144,.keep)
def j1145:Nat×OT:=(1145,.keep)
def j1146:Nat×OT:=(1146,.keep)
def j1160:Nat×OT:=(1160,.keep)
def j1176:Nat×OT:=(1176,.keep)
def j1192:Nat×OT:=(1192,.keep)
def j1193:Nat×OT:=(1193,.keep)
def j1208:Nat×OT:=(1208,.keep)
def j1224:Nat×OT:=(1224,.keep)
def j1288:Nat×OT:=(1288,.keep)
def j1304:Nat×OT:=(1304,.keep)
def j1368:Nat×OT:=(1368,.keep)
def j1528:Nat×OT:=(1528,.keep)
def j1529:Nat×OT:=(1529,.keep)
def j1530:Nat×OT:=(1530,.keep)
def j1592:Nat×OT:=(1592,.keep)
def j1593:Nat×OT:=(1593,.keep)
def j1608:Nat×OT:=(1608,.keep)
def j1609:Nat×OT:=(1609,.keep)
def j1624:Nat×OT:=(1624,.keep)
def j1672:Nat×OT:=(1672,.keep)
def j1720:Nat×OT:=(1720,.keep)
def j1736:Nat×OT:=(1736,.keep)
def j1944:Nat×OT:=(1944,.keep)
def j3976:Nat×OT:=(3976,.keep)
def j3977:Nat×OT:=(3977,.keep)
def j3978:Nat×OT:=(3978,.keep)
def j300001:Nat×OT:=(300001,.keep)
def j300002:Nat×OT:=(300002,.keep)
def j300003:Nat×OT:=(300003,.keep)
def j300004:Nat×OT:=(300004,.keep)
def j300005:Nat×OT:=(300005,.keep)
def j1000000:Nat×OT:=(1000000,.keep)
def sh1:Sh:=⟨[e2],[]⟩
def sh2:Sh:=⟨[e1],[]⟩
def sh3:Sh:=⟨[],[]⟩
def sh4:Sh:=⟨[e10],[]⟩
def sh5:Sh:=⟨[e11],[]⟩
def sh6:Sh:=⟨[e20],[]⟩
def sh7:Sh:=⟨[e1,e3],[]⟩
def sh8:Sh:=⟨[e14],[]⟩
def sh9:Sh:=⟨[e4],[o9]⟩
def sh10:Sh:=⟨[e13],[o1]⟩
def sh11:Sh:=⟨[e27],[]⟩
def sh12:Sh:=⟨[e4],[o12]⟩
def sh13:Sh:=⟨[k0,k1,e5],[]⟩
def sh14:Sh:=⟨[e25],[]⟩
def sh15:Sh:=⟨[e23],[o2,o7,o6]⟩
def sh16:Sh:=⟨[e24,e3],[]⟩
def sh17:Sh:=⟨[k2,k3,e5],[j2,j3]⟩
def sh18:Sh:=⟨[e1,e3,e6],[]⟩
def sh19:Sh:=⟨[e17],[]⟩
def sh20:Sh:=⟨[(0,ag11)],[o10]⟩
def sh21:Sh:=⟨[e9,e3,e6],[]⟩
def sh22:Sh:=⟨[e9,e21],[]⟩
def sh23:Sh:=⟨[e10,e18],[]⟩
def sh24:Sh:=⟨[e29],[o2,o13]⟩
def sh25:Sh:=⟨[(6,vr2)],[]⟩
def sh26:Sh:=⟨[e7],[]⟩
def sh27:Sh:=⟨[e1],[o1]⟩
def sh28:Sh:=⟨[e13,e3],[o1]⟩
def sh29:Sh:=⟨[e17,e3],[]⟩
def sh30:Sh:=⟨[e4],[(0,ow5)]⟩
def sh31:Sh:=⟨[e17,e21],[]⟩
def sh32:Sh:=⟨[e9,e18],[]⟩
def sh33:Sh:=⟨[e4],[(0,ow3)]⟩
def sh34:Sh:=⟨[k1],[j1]⟩
def sh35:Sh:=⟨[(0,vr12),e3],[]⟩
def sh36:Sh:=⟨[e1,(1,vr12)],[]⟩
def sh37:Sh:=⟨[e1,e3,e6,(3,ag8)],[]⟩
def sh38:Sh:=⟨[(0,vr15),(1,vr15)],[]⟩
def sh39:Sh:=⟨[e14,(1,vr6)],[]⟩
def sh40:Sh:=⟨[e23,(1,vr2)],[o2,o7,o6]⟩
def sh41:Sh:=⟨[(0,ag7),e3,e6],[]⟩
def sh42:Sh:=⟨[e24,(1,ag5)],[]⟩
def sh43:Sh:=⟨[e10,(1,ag10)],[]⟩
def sh44:Sh:=⟨[e22,(1,vr8),e6],[]⟩
def sh45:Sh:=⟨[e14,(1,vr8),e6],[]⟩
def sh46:Sh:=⟨[e1,e18,e6,e7,(4,vr6)],[]⟩
def sh47:Sh:=⟨[(0,ag12)],[o10,(1,ow11)]⟩
def sh48:Sh:=⟨[(0,ag12),(1,vr2)],[o10,(1,ow11)]⟩
def sh49:Sh:=⟨[e23,(1,ag16),e25],[o2,o7,o6,(3,ow6),(4,ow11)]⟩
def sh50:Sh:=⟨[e29],[o2,o13,o1]⟩
def sh51:Sh:=⟨[k1,k2,e33,k6],[j2,o4]⟩
def sh52:Sh:=⟨[k0,k2,k3,k4,k8],[j2,o14,o5,o11,o1]⟩
def sh53:Sh:=⟨[k1,e34,e15],[j1,(5,ow2)]⟩
def sh54:Sh:=⟨[k0,k1,(12,vr2)],[]⟩
def sh55:Sh:=⟨[k2,k3,(5,vr12),e12],[j2,j3]⟩
def sh56:Sh:=⟨[k2,k3,k5,k6],[j2,j3]⟩
def sh57:Sh:=⟨[k0,k1,k5,(25,vr2)],[]⟩
def sh58:Sh:=⟨[k2,k3],[j2,(3,ob3),o15]⟩
def sh59:Sh:=⟨[k1,k2,k3,e35],[j3,o8]⟩
def sh60:Sh:=⟨[e32,k4,k5],[(6,ow2),j1128]⟩
def sh61:Sh:=⟨[k0,k3,k4,e5],[j300001]⟩
def sh62:Sh:=⟨[k1,k2,(21,vr2)],[j1,j2]⟩
def sh63:Sh:=⟨[k2,k3,e11],[(2,ob7),(3,ob13),j1144,j1145,j1146,j1192,j1193]⟩
def sh64:Sh:=⟨[e7,k6,k7,e16],[]⟩
def sh65:Sh:=⟨[k3,k5,e12,k7,k8,k9],[j5,j300001]⟩
def l_big.con:Con:=⟨6,sh6,sh1,false,fun x=>l_big x⟩
def s_l1New.con:Con:=⟨56,sh6,⟨[(0,.one (.ptr 0 0))],[(0,ob1)]⟩,false,fun x=>s_l1New x⟩
def s_l1Byte.con:Con:=⟨121,sh10,sh27,false,fun x=>s_l1Byte (x.1,x.2.1,x.2.2)⟩
def s_l1Below.con:Con:=⟨72,sh28,sh27,false,fun x=>s_l1Below (x.2.1,x.2.2.1,x.2.2.2) x.1⟩
def s_l5Put'r.con:Con:=⟨224,⟨[e4,e3],[(0,.row 3 1 ti false)]⟩,sh9,false,fun x=>s_l5Put'r x.2 x.1⟩
def s_Interfaces.con:Con:=⟨205,⟨[e9,e3],[]⟩,sh9,false,fun x=>s_Interfaces (x.1,x.2.1) x.2.2⟩
def s_l5Add.con:Con:=⟨171,⟨[e13,e3,e6,e7],[(1000000,.box [.row 0,.row 1]),o25,o26]⟩,⟨[],[o25,o26,(1000000,.box [.row 0,.row 1])]⟩,false,fun x=>s_l5Add (x.2.2.2.1,x.2.2.2.2) x.1 x.2.1 x.2.2.1⟩
def s_l1Once.con:Con:=⟨86,sh28,⟨[e2],[o1]⟩,false,fun x=>s_l1Once (x.2.1,x.2.2.1,x.2.2.2) x.1⟩
def s_l1In.con:Con:=⟨65,sh18,sh1,false,fun x=>s_l1In x.1 x.2.1 x.2.2⟩
def s_l5Realm.con:Con:=⟨148,⟨[e9,e3],[]⟩,sh1,false,fun x=>s_l5Realm (x.1,x.2.1) x.2.2⟩
def s_l5LinkOk.con:Con:=⟨172,⟨[e9,(1,ag8)],[]⟩,sh1,false,fun x=>s_l5LinkOk (x.1,x.2.1) (x.2.2.1,x.2.2.2.1,x.2.2.2.2.1,x.2.2.2.2.2.1,x.2.2.2.2.2.2)⟩
def s_l5Draw.con:Con:=⟨140,sh10,⟨[(0,ag13)],[(0,ow7),(1,ow9),o1]⟩,false,fun x=>s_l5Draw (x.1,x.2.1,x.2.2)⟩
def s_l5Ends.con:Con:=⟨228,⟨[(0,ag8),e3,e6],[]⟩,sh1,false,fun x=>s_l5Ends (x.1,x.2.1,x.2.2.1,x.2.2.2.1,x.2.2.2.2.1) x.2.2.2.2.2.1 x.2.2.2.2.2.2⟩
def s_LinkIndex.con:Con:=⟨211,sh21,sh2,false,fun x=>s_LinkIndex (x.1,x.2.1) x.2.2.1 x.2.2.2⟩
def s_InterfaceKind.con:Con:=⟨210,sh21,sh2,false,fun x=>s_InterfaceKind (x.1,x.2.1) x.2.2.1 x.2.2.2⟩
def s_InterfacesOfKind.con:Con:=⟨179,sh21,sh9,false,fun x=>s_InterfacesOfKind (x.1,x.2.1) x.2.2.1 x.2.2.2⟩
def s_RemoteEnd.con:Con:=⟨180,sh21,sh7,false,fun x=>s_RemoteEnd (x.1,x.2.1) x.2.2.1 x.2.2.2⟩
def s_SegmentASes.con:Con:=⟨181,sh19,sh9,false,fun x=>s_SegmentASes (x.1,x.2.1,x.2.2)⟩
def s_l9Has.con:Con:=⟨132,sh35,sh1,false,fun x=>s_l9Has x.1 x.2⟩
def s_l9Seals.con:Con:=⟨214,sh29,sh9,false,fun x=>s_l9Seals (x.1,x.2.1,x.2.2.1) x.2.2.2⟩
def s_l3Ok.con:Con:=⟨208,sh2,sh1,false,fun x=>s_l3Ok x⟩
def s_AddMod.con:Con:=⟨223,sh7,sh2,false,fun x=>s_AddMod x.1 x.2⟩
def s_ChainAdd.con:Con:=⟨213,sh36,sh2,false,fun x=>s_ChainAdd x.1 x.2⟩
def s_BetaAt.con:Con:=⟨183,sh29,sh2,false,fun x=>s_BetaAt (x.1,x.2.1,x.2.2.1) x.2.2.2⟩
def s_Mod.con:Con:=⟨219,sh7,sh2,false,fun x=>s_Mod x.1 x.2⟩
def s_Digest.con:Con:=⟨196,⟨[(0,vr12)],[]⟩,sh2,false,fun x=>s_Digest x⟩
def s_ComputeMAC.con:Con:=⟨229,sh36,sh2,false,fun x=>s_ComputeMAC x.1 x.2⟩
def s_HopMAC.con:Con:=⟨212,sh37,sh2,false,fun x=>s_HopMAC x.1 x.2.1 x.2.2.1 (x.2.2.2.1,x.2.2.2.2.1,x.2.2.2.2.2.1,x.2.2.2.2.2.2.1,x.2.2.2.2.2.2.2)⟩
def s_AuthenticateHop.con:Con:=⟨182,sh37,⟨[(0,ag8)],[]⟩,false,fun x=>s_AuthenticateHop x.1 x.2.1 x.2.2.1 (x.2.2.2.1,x.2.2.2.2.1,x.2.2.2.2.2.1,x.2.2.2.2.2.2.1,x.2.2.2.2.2.2.2)⟩
def s_l9Grow.con:Con:=⟨142,⟨[e13,(1,ag3),e6],[o1]⟩,⟨[(0,ag14)],[o16,o1]⟩,false,fun x=>s_l9Grow (x.2.2.2.1,x.2.2.2.2.1,x.2.2.2.2.2) (x.1,x.2.1) x.2.2.1⟩
def s_l9Copy.con:Con:=⟨178,sh19,⟨[(0,ag14)],[o16]⟩,false,fun x=>s_l9Copy (x.1,x.2.1,x.2.2)⟩
def s_l16All.con:Con:=⟨173,⟨[(0,vr20)],[]⟩,sh30,false,fun x=>s_l16All x⟩
def s_ValidHop.con:Con:=⟨225,⟨[(0,ag8)],[]⟩,sh1,false,fun x=>s_ValidHop (x.1,x.2.1,x.2.2.1,x.2.2.2.1,x.2.2.2.2)⟩
def s_WellFormed.con:Con:=⟨206,sh22,sh1,false,fun x=>s_WellFormed (x.1,x.2.1) (x.2.2.1,x.2.2.2.1,x.2.2.2.2)⟩
def s_VerifyHop.con:Con:=⟨226,⟨[e9,e3,e6,(3,ag8)],[]⟩,sh1,false,fun x=>s_VerifyHop (x.1,x.2.1) x.2.2.1 x.2.2.2.1 (x.2.2.2.2.1,x.2.2.2.2.2.1,x.2.2.2.2.2.2.1,x.2.2.2.2.2.2.2.1,x.2.2.2.2.2.2.2.2)⟩
def s_FirstInvalidHop.con:Con:=⟨207,sh22,sh2,false,fun x=>s_FirstInvalidHop (x.1,x.2.1) (x.2.2.1,x.2.2.2.1,x.2.2.2.2)⟩
def s_FirstAS.con:Con:=⟨153,sh19,sh2,false,fun x=>s_FirstAS (x.1,x.2.1,x.2.2)⟩
def s_SegmentKind.con:Con:=⟨177,sh22,sh2,false,fun x=>s_SegmentKind (x.1,x.2.1) (x.2.2.1,x.2.2.2.1,x.2.2.2.2)⟩
def s_ValidSegment.con:Con:=⟨174,sh22,sh1,false,fun x=>s_ValidSegment (x.1,x.2.1) (x.2.2.1,x.2.2.2.1,x.2.2.2.2)⟩
def s_IsTerminated.con:Con:=⟨175,sh19,sh1,false,fun x=>s_IsTerminated (x.1,x.2.1,x.2.2)⟩
def s_l9SameHops.con:Con:=⟨233,sh38,sh1,false,fun x=>s_l9SameHops x.1 x.2⟩
def s_EqualSegments.con:Con:=⟨227,sh31,sh1,false,fun x=>s_EqualSegments (x.1,x.2.1,x.2.2.1) (x.2.2.2.1,x.2.2.2.2.1,x.2.2.2.2.2)⟩
def s_l16Has.con:Con:=⟨209,⟨[(0,vr20),e21],[]⟩,sh1,false,fun x=>s_l16Has x.1 (x.2.1,x.2.2.1,x.2.2.2)⟩
def s_HasSegment.con:Con:=⟨176,⟨[(0,ag7),e21],[]⟩,sh1,false,fun x=>s_HasSegment (x.1,x.2.1) (x.2.2.1,x.2.2.2.1,x.2.2.2.2)⟩
def s_AddSegment.con:Con:=⟨141,⟨[e9,(1,ag7),(2,ag2)],[]⟩,⟨[(0,ag13)],[(0,ow5),(1,ow5)]⟩,false,fun x=>s_AddSegment (x.1,x.2.1) (x.2.2.1,x.2.2.2.1) (x.2.2.2.2.1,x.2.2.2.2.2.1,x.2.2.2.2.2.2)⟩
def s_l23Book.con:Con:=⟨107,sh10,⟨[e9,(1,ag13)],[(0,ow5),(1,ow5),o1]⟩,false,fun x=>s_l23Book (x.1,x.2.1,x.2.2)⟩
def s_LastAS.con:Con:=⟨143,sh19,sh2,false,fun x=>s_LastAS (x.1,x.2.1,x.2.2)⟩
def s_l23Ends.con:Con:=⟨108,⟨[e13,(1,ag7)],[o1]⟩,⟨[e1,e3],[o1]⟩,false,fun x=>s_l23Ends (x.2.2.1,x.2.2.2.1,x.2.2.2.2) (x.1,x.2.1)⟩
def s_NewFlow.con:Con:=⟨24,sh18,sh15,false,fun x=>s_NewFlow x.1 x.2.1 x.2.2⟩
def s_l1Bytes.con:Con:=⟨67,sh28,⟨[e4],[(0,ow11),o1]⟩,false,fun x=>s_l1Bytes (x.2.1,x.2.2.1,x.2.2.2) x.1⟩
def s_l35Texts.con:Con:=⟨115,⟨[(0,vr17)],[]⟩,⟨[e4],[o2]⟩,false,fun x=>s_l35Texts x⟩
def s_l21Copy.con:Con:=⟨147,⟨[e24],[]⟩,⟨[(0,ag15)],[o16]⟩,false,fun x=>s_l21Copy (x.1,x.2.1,x.2.2.1,x.2.2.2)⟩
def s_l22Copy.con:Con:=⟨120,sh4,sh20,false,fun x=>s_l22Copy x⟩
def s_l24Copy.con:Con:=⟨116,sh11,sh12,false,fun x=>s_l24Copy x⟩
def s_l35Copy.con:Con:=⟨61,sh8,sh15,false,fun x=>s_l35Copy (x.1,x.2.1,x.2.2.1,x.2.2.2.1,x.2.2.2.2.1,x.2.2.2.2.2.1,x.2.2.2.2.2.2.1,x.2.2.2.2.2.2.2.1,x.2.2.2.2.2.2.2.2)⟩
def s_Max.con:Con:=⟨82,sh7,sh2,false,fun x=>s_Max x.1 x.2⟩
def s_ValidRevocation.con:Con:=⟨83,⟨[(0,ag10)],[]⟩,sh1,false,fun x=>s_ValidRevocation (x.1,x.2.1,x.2.2)⟩
def s_ValidFlow.con:Con:=⟨26,sh8,sh1,false,fun x=>s_ValidFlow (x.1,x.2.1,x.2.2.1,x.2.2.2.1,x.2.2.2.2.1,x.2.2.2.2.2.1,x.2.2.2.2.2.2.1,x.2.2.2.2.2.2.2.1,x.2.2.2.2.2.2.2.2)⟩
def s_Enqueue.con:Con:=⟨16,sh39,sh40,false,fun x=>s_Enqueue (x.1,x.2.1,x.2.2.1,x.2.2.2.1,x.2.2.2.2.1,x.2.2.2.2.2.1,x.2.2.2.2.2.2.1,x.2.2.2.2.2.2.2.1,x.2.2.2.2.2.2.2.2.1) x.2.2.2.2.2.2.2.2.2⟩
def s_l31Note.con:Con:=⟨85,sh10,⟨[(0,ag10)],[o1]⟩,false,fun x=>s_l31Note (x.1,x.2.1,x.2.2)⟩
def s_AddRevocation.con:Con:=⟨93,⟨[e22,(1,ag10)],[]⟩,⟨[e22],[]⟩,false,fun x=>s_AddRevocation x.1 (x.2.1,x.2.2.1,x.2.2.2)⟩
def s_l31List.con:Con:=⟨109,sh10,⟨[e22],[o1]⟩,false,fun x=>s_l31List (x.1,x.2.1,x.2.2)⟩
def s_DownSegments.con:Con:=⟨150,⟨[(0,ag7),e3],[]⟩,sh30,false,fun x=>s_DownSegments (x.1,x.2.1) x.2.2⟩
def s_l23Index.con:Con:=⟨188,sh29,sh2,false,fun x=>s_l23Index (x.1,x.2.1,x.2.2.1) x.2.2.2⟩
def s_IsReversed.con:Con:=⟨197,sh2,sh1,false,fun x=>s_IsReversed x⟩
def s_MakePart.con:Con:=⟨189,⟨[e17,e3,e6],[]⟩,⟨[(0,ag15)],[o16]⟩,false,fun x=>s_MakePart (x.1,x.2.1,x.2.2.1) x.2.2.2.1 x.2.2.2.2⟩
def s_l16Between.con:Con:=⟨191,sh41,sh30,false,fun x=>s_l16Between (x.1,x.2.1) x.2.2.1 x.2.2.2⟩
def s_JoinThree.con:Con:=⟨192,⟨[e17,e21,e25,(3,ag2)],[]⟩,sh20,false,fun x=>s_JoinThree (x.1,x.2.1,x.2.2.1) (x.2.2.2.1,x.2.2.2.2.1,x.2.2.2.2.2.1) x.2.2.2.2.2.2.1 (x.2.2.2.2.2.2.2.1,x.2.2.2.2.2.2.2.2.1,x.2.2.2.2.2.2.2.2.2)⟩
def s_l23Cores.con:Con:=⟨152,⟨[(0,ag7),e21,e6,e7,(4,ag2)],[]⟩,sh12,false,fun x=>s_l23Cores (x.1,x.2.1) (x.2.2.1,x.2.2.2.1,x.2.2.2.2.1) x.2.2.2.2.2.1 x.2.2.2.2.2.2.1 (x.2.2.2.2.2.2.2.1,x.2.2.2.2.2.2.2.2.1,x.2.2.2.2.2.2.2.2.2)⟩
def s_l23Alone.con:Con:=⟨149,sh41,sh12,false,fun x=>s_l23Alone (x.1,x.2.1) x.2.2.1 x.2.2.2⟩
def s_l22Meet.con:Con:=⟨190,sh31,sh20,false,fun x=>s_l22Meet (x.1,x.2.1,x.2.2.1) (x.2.2.2.1,x.2.2.2.2.1,x.2.2.2.2.2)⟩
def s_JoinUpDown.con:Con:=⟨151,sh31,sh20,false,fun x=>s_JoinUpDown (x.1,x.2.1,x.2.2.1) (x.2.2.2.1,x.2.2.2.2.1,x.2.2.2.2.2)⟩
def s_CombinePaths.con:Con:=⟨122,⟨[e9,(1,ag7),e6,e7],[]⟩,sh12,false,fun x=>s_CombinePaths (x.1,x.2.1) (x.2.2.1,x.2.2.2.1) x.2.2.2.2.1 x.2.2.2.2.2⟩
def s_l21Realms.con:Con:=⟨235,⟨[e24],[]⟩,sh9,false,fun x=>s_l21Realms (x.1,x.2.1,x.2.2.1,x.2.2.2)⟩
def s_PartEgress.con:Con:=⟨163,sh16,sh2,false,fun x=>s_PartEgress (x.1,x.2.1,x.2.2.1,x.2.2.2.1) x.2.2.2.2⟩
def s_PartIngress.con:Con:=⟨162,sh16,sh2,false,fun x=>s_PartIngress (x.1,x.2.1,x.2.2.1,x.2.2.2.1) x.2.2.2.2⟩
def s_ValidPart.con:Con:=⟨230,⟨[e9,(1,ag5)],[]⟩,sh1,false,fun x=>s_ValidPart (x.1,x.2.1) (x.2.2.1,x.2.2.2.1,x.2.2.2.2.1,x.2.2.2.2.2)⟩
def s_l22Rank.con:Con:=⟨231,sh2,sh2,false,fun x=>s_l22Rank x⟩
def s_WellFormedPath.con:Con:=⟨215,sh32,sh1,false,fun x=>s_WellFormedPath (x.1,x.2.1) x.2.2⟩
def s_PathSteps.con:Con:=⟨128,sh4,⟨[e4],[(0,ow8)]⟩,false,fun x=>s_PathSteps x⟩
def s_InterfacesUsed.con:Con:=⟨87,sh4,sh9,false,fun x=>s_InterfacesUsed x⟩
def s_SimplePath.con:Con:=⟨184,sh32,sh1,false,fun x=>s_SimplePath (x.1,x.2.1) x.2.2⟩
def s_SubMod.con:Con:=⟨222,sh7,sh2,false,fun x=>s_SubMod x.1 x.2⟩
def s_BetaAfter.con:Con:=⟨203,sh16,sh2,false,fun x=>s_BetaAfter (x.1,x.2.1,x.2.2.1,x.2.2.2.1) x.2.2.2.2⟩
def s_l21Beta.con:Con:=⟨232,sh16,sh2,false,fun x=>s_l21Beta (x.1,x.2.1,x.2.2.1,x.2.2.2.1) x.2.2.2.2⟩
def s_VerifyPart.con:Con:=⟨216,⟨[e9,(1,ag5)],[]⟩,sh1,false,fun x=>s_VerifyPart (x.1,x.2.1) (x.2.2.1,x.2.2.2.1,x.2.2.2.2.1,x.2.2.2.2.2)⟩
def s_VerifyPath.con:Con:=⟨185,sh32,sh1,false,fun x=>s_VerifyPath (x.1,x.2.1) x.2.2⟩
def s_HopValidAt.con:Con:=⟨186,⟨[(0,ag8),e3],[]⟩,sh1,false,fun x=>s_HopValidAt (x.1,x.2.1,x.2.2.1,x.2.2.2.1,x.2.2.2.2.1) x.2.2.2.2.2⟩
def s_PathUsable.con:Con:=⟨144,⟨[e9,e18,e6],[]⟩,sh1,false,fun x=>s_PathUsable (x.1,x.2.1) x.2.2.1 x.2.2.2⟩
def s_EqualParts.con:Con:=⟨217,sh42,sh1,false,fun x=>s_EqualParts (x.1,x.2.1,x.2.2.1,x.2.2.2.1) (x.2.2.2.2.1,x.2.2.2.2.2.1,x.2.2.2.2.2.2.1,x.2.2.2.2.2.2.2)⟩
def s_EqualPaths.con:Con:=⟨187,sh23,sh1,false,fun x=>s_EqualPaths x.1 x.2⟩
def s_HasPath.con:Con:=⟨145,⟨[e27,e18],[]⟩,sh1,false,fun x=>s_HasPath x.1 x.2⟩
def s_FindPaths.con:Con:=⟨110,⟨[e9,(1,ag7),e6,e7,e15],[]⟩,sh11,false,fun x=>s_FindPaths (x.1,x.2.1) (x.2.2.1,x.2.2.2.1) x.2.2.2.2.1 x.2.2.2.2.2.1 x.2.2.2.2.2.2⟩
def s_Min.con:Con:=⟨71,sh7,sh2,false,fun x=>s_Min x.1 x.2⟩
def s_PathLength.con:Con:=⟨159,sh4,sh2,false,fun x=>s_PathLength x⟩
def s_PathExpiry.con:Con:=⟨160,sh4,sh2,false,fun x=>s_PathExpiry x⟩
def s_PathDigest.con:Con:=⟨161,sh4,sh2,false,fun x=>s_PathDigest x⟩
def s_BetterPath.con:Con:=⟨126,sh23,sh1,false,fun x=>s_BetterPath x.1 x.2⟩
def s_SortPaths.con:Con:=⟨80,sh11,sh11,false,fun x=>s_SortPaths x⟩
def s_ActiveRevocations.con:Con:=⟨158,⟨[e22,e3],[]⟩,sh33,false,fun x=>s_ActiveRevocations x.1 x.2⟩
def s_Affects.con:Con:=⟨92,sh43,sh1,false,fun x=>s_Affects x.1 (x.2.1,x.2.2.1,x.2.2.2)⟩
def s_Revoked.con:Con:=⟨125,⟨[e22,e18,e6],[]⟩,sh1,false,fun x=>s_Revoked x.1 x.2.1 x.2.2⟩
def s_PreferUnrevoked.con:Con:=⟨79,sh44,sh12,false,fun x=>s_PreferUnrevoked x.1 x.2.1 x.2.2⟩
def s_SetPaths.con:Con:=⟨22,sh45,sh24,false,fun x=>s_SetPaths (x.1,x.2.1,x.2.2.1,x.2.2.2.1,x.2.2.2.2.1,x.2.2.2.2.2.1,x.2.2.2.2.2.2.1,x.2.2.2.2.2.2.2.1,x.2.2.2.2.2.2.2.2.1) x.2.2.2.2.2.2.2.2.2.1 x.2.2.2.2.2.2.2.2.2.2⟩
def s_Endpoints.con:Con:=⟨119,sh4,sh7,false,fun x=>s_Endpoints x⟩
def s_NewPacket.con:Con:=⟨66,sh46,sh47,false,fun x=>s_NewPacket x.1 x.2.1 x.2.2.1 x.2.2.2.1 x.2.2.2.2⟩
def s_NextTransmission.con:Con:=⟨13,sh8,sh48,false,fun x=>s_NextTransmission (x.1,x.2.1,x.2.2.1,x.2.2.2.1,x.2.2.2.2.1,x.2.2.2.2.2.1,x.2.2.2.2.2.2.1,x.2.2.2.2.2.2.2.1,x.2.2.2.2.2.2.2.2)⟩
def s_l35Turn.con:Con:=⟨62,sh8,sh15,false,fun x=>s_l35Turn (x.1,x.2.1,x.2.2.1,x.2.2.2.1,x.2.2.2.2.1,x.2.2.2.2.2.1,x.2.2.2.2.2.2.1,x.2.2.2.2.2.2.2.1,x.2.2.2.2.2.2.2.2)⟩
def s_TickFlow.con:Con:=⟨10,sh8,sh49,false,fun x=>s_TickFlow (x.1,x.2.1,x.2.2.1,x.2.2.2.1,x.2.2.2.2.1,x.2.2.2.2.2.1,x.2.2.2.2.2.2.1,x.2.2.2.2.2.2.2.1,x.2.2.2.2.2.2.2.2)⟩
def s_l35Draw.con:Con:=⟨57,sh10,sh50,false,fun x=>s_l35Draw (x.1,x.2.1,x.2.2)⟩
def s_DrawFlow.con:Con:=⟨7,sh6,sh24,false,fun x=>s_DrawFlow x⟩
def s_l1Int.con:Con:=⟨68,⟨[e13,(1,vr12)],[o1]⟩,sh27,false,fun x=>s_l1Int (x.2.1,x.2.2.1,x.2.2.2) x.1⟩
def s_l35Any.con:Con:=⟨111,sh10,sh50,false,fun x=>s_l35Any (x.1,x.2.1,x.2.2)⟩
def s_l35One.con:Con:=⟨58,sh6,⟨[(0,.one (.ptr 0 0)),(1,.agg [.var ti,.var ti,.var ti,.var ti,.row 1,.var (.sl tPt),.var ti,.var ti,.row 2])],[(0,ob1),(1,ow4),o6]⟩,false,fun x=>s_l35One x⟩
def s_DrawTickFlow.con:Con:=⟨8,sh6,sh24,false,fun x=>s_DrawTickFlow x⟩
def i_copyBytes.con:Con:=⟨69,sh6,⟨[e4],[(0,ow11)]⟩,false,fun x=>i_copyBytes x⟩
def i_copyMessages.con:Con:=⟨112,⟨[(0,vr17)],[]⟩,⟨[e4],[o2]⟩,false,fun x=>i_copyMessages x⟩
def i_copyHops.con:Con:=⟨146,⟨[(0,vr15)],[]⟩,⟨[e4],[o16]⟩,false,fun x=>i_copyHops x⟩
def i_copyPath.con:Con:=⟨117,sh4,sh20,false,fun x=>i_copyPath x⟩
def i_copyPaths.con:Con:=⟨113,sh11,sh12,false,fun x=>i_copyPaths x⟩
def i_copyRevocations.con:Con:=⟨114,⟨[e22],[]⟩,sh33,false,fun x=>i_copyRevocations x⟩
def i_copyFlow.con:Con:=⟨59,sh8,sh15,false,fun x=>i_copyFlow (x.1,x.2.1,x.2.2.1,x.2.2.2.1,x.2.2.2.2.1,x.2.2.2.2.2.1,x.2.2.2.2.2.2.1,x.2.2.2.2.2.2.2.1,x.2.2.2.2.2.2.2.2)⟩
def i_IR.con:Con:=⟨63,sh18,sh1,false,fun x=>i_IR x.1 x.2.1 x.2.2⟩
def i_IsReversed.con:Con:=⟨198,sh2,sh1,false,fun x=>i_IsReversed x⟩
def i_PartEgress.con:Con:=⟨166,sh16,sh2,false,fun x=>i_PartEgress (x.1,x.2.1,x.2.2.1,x.2.2.2.1) x.2.2.2.2⟩
def i_PartIngress.con:Con:=⟨167,sh16,sh2,false,fun x=>i_PartIngress (x.1,x.2.1,x.2.2.1,x.2.2.2.1) x.2.2.2.2⟩
def i_PathSteps.con:Con:=⟨135,sh4,⟨[e4],[(0,ow8)]⟩,false,fun x=>i_PathSteps x⟩
def i_Endpoints.con:Con:=⟨118,sh4,sh7,false,fun x=>i_Endpoints x⟩
def i_NewPacket.con:Con:=⟨64,sh46,sh47,false,fun x=>i_NewPacket x.1 x.2.1 x.2.2.1 x.2.2.2.1 x.2.2.2.2⟩
def i_NextTransmission.con:Con:=⟨12,sh8,sh48,false,fun x=>i_NextTransmission (x.1,x.2.1,x.2.2.1,x.2.2.2.1,x.2.2.2.2.1,x.2.2.2.2.2.1,x.2.2.2.2.2.2.1,x.2.2.2.2.2.2.2.1,x.2.2.2.2.2.2.2.2)⟩
def i_nextPath.con:Con:=⟨60,sh8,sh2,false,fun x=>i_nextPath (x.1,x.2.1,x.2.2.1,x.2.2.2.1,x.2.2.2.2.1,x.2.2.2.2.2.1,x.2.2.2.2.2.2.1,x.2.2.2.2.2.2.2.1,x.2.2.2.2.2.2.2.2)⟩
def i_TickFlow.con:Con:=⟨9,sh8,sh49,false,fun x=>i_TickFlow (x.1,x.2.1,x.2.2.1,x.2.2.2.1,x.2.2.2.2.1,x.2.2.2.2.2.1,x.2.2.2.2.2.2.1,x.2.2.2.2.2.2.2.1,x.2.2.2.2.2.2.2.2)⟩
def s_DrawNextTransmission.con:Con:=⟨11,sh6,sh24,false,fun x=>s_DrawNextTransmission x⟩
def s_DrawEnqueue.con:Con:=⟨14,sh6,⟨[e29,(1,.one (.row 2))],[o2,o13,(2,ow11)]⟩,false,fun x=>s_DrawEnqueue x⟩
def i_ValidRevocation.con:Con:=⟨81,⟨[(0,ag10)],[]⟩,sh1,false,fun x=>i_ValidRevocation (x.1,x.2.1,x.2.2)⟩
def i_ValidFlow.con:Con:=⟨25,sh8,sh1,false,fun x=>i_ValidFlow (x.1,x.2.1,x.2.2.1,x.2.2.2.1,x.2.2.2.2.1,x.2.2.2.2.2.1,x.2.2.2.2.2.2.1,x.2.2.2.2.2.2.2.1,x.2.2.2.2.2.2.2.2)⟩
def i_Enqueue.con:Con:=⟨15,sh39,sh40,false,fun x=>i_Enqueue (x.1,x.2.1,x.2.2.1,x.2.2.2.1,x.2.2.2.2.1,x.2.2.2.2.2.1,x.2.2.2.2.2.2.1,x.2.2.2.2.2.2.2.1,x.2.2.2.2.2.2.2.2.1) x.2.2.2.2.2.2.2.2.2⟩
def s_l23Paths.con:Con:=⟨70,sh10,⟨[e4],[o12,o1]⟩,false,fun x=>s_l23Paths (x.1,x.2.1,x.2.2)⟩
def s_DrawSetPaths.con:Con:=⟨17,sh6,⟨[e29,(1,vr8),e6],[o2,o13]⟩,false,fun x=>s_DrawSetPaths x⟩
def s_DrawNewFlow.con:Con:=⟨18,sh6,sh18,false,fun x=>s_DrawNewFlow x⟩
def l_same.con:Con:=⟨75,⟨[e20,(1,vr6)],[]⟩,sh1,false,fun x=>l_same x.1 x.2⟩
def l_sameBodies.con:Con:=⟨36,⟨[(0,vr17),(1,vr17)],[]⟩,sh1,false,fun x=>l_sameBodies x.1 x.2⟩
def l_sameHops.con:Con:=⟨127,sh38,sh1,false,fun x=>l_sameHops x.1 x.2⟩
def l_samePart.con:Con:=⟨84,sh42,sh1,false,fun x=>l_samePart (x.1,x.2.1,x.2.2.1,x.2.2.2.1) (x.2.2.2.2.1,x.2.2.2.2.2.1,x.2.2.2.2.2.2.1,x.2.2.2.2.2.2.2)⟩
def l_samePath.con:Con:=⟨27,sh23,sh1,false,fun x=>l_samePath x.1 x.2⟩
def l_samePaths.con:Con:=⟨73,⟨[e27,(1,vr8)],[]⟩,sh1,false,fun x=>l_samePaths x.1 x.2⟩
def l_sameNotes.con:Con:=⟨74,⟨[e22,(1,vr5)],[]⟩,sh1,false,fun x=>l_sameNotes x.1 x.2⟩
def l_sameFlow.con:Con:=⟨19,⟨[e14,(1,ag4)],[]⟩,sh1,false,fun x=>l_sameFlow (x.1,x.2.1,x.2.2.1,x.2.2.2.1,x.2.2.2.2.1,x.2.2.2.2.2.1,x.2.2.2.2.2.2.1,x.2.2.2.2.2.2.2.1,x.2.2.2.2.2.2.2.2.1) (x.2.2.2.2.2.2.2.2.2.1,x.2.2.2.2.2.2.2.2.2.2.1,x.2.2.2.2.2.2.2.2.2.2.2.1,x.2.2.2.2.2.2.2.2.2.2.2.2.1,x.2.2.2.2.2.2.2.2.2.2.2.2.2.1,x.2.2.2.2.2.2.2.2.2.2.2.2.2.2.1,x.2.2.2.2.2.2.2.2.2.2.2.2.2.2.2.1,x.2.2.2.2.2.2.2.2.2.2.2.2.2.2.2.2.1,x.2.2.2.2.2.2.2.2.2.2.2.2.2.2.2.2.2)⟩
def l_samePacket.con:Con:=⟨20,⟨[(0,ag17),(1,ag17)],[]⟩,sh1,false,fun x=>l_samePacket (x.1,x.2.1,x.2.2.1,x.2.2.2.1,x.2.2.2.2.1,x.2.2.2.2.2.1,x.2.2.2.2.2.2.1,x.2.2.2.2.2.2.2.1,x.2.2.2.2.2.2.2.2.1,x.2.2.2.2.2.2.2.2.2.1) (x.2.2.2.2.2.2.2.2.2.2.1,x.2.2.2.2.2.2.2.2.2.2.2.1,x.2.2.2.2.2.2.2.2.2.2.2.2.1,x.2.2.2.2.2.2.2.2.2.2.2.2.2.1,x.2.2.2.2.2.2.2.2.2.2.2.2.2.2.1,x.2.2.2.2.2.2.2.2.2.2.2.2.2.2.2.1,x.2.2.2.2.2.2.2.2.2.2.2.2.2.2.2.2.1,x.2.2.2.2.2.2.2.2.2.2.2.2.2.2.2.2.2.1,x.2.2.2.2.2.2.2.2.2.2.2.2.2.2.2.2.2.2.1,x.2.2.2.2.2.2.2.2.2.2.2.2.2.2.2.2.2.2.2)⟩
def i_PathLength.con:Con:=⟨155,sh4,sh2,false,fun x=>i_PathLength x⟩
def i_allHops.con:Con:=⟨194,sh4,⟨[e4],[o16]⟩,false,fun x=>i_allHops x⟩
def i_leastExpiry.con:Con:=⟨193,⟨[(0,vr15)],[]⟩,sh2,false,fun x=>i_leastExpiry x⟩
def i_PathExpiry.con:Con:=⟨156,sh4,sh2,false,fun x=>i_PathExpiry x⟩
def i_Mod.con:Con:=⟨218,sh7,sh2,false,fun x=>i_Mod x.1 x.2⟩
def i_Digest.con:Con:=⟨195,⟨[(0,vr12)],[]⟩,sh2,false,fun x=>i_Digest x⟩
def i_PathDigest.con:Con:=⟨157,sh4,sh2,false,fun x=>i_PathDigest x⟩
def i_BetterPath.con:Con:=⟨124,sh23,sh1,false,fun x=>i_BetterPath x.1 x.2⟩
def i_SortPaths.con:Con:=⟨77,sh11,sh11,false,fun x=>i_SortPaths x⟩
def i_ActiveRevocations.con:Con:=⟨154,⟨[e22,e3],[]⟩,sh33,false,fun x=>i_ActiveRevocations x.1 x.2⟩
def i_numbered.con:Con:=⟨134,⟨[(0,.one (.var (.sl tStep)))],[]⟩,sh9,false,fun x=>i_numbered x⟩
def i_InterfacesUsed.con:Con:=⟨96,sh4,sh9,false,fun x=>i_InterfacesUsed x⟩
def i_hasInt.con:Con:=⟨95,sh35,sh1,false,fun x=>i_hasInt x.1 x.2⟩
def i_Affects.con:Con:=⟨35,sh43,sh1,false,fun x=>i_Affects x.1 (x.2.1,x.2.2.1,x.2.2.2)⟩
def i_Revoked.con:Con:=⟨123,⟨[e22,e18,e6],[]⟩,sh1,false,fun x=>i_Revoked x.1 x.2.1 x.2.2⟩
def i_PreferUnrevoked.con:Con:=⟨76,sh44,sh12,false,fun x=>i_PreferUnrevoked x.1 x.2.1 x.2.2⟩
def i_Min.con:Con:=⟨78,sh7,sh2,false,fun x=>i_Min x.1 x.2⟩
def i_SetPaths.con:Con:=⟨21,sh45,sh15,false,fun x=>i_SetPaths (x.1,x.2.1,x.2.2.1,x.2.2.2.1,x.2.2.2.2.1,x.2.2.2.2.2.1,x.2.2.2.2.2.2.1,x.2.2.2.2.2.2.2.1,x.2.2.2.2.2.2.2.2.1) x.2.2.2.2.2.2.2.2.2.1 x.2.2.2.2.2.2.2.2.2.2⟩
def i_NewFlow.con:Con:=⟨23,sh18,sh15,false,fun x=>i_NewFlow x.1 x.2.1 x.2.2⟩
def l_FnFlows.con:Con:=⟨3,sh6,sh1,false,fun x=>l_FnFlows x⟩
end

end Go.Proofs.YtkdbhilbpbppiaaGreat
