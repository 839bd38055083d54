/-
  Contracts of the functions of the program. Conditions: none.
-/
import Derived.Test.YtejfajiolkojlaaGreatT1XDeliverPackets
import Derived.Test.YtejfajiolkojlaaGreatProg
import Derived.KernelRfl
set_option linter.unusedVariables false
set_option linter.unusedSimpArgs false
set_option maxRecDepth 100000
namespace Go.Proofs.YtejfajiolkojlaaGreat
open Go.Ab Go.V
noncomputable section
theorem follows:Tryz.prog.follows .mixedOrders=true:=by kernel_rfl
theorem _root_.Go.V.Con.Ok.c {P:Program} {c:Con} {E:List Con} (h:c.Ok P) (k:AllOk P E):AllOk P (c::E):=⟨h,k⟩
theorem fk {E:List Con} {c:Con} {fn:Func} (hf:Tryz.prog.funcs[c.f]? =some fn) (k:AllOk Tryz.prog E) (pl:Plan) (e: ∀ x,evFn Tryz.prog E fn pl c.pre c.post x=c.sem x:=by intro x;kernel_rfl) (hn:(fn.name=="runtime.NumGoroutine")=false:=by rfl):c.Ok Tryz.prog:=fn_ok hf hn follows (AllOk.mem k) fun x y h=>(e x).trans h
theorem nok:AllOk Tryz.prog []:=trivial
def ow1:OT:= .row 68 9 tFl false
def ow2:OT:= .row 171 12 tFy false
def ow3:OT:= .row 85 1 tPt true
def ow4:OT:= .row 184 4 tPp true
def ow5:OT:= .row 174 4 tIb false
def ow6:OT:= .row 3 1 ti true
def ow7:OT:= .row 5 1 tb true
def ow8:OT:= .row 176 1 tMs true
def ow9:OT:= .row 268 3 tSg true
def ow10:OT:= .row 271 5 tRs true
def ow11:OT:= .row 179 3 tRv true
def ow12:OT:= .row 275 4 tUs true
def ow13:OT:= .row 309 5 tHop true
def ow14:OT:= .row 171 12 tFy true
def ow15:OT:= .row 68 9 tFl true
def ow16:OT:= .row 282 3 tStep true
def ow17:OT:= .row 260 3 tAS true
def ow18:OT:= .row 264 5 tLk true
def ow19:OT:= .row 174 4 tIb true
def ow20:OT:= .row 85 1 tPt false
def ow21:OT:= .row 184 4 tPp false
def ob1:OT:= .box [.var (.sl tAS),.var (.sl tLk),.var (.sl tSg),.var (.sl tSg),.var ti,.var (.sl tRs),.var (.sl tUs),.var ti,.var (.sl ti),.row 0,.row 1,.row 2,.var ti]
def ob2:OT:= .box [.row 300001]
def ob3:OT:= .box [.var (.sl tAS),.var (.sl tLk),.var (.sl tSg),.var (.sl tSg),.var ti,.var (.sl tRs),.var (.sl tUs),.var ti,.var (.sl ti),.row 300001,.row 300002,.row 300003,.var ti]
def ob4:OT:= .box [.var ti,.var ti,.var ti,.var (.sl tPp),.var ti,.var ti,.var ti,.var ti,.var ti,.var (.sl tb)]
def ob5:OT:= .box [.var ti,.var ti,.var ti,.row 300001]
def ob6:OT:= .box [.row 1208,.row 1209,.row 1272,.row 1273,.var ti,.row 1336,.row 1337,.var ti,.row 1400,.row 300001,.nil,.nil,.var ti]
def ob7:OT:= .box [.row 1208,.row 1209,.row 1272,.row 1273,.var ti,.row 1336,.row 1337,.var ti,.row 1400,.row 300001,.row 300002,.nil,.var ti]
def ob8:OT:= .box [.var ti,.var ti,.var ti]
def ob9:OT:= .box [.var ti,.var ti,.var ti,.row 300001,.var ti,.var ti,.var ti,.var ti,.var ti,.row 300002]
def ob10:OT:= .box [.var ti,.var ti,.var ti,.row 1112]
def ob11:OT:= .box [.var ti,.var ti,.var ti,.nil]
def ob12:OT:= .box [.var ti,.var ti,.var ti,.var ti,.row 1112,.row 1113,.var ti,.var ti,.row 1114]
def ob13:OT:= .box [.var ti,.var ti,.var ti,.row 1544]
def ob14:OT:= .box [.var ti,.var ti,.var ti,.var ti,.row 2312,.row 2313,.var ti,.var ti,.row 2314]
def ob15:OT:= .box [.var ti,.var ti,.var ti,.var ti,.var ti,.row 1560,.var ti,.var ti,.var ti,.var ti,.var ti,.row 1561]
def ob16:OT:= .box [.var ti,.row 2152,.row 2153]
def ob17:OT:= .box [.var (.sl tAS),.var (.sl tLk),.var (.sl tSg),.var (.sl tSg),.var ti,.row 2152,.row 2153,.var ti,.var (.sl ti),.row 0,.row 1,.row 2,.var ti]
def ob18:OT:= .box [.var ti,.var ti,.var ti,.row 2904,.var ti,.var ti,.var ti,.var ti,.var ti,.row 2905]
def ob19:OT:= .box [.var (.sl tAS),.var (.sl tLk),.var (.sl tSg),.var (.sl tSg),.var ti,.var (.sl tRs),.var (.sl tUs),.var ti,.var (.sl ti),.row 14,.row 1,.row 2,.var ti]
def ob20:OT:= .box [.row 1208,.row 1209,.row 1272,.row 1273,.var ti,.row 1336,.row 1337,.var ti,.row 1400,.row 300001,.row 300002,.row 300003,.var ti]
def ob21:OT:= .box [.var ti,.var .bool,.var ti]
def ob22:OT:= .box [.var ti,.var ti,.var ti,.var ti,.var ti,.var (.sl tPp),.var ti,.var ti,.var ti,.var ti,.var ti,.var (.sl tb)]
def ob23:OT:= .box [.var ti,.var ti,.var ti,.row 2584,.var ti,.var ti,.var ti,.var ti,.var ti,.row 2585]
def ob24:OT:= .box [.var ti,.var ti,.var ti,.row 3176,.var ti,.var ti,.var ti,.var ti,.var ti,.row 3177]
def ag1:ST:= .agg [.var ti,.var ti,.var ti,.var (.sl tPp),.var ti,.var ti,.var ti,.var ti,.var ti,.var (.sl tb)]
def ag2:ST:= .agg [.var (.sl tAS),.var (.sl tLk)]
def ag3:ST:= .agg [.var (.sl tPp)]
def ag4:ST:= .agg [.var ti,.var ti,.var ti,.var ti,.var ti]
def ag5:ST:= .agg [.var ti,.var ti,.var (.sl tHop)]
def ag6:ST:= .agg [.var ti,.var ti,.var ti,.var (.sl tHop)]
def ag7:ST:= .agg [.var ti,.var ti,.var ti,.var ti,.var (.sl tMs),.var (.sl tPt),.var ti,.var ti,.var (.sl tRv)]
def ag8:ST:= .agg [.var ti,.var (.sl tRs),.var (.sl tUs)]
def ag9:ST:= .agg [.var ti,.var ti,.var ti,.row 0,.var ti,.var ti,.var ti,.var ti,.var ti,.row 1]
def ag10:ST:= .agg [.var ti,.var ti,.var ti,.var (.sl tMs)]
def ag11:ST:= .agg [.var ti,.var ti,.var ti]
def ag12:ST:= .agg [.var (.sl tAS),.var (.sl tLk),.var (.sl tSg),.var (.sl tSg),.var ti,.var (.sl tRs),.var (.sl tUs),.var ti,.var (.sl ti),.var (.sl tFy),.var (.sl tFl),.var (.sl tIb),.var ti]
def ag13:ST:= .agg [.var (.sl tSg),.var (.sl tSg)]
def ag14:ST:= .agg [.var ti,.var ti,.var ti,.row 0]
def ag15:ST:= .agg [.row 0]
def ag16:ST:= .agg [.var ti,.var ti,.var ti,.var ti,.row 0,.row 1,.var ti,.var ti,.row 2]
def ag17:ST:= .agg [.var ti,.var ti,.var ti,.var ti,.var ti,.var (.sl tPp),.var ti,.var ti,.var ti,.var ti,.var ti,.var (.sl tb)]
def ag18:ST:= .agg [.var ti,.row 0,.row 1]
def ag19:ST:= .agg [.row 0,.row 1]
def ag20:ST:= .agg [.var (.sl tb)]
def ag21:ST:= .agg [.var ti,.var .bool,.var ti]
def ag22:ST:= .agg [.var ti,.var ti,.var ti,.var ti]
def ag23:ST:= .agg [.var ti,.var ti,.var ti,.var ti,.var ti,.row 0,.var ti,.var ti,.var ti,.var ti,.var ti,.row 1]
def ag24:ST:= .agg [.row 0,.row 1,.row 2,.row 3,.var ti,.row 4,.row 5,.var ti,.row 6,.row 7,.row 8,.row 9,.var ti]
def ag25:ST:= .agg [.var ti,.var ti,.row 0]
def ag26:ST:= .agg [.var ti,.var ti,.var (.sl tb),.var ti,.var ti,.var ti,.var ti,.var ti,.var (.sl tPp),.var ti,.var ti,.var ti,.var ti,.var ti,.var (.sl tb)]
def ag27:ST:= .agg [.row 1000000,.row 1000001]
def vr1:ST:= .one (.var ti)
def vr2:ST:= .one (.var .bool)
def vr3:ST:= .one (.row 0)
def vr4:ST:= .one (.var (.sl ti))
def vr5:ST:= .one (.var (.sl tb))
def vr6:ST:= .one (.row 300001)
def vr7:ST:= .one (.ptr 1000000 0)
def vr8:ST:= .one (.row 7)
def vr9:ST:= .one (.row 6)
def vr10:ST:= .one (.var (.sl tRs))
def vr11:ST:= .one (.row 1000000)
def vr12:ST:= .one (.var (.sl tPt))
def vr13:ST:= .one (.var (.sl tRv))
def vr14:ST:= .one (.row 1624)
def vr15:ST:= .one (.var (.sl tHop))
def vr16:ST:= .one (.row 10)
def vr17:ST:= .one (.row 15)
def vr18:ST:= .one (.var (.sl tMs))
def vr19:ST:= .one (.var (.sl tIb))
def vr20:ST:= .one (.var (.sl tSg))
def vr21:ST:= .one (.var (.sl tUs))
def vr22:ST:= .one (.var (.sl tFy))
def vr23:ST:= .one (.var (.sl tFl))
def vr24:ST:= .one (.row 5)
def vr25:ST:= .one (.ptr 11 0)
def vr26:ST:= .one (.var (.sl tAS))
def vr27:ST:= .one (.var (.sl tLk))
def vr28:ST:= .one (.var (.sl tPp))
def vr29:ST:= .one (.row 14)
def vr30:ST:= .one (.ptr 7 0)
def vr31:ST:= .one (.ptr 8 0)
def vr32:ST:= .one (.ptr 13 0)
def vr33:ST:= .one (.ptr 6 0)
def e1:Nat×ST:=(1,vr1)
def e2:Nat×ST:=(0,vr1)
def e3:Nat×ST:=(0,vr2)
def e4:Nat×ST:=(5,vr1)
def e5:Nat×ST:=(2,vr1)
def e6:Nat×ST:=(0,vr3)
def e7:Nat×ST:=(4,vr1)
def e8:Nat×ST:=(0,ag2)
def e9:Nat×ST:=(3,vr1)
def e10:Nat×ST:=(4,vr2)
def e11:Nat×ST:=(0,ag3)
def e12:Nat×ST:=(0,ag1)
def e13:Nat×ST:=(2,vr2)
def e14:Nat×ST:=(0,vr5)
def e15:Nat×ST:=(3,vr6)
def e16:Nat×ST:=(0,ag7)
def e17:Nat×ST:=(0,ag4)
def e18:Nat×ST:=(0,vr7)
def e19:Nat×ST:=(0,ag9)
def e20:Nat×ST:=(0,ag5)
def e21:Nat×ST:=(0,ag8)
def e22:Nat×ST:=(9,vr1)
def e23:Nat×ST:=(0,vr10)
def e24:Nat×ST:=(0,ag6)
def e25:Nat×ST:=(0,vr11)
def e26:Nat×ST:=(3,vr9)
def e27:Nat×ST:=(0,vr4)
def e28:Nat×ST:=(1,ag1)
def e29:Nat×ST:=(5,vr8)
def e30:Nat×ST:=(7,vr1)
def e31:Nat×ST:=(8,vr1)
def e32:Nat×ST:=(0,ag10)
def e33:Nat×ST:=(1,ag3)
def e34:Nat×ST:=(6,vr1)
def e35:Nat×ST:=(9,vr14)
def e36:Nat×ST:=(0,ag12)
def e37:Nat×ST:=(0,vr13)
def e38:Nat×ST:=(12,vr2)
def e39:Nat×ST:=(0,vr12)
def e40:Nat×ST:=(0,ag14)
def e41:Nat×ST:=(1,vr2)
def e42:Nat×ST:=(0,ag13)
def e43:Nat×ST:=(0,ag15)
def e44:Nat×ST:=(0,ag11)
def e45:Nat×ST:=(0,ag16)
def e46:Nat×ST:=(34,vr2)
def e47:Nat×ST:=(0,vr15)
def e48:Nat×ST:=(6,vr2)
def e49:Nat×ST:=(10,vr1)
def e50:Nat×ST:=(0,vr18)
def e51:Nat×ST:=(0,vr19)
def e52:Nat×ST:=(0,ag18)
def e53:Nat×ST:=(1,vr4)
def e54:Nat×ST:=(1,ag11)
def e55:Nat×ST:=(5,vr4)
def e56:Nat×ST:=(0,vr20)
def e57:Nat×ST:=(0,ag17)
def e58:Nat×ST:=(3,vr24)
def e59:Nat×ST:=(13,vr1)
def e60:Nat×ST:=(15,vr1)
def e61:Nat×ST:=(11,vr25)
def e62:Nat×ST:=(7,vr17)
def e63:Nat×ST:=(7,vr16)
def e64:Nat×ST:=(7,.one (.row 29))
def e65:Nat×ST:=(7,.one (.row 9))
def o1:Nat×OT:=(1,ow1)
def o2:Nat×OT:=(0,ow2)
def o3:Nat×OT:=(1000000,ob1)
def o4:Nat×OT:=(2,ow5)
def o5:Nat×OT:=(0,ow4)
def o6:Nat×OT:=(1,ow7)
def o7:Nat×OT:=(0,ow8)
def o8:Nat×OT:=(300001,ow4)
def o9:Nat×OT:=(300002,ow1)
def o10:Nat×OT:=(1624,ow3)
def o11:Nat×OT:=(0,ow6)
def o12:Nat×OT:=(300001,ow2)
def o13:Nat×OT:=(300003,ow5)
def o14:Nat×OT:=(0,ow13)
def o15:Nat×OT:=(0,ow10)
def o16:Nat×OT:=(1,ow3)
def o17:Nat×OT:=(3,ob2)
def o18:Nat×OT:=(300001,ow6)
def o19:Nat×OT:=(1000000,ob3)
def o20:Nat×OT:=(15,ow3)
def o21:Nat×OT:=(2,ow11)
def o22:Nat×OT:=(0,ow17)
def o23:Nat×OT:=(6,ow6)
def o24:Nat×OT:=(7,ow14)
def o25:Nat×OT:=(7,ow10)
def o26:Nat×OT:=(7,ow6)
def o27:Nat×OT:=(1,ow18)
def o28:Nat×OT:=(0,ow9)
def o29:Nat×OT:=(1,ow12)
def o30:Nat×OT:=(0,ow7)
def o31:Nat×OT:=(0,ow3)
def o32:Nat×OT:=(10,ow16)
def o33:Nat×OT:=(300001,ow13)
def o34:Nat×OT:=(10,ow3)
def o35:Nat×OT:=(300001,ow16)
def k0:Nat×ST:=(0,.keep)
def k1:Nat×ST:=(1,.keep)
def k2:Nat×ST:=(2,.keep)
def k3:Nat×ST:=(3,.keep)
def k4:Nat×ST:=(4,.keep)
def k5:Nat×ST:=(5,.keep)
def k6:Nat×ST:=(6,.keep)
def k7:Nat×ST:=(7,.keep)
def k8:Nat×ST:=(8,.keep)
def k9:Nat×ST:=(9,.keep)
def k10:Nat×ST:=(10,.keep)
def k11:Nat×ST:=(11,.keep)
def k12:Nat×ST:=(12,.keep)
def k13:Nat×ST:=(13,.keep)
def k14:Nat×ST:=(14,.keep)
def k15:Nat×ST:=(15,.keep)
def k16:Nat×ST:=(16,.keep)
def k17:Nat×ST:=(17,.keep)
def k18:Nat×ST:=(18,.keep)
def k19:Nat×ST:=(19,.keep)
def k20:Nat×ST:=(20,.keep)
def k21:Nat×ST:=(21,.keep)
def k22:Nat×ST:=(22,.keep)
def k23:Nat×ST:=(23,.keep)
def k31:Nat×ST:=(31,.keep)
def k32:Nat×ST:=(32,.keep)
def k33:Nat×ST:=(33,.keep)
def k35:Nat×ST:=(35,.keep)
def k36:Nat×ST:=(36,.keep)
def k37:Nat×ST:=(37,.keep)
def k38:Nat×ST:=(38,.keep)
def k39:Nat×ST:=(39,.keep)
def k49:Nat×ST:=(49,.keep)
def k50:Nat×ST:=(50,.keep)
def k51:Nat×ST:=(51,.keep)
def k52:Nat×ST:=(52,.keep)
def k53:Nat×ST:=(53,.keep)
def k56:Nat×ST:=(56,.keep)
def k57:Nat×ST:=(57,.keep)
def k58:Nat×ST:=(58,.keep)
def k64:Nat×ST:=(64,.keep)
def k65:Nat×ST:=(65,.keep)
def k66:Nat×ST:=(66,.keep)
def k67:Nat×ST:=(67,.keep)
def k87:Nat×ST:=(87,.keep)
def k88:Nat×ST:=(88,.keep)
def k101:Nat×ST:=(101,.keep)
def k102:Nat×ST:=(102,.keep)
def k103:Nat×ST:=(103,.keep)
def k149:Nat×ST:=(149,.keep)
def k150:Nat×ST:=(150,.keep)
def k151:Nat×ST:=(151,.keep)
def j0:Nat×OT:=(0,.keep)
def j1:Nat×OT:=(1,.keep)
def j2:Nat×OT:=(2,.keep)
def j3:Nat×OT:=(3,.keep)
def j4:Nat×OT:=(4,.keep)
def j5:Nat×OT:=(5,.keep)
def j6:Nat×OT:=(6,.keep)
def j7:Nat×OT:=(7,.keep)
def j8:Nat×OT:=(8,.keep)
def j9:Nat×OT:=(9,.keep)
def j10:Nat×OT:=(10,.keep)
def j11:Nat×OT:=(11,.keep)
def j12:Nat×OT:=(12,.keep)
def j14:Nat×OT:=(14,.keep)
def j15:Nat×OT:=(15,.keep)
def j16:Nat×OT:=(16,.keep)
def j19:Nat×OT:=(19,.keep)
def j26:Nat×OT:=(26,.keep)
def j29:Nat×OT:=(29,.keep)
def j1080:Nat×OT:=(1080,.keep)
def j1081:Nat×OT:=(1081,.keep)
def j1082:Nat×OT:=(1082,.keep)
def j1112:Nat×OT:=(1112,.keep)
def j1113:Nat×OT:=(1113,.keep)
def j1114:Nat×OT:=(1114,.keep)
def j1115:Nat×OT:=(1115,.keep)
def j1116:Nat×OT:=(1116,.keep)
def j1117:Nat×OT:=(1117,.keep)
def j1118:Nat×OT:=(1118,.keep)
def j1119:Nat×OT:=(1119,.keep)
def j1120:Nat×OT:=(1120,.keep)
def j1121:Nat×OT:=(1121,.keep)
def j1128:Nat×OT:=(1128,.keep)
def j1144:Nat×OT:=(1144,.keep)
def j1145:Nat×OT:=(1145,.keep)
def j1146:Nat×OT:=(1146,.keep)
def j1160:Nat×OT:=(1160,.keep)
def j1176:Nat×OT:=(1176,.keep)
def j1177:Nat×OT:=(1177,.keep)
def j1178:Nat×OT:=(1178,.keep)
def j1192:Nat×OT:=(1192,.keep)
def j1193:Nat×OT:=(1193,.keep)
def j1208:Nat×OT:=(1208,.keep)
def j1209:Nat×OT:=(1209,.keep)
def j1224:Nat×OT:=(1224,.keep)
def j1272:Nat×OT:=(1272,.keep)
def j1273:Nat×OT:=(1273,.keep)
def j1288:Nat×OT:=(1288,.keep)
def j1304:Nat×OT:=(1304,.keep)
def j1336:Nat×OT:=(1336,.keep)
def j1337:Nat×OT:=(1337,.keep)
def j1338:Nat×OT:=(1338,.keep)
def j1368:Nat×OT:=(1368,.keep)
def j1400:Nat×OT:=(1400,.keep)
def j1401:Nat×OT:=(1401,.keep)
def j1416:Nat×OT:=(1416,.keep)
def j1417:Nat×OT:=(1417,.keep)
def j1418:Nat×OT:=(1418,.keep)
def j1419:Nat×OT:=(1419,.keep)
def j1420:Nat×OT:=(1420,.keep)
def j1421:Nat×OT:=(1421,.keep)
def j1422:Nat×OT:=(1422,.keep)
def j1423:Nat×OT:=(1423,.keep)
def j1424:Nat×OT:=(1424,.keep)
def j1425:Nat×OT:=(1425,.keep)
def j1528:Nat×OT:=(1528,.keep)
def j1529:Nat×OT:=(1529,.keep)
def j1530:Nat×OT:=(1530,.keep)
def j1560:Nat×OT:=(1560,.keep)
def j1561:Nat×OT:=(1561,.keep)
def j1592:Nat×OT:=(1592,.keep)
def j1593:Nat×OT:=(1593,.keep)
def j1624:Nat×OT:=(1624,.keep)
def j1672:Nat×OT:=(1672,.keep)
def j1720:Nat×OT:=(1720,.keep)
def j1736:Nat×OT:=(1736,.keep)
def j1787:Nat×OT:=(1787,.keep)
def j1788:Nat×OT:=(1788,.keep)
def j2152:Nat×OT:=(2152,.keep)
def j2153:Nat×OT:=(2153,.keep)
def j300001:Nat×OT:=(300001,.keep)
def j300002:Nat×OT:=(300002,.keep)
def j300003:Nat×OT:=(300003,.keep)
def j1000000:Nat×OT:=(1000000,.keep)
def sh1:Sh:=⟨[e2],[]⟩
def sh2:Sh:=⟨[e3],[]⟩
def sh3:Sh:=⟨[],[]⟩
def sh4:Sh:=⟨[e1],[]⟩
def sh5:Sh:=⟨[k0,e1,e4],[]⟩
def sh6:Sh:=⟨[e10],[]⟩
def sh7:Sh:=⟨[e2,e1],[]⟩
def sh8:Sh:=⟨[e11],[]⟩
def sh9:Sh:=⟨[k0,k1,e4],[]⟩
def sh10:Sh:=⟨[e12],[]⟩
def sh11:Sh:=⟨[e13],[]⟩
def sh12:Sh:=⟨[],[o2,o1,o4,o3]⟩
def sh13:Sh:=⟨[e19],[o5,o6]⟩
def sh14:Sh:=⟨[k1],[j1]⟩
def sh15:Sh:=⟨[e17],[]⟩
def sh16:Sh:=⟨[e6],[o11]⟩
def sh17:Sh:=⟨[k0,k1,k5],[(1000000,.win 12 tFy)]⟩
def sh18:Sh:=⟨[e16],[]⟩
def sh19:Sh:=⟨[e24,e1],[]⟩
def sh20:Sh:=⟨[e27],[]⟩
def sh21:Sh:=⟨[e43],[o5]⟩
def sh22:Sh:=⟨[e14],[]⟩
def sh23:Sh:=⟨[k1,e9],[j1]⟩
def sh24:Sh:=⟨[e20],[]⟩
def sh25:Sh:=⟨[e6],[o31]⟩
def sh26:Sh:=⟨[e45],[o7,o16,o21]⟩
def sh27:Sh:=⟨[e48],[]⟩
def sh28:Sh:=⟨[e8,e1],[]⟩
def sh29:Sh:=⟨[e14,e1],[]⟩
def sh30:Sh:=⟨[e6],[o30]⟩
def sh31:Sh:=⟨[e39],[]⟩
def sh32:Sh:=⟨[e44],[]⟩
def sh33:Sh:=⟨[e36],[]⟩
def sh34:Sh:=⟨[e18,e1,e5,(3,ag1)],[o3,o2,o1,o4]⟩
def sh35:Sh:=⟨[e8,e1,e5],[]⟩
def sh36:Sh:=⟨[e32,e28],[]⟩
def sh37:Sh:=⟨[k2,k3,e4],[j2,j3]⟩
def sh38:Sh:=⟨[k0,k1,e38],[]⟩
def sh39:Sh:=⟨[k0,k1,k5],[(1000000,.win 9 tFl)]⟩
def sh40:Sh:=⟨[e21,e1],[]⟩
def sh41:Sh:=⟨[e27,e1],[]⟩
def sh42:Sh:=⟨[e36,e1],[]⟩
def sh43:Sh:=⟨[e8],[]⟩
def sh44:Sh:=⟨[e6],[o28]⟩
def sh45:Sh:=⟨[e52],[o15,o29]⟩
def sh46:Sh:=⟨[e24],[]⟩
def sh47:Sh:=⟨[e40],[o14]⟩
def sh48:Sh:=⟨[e32],[]⟩
def sh49:Sh:=⟨[e40],[o7]⟩
def sh50:Sh:=⟨[e19,e41],[o5,o6]⟩
def sh51:Sh:=⟨[e8,e33],[]⟩
def sh52:Sh:=⟨[e20,e1],[]⟩
def sh53:Sh:=⟨[e12,e1],[]⟩
def sh54:Sh:=⟨[e47],[]⟩
def sh55:Sh:=⟨[e6],[o15]⟩
def sh56:Sh:=⟨[e6],[(0,ow11)]⟩
def sh57:Sh:=⟨[(0,ag24)],[o22,o27,(2,ow9),(3,ow9),(4,ow10),(5,ow12),o23,o24,(8,ow15),(9,ow19)]⟩
def sh58:Sh:=⟨[e23,e1,e5,e9,e7],[]⟩
def sh59:Sh:=⟨[e18,e1,(2,ag1)],[o3,o2,o1,o4]⟩
def sh60:Sh:=⟨[e21,e1,e5,e9],[]⟩
def sh61:Sh:=⟨[e3],[o2,o1,o4,o3]⟩
def sh62:Sh:=⟨[e18,e1],[o3,o2,o1,o4]⟩
def sh63:Sh:=⟨[k2,k3],[j2,o17,o8]⟩
def sh64:Sh:=⟨[k0],[o12,o9,o13,o19]⟩
def sh65:Sh:=⟨[e42,e1],[]⟩
def sh66:Sh:=⟨[e23,e1],[]⟩
def sh67:Sh:=⟨[e37,e1],[]⟩
def sh68:Sh:=⟨[(0,ag19)],[o22,o27]⟩
def sh69:Sh:=⟨[e6],[o14]⟩
def sh70:Sh:=⟨[(0,ag25)],[o14]⟩
def sh71:Sh:=⟨[e56],[]⟩
def sh72:Sh:=⟨[e21],[]⟩
def sh73:Sh:=⟨[(0,ag23)],[o5,o6]⟩
def sh74:Sh:=⟨[e50],[]⟩
def sh75:Sh:=⟨[e6],[o7]⟩
def sh76:Sh:=⟨[e37],[]⟩
def sh77:Sh:=⟨[e17,e1,e5],[]⟩
def sh78:Sh:=⟨[e14,(1,vr5)],[]⟩
def sh79:Sh:=⟨[e8,(1,ag6)],[]⟩
def sh80:Sh:=⟨[e2,e53],[]⟩
def sh81:Sh:=⟨[e21,e1,e5,e9,e7],[]⟩
def sh82:Sh:=⟨[e20,(1,ag5)],[]⟩
def sh83:Sh:=⟨[e11,e33],[]⟩
def sh84:Sh:=⟨[e17,(1,ag4)],[]⟩
def sh85:Sh:=⟨[k1,k2,k3,e7],[j1,j2,o17,o8]⟩
def sh86:Sh:=⟨[(8,vr2)],[]⟩
def sh87:Sh:=⟨[k0,k1,k5],[(1000000,.win 5 tLk)]⟩
def sh88:Sh:=⟨[k0,k1,k5],[(1000000,.win 5 tHop)]⟩
def sh89:Sh:=⟨[k0,k1,k5],[(1000000,.win 5 tRs)]⟩
def sh90:Sh:=⟨[k0,e1,k5],[(1000000,.win 9 tFl)]⟩
def sh91:Sh:=⟨[(0,vr26),e1],[]⟩
def sh92:Sh:=⟨[(0,vr27),e1],[]⟩
def sh93:Sh:=⟨[(0,vr21),e1],[]⟩
def sh94:Sh:=⟨[(0,vr28),e1],[]⟩
def sh95:Sh:=⟨[(0,vr22),e1],[]⟩
def sh96:Sh:=⟨[(0,vr23),e1],[]⟩
def sh97:Sh:=⟨[(0,ag19)],[o28,(1,ow9)]⟩
def sh98:Sh:=⟨[e23,e1,e5,e9],[]⟩
def sh99:Sh:=⟨[e16,(1,ag10)],[]⟩
def sh100:Sh:=⟨[e2,e33,e5,e9,(4,vr5)],[]⟩
def sh101:Sh:=⟨[e2,e1,e5,(3,ag4)],[]⟩
def sh102:Sh:=⟨[e8,e1,e5,(3,ag4)],[]⟩
def sh103:Sh:=⟨[e8,e1,(2,ag1)],[]⟩
def sh104:Sh:=⟨[e8,e1,e5,e9,e7,(5,ag1)],[]⟩
def sh105:Sh:=⟨[e12,e1,e5,(3,vr5)],[]⟩
def sh106:Sh:=⟨[e6,e1,e13],[o11]⟩
def sh107:Sh:=⟨[e52,e41],[o15,o29]⟩
def sh108:Sh:=⟨[e8,e1,e5,e9,(4,ag1)],[]⟩
def sh109:Sh:=⟨[e57],[o2,o1,o4,o3]⟩
def sh110:Sh:=⟨[e47,(1,vr15)],[]⟩
def sh111:Sh:=⟨[e24,(1,ag6)],[]⟩
def sh112:Sh:=⟨[e18,(1,ag26)],[o3,o2,o1,o4]⟩
def sh113:Sh:=⟨[e50,(1,vr18)],[]⟩
def sh114:Sh:=⟨[k2],[(2,.box [.row 3,.row 7]),(3,ow17),(7,ow18)]⟩
def sh115:Sh:=⟨[k2,k3,(37,vr2)],[j2,j3]⟩
def sh116:Sh:=⟨[k0,k1,k2,e30],[]⟩
def sh117:Sh:=⟨[k1,(54,vr2)],[j1]⟩
def sh118:Sh:=⟨[k1,k2,(5,vr6),k6],[j2,o18]⟩
def sh119:Sh:=⟨[k1,e58,e7],[j1,(5,ow6)]⟩
def sh120:Sh:=⟨[k9,(30,vr2)],[j9]⟩
def sh121:Sh:=⟨[k2,k3,(31,vr2)],[j2,j3]⟩
def sh122:Sh:=⟨[e26,k4,k5],[o23,j1128]⟩
def sh123:Sh:=⟨[k4,k5],[j4,(5,ob10),(1112,ow8)]⟩
def sh124:Sh:=⟨[k3,k4,(16,vr2)],[j3,j4]⟩
def sh125:Sh:=⟨[k4,k5],[j4,(5,ob12),j1112,j1113,j1114]⟩
def sh126:Sh:=⟨[k2,k4,(21,vr2)],[j2,j1160]⟩
def sh127:Sh:=⟨[k3,k6,k7,k8,(24,vr2)],[j3,j6,j7,j8,j1176,j1177,j1178]⟩
def sh128:Sh:=⟨[k3,k6,k7,k8,(42,vr2)],[j3,j6,j7,j8,j1176,j1177,j1178]⟩
def sh129:Sh:=⟨[k0,k1,k5,k6,(7,vr30)],[j0,j1,j2,j5,(7,ob13),(1544,ow8),j1000000]⟩
def sh130:Sh:=⟨[k0,k1,k5,e49],[j0,o1,j2,j5,j1000000]⟩
def sh131:Sh:=⟨[k0,k1,k5,k10],[j0,o1,j2,j5,j1000000]⟩
def sh132:Sh:=⟨[k0,k1,k5,k10,e61],[j0,j1,j2,j5,(11,ob14),(2312,ow8),(2313,ow3),(2314,ow11),j1000000]⟩
def sh133:Sh:=⟨[e1,(5,vr9)],[(6,ow7)]⟩
def sh134:Sh:=⟨[k0,k1,k7,(8,vr31)],[j0,j1,j2,j7,(8,ob15),(1560,ow4),(1561,ow7),j1000000]⟩
def sh135:Sh:=⟨[k0,k8,k9,k10,e61,e38],[j0,j1,j2,j8,(11,ob16),j1560,j1561,(2152,ow10),(2153,ow12),j1000000]⟩
def sh136:Sh:=⟨[k0,k8,k9,k10,k11,(83,vr2)],[j0,j1,j2,j8,j11,j1560,j1561,j2152,j2153,j1000000]⟩
def sh137:Sh:=⟨[],[o2,j1,j2,j2152,j2153,(1000000,ob17)]⟩
def sh138:Sh:=⟨[k0,k1,k7,(13,vr32)],[j0,j1,j2,j7,(13,ob18),(2904,ow4),(2905,ow7),j1000000]⟩
def sh139:Sh:=⟨[k4,k5],[j1,j2,j4,j5,(14,ow2),(1000000,ob19)]⟩
def sh140:Sh:=⟨[k1,k2,k3,e62],[j3,o20]⟩
def sh141:Sh:=⟨[k0,k3,k4,e4],[j300001]⟩
def sh142:Sh:=⟨[],[o2,j1,j2,o3]⟩
def sh143:Sh:=⟨[k0,k1,e7],[o12,o9,o13,o19]⟩
def sh144:Sh:=⟨[k4,k5],[j4,(5,ob3),o12,o9,o13]⟩
def sh145:Sh:=⟨[k1,k4,k5,(13,vr2)],[j4,j5,j1112,j1113,j1114,j1115,j1116,j1117,j1118,j1119,j1120,j1121]⟩
def sh146:Sh:=⟨[e1,(5,.one (.row 1112))],[(1112,ow7)]⟩
def sh147:Sh:=⟨[k0,k1,k7,(8,vr31),e22],[j0,j1,j2,j7,(8,ob22),j1000000]⟩
def sh148:Sh:=⟨[k0,k1,k7,k8,k9,(54,vr2)],[j0,j1,j2,j7,j8,j1000000]⟩
def sh149:Sh:=⟨[k0,k1,e61,e38],[j0,j1,j2,(11,ob23),(2584,ow4),(2585,ow7),j1000000]⟩
def sh150:Sh:=⟨[k0,k1,k7,k9,(116,vr2)],[j0,j1,j2,j7,j1000000]⟩
def sh151:Sh:=⟨[k0,k1,k7,(13,vr32)],[j0,j1,j2,j7,(13,ob24),(3176,ow4),(3177,ow7),j1000000]⟩
def sh152:Sh:=⟨[k0,e1,k5],[(1000000,.win 12 tFy)]⟩
def l_szASS.con:Con:=⟨105,sh91,sh1,false,fun x=>l_szASS x.1 x.2⟩
def l_szLinkS.con:Con:=⟨106,sh92,sh1,false,fun x=>l_szLinkS x.1 x.2⟩
def l_szTopology.con:Con:=⟨36,sh28,sh1,false,fun x=>l_szTopology (x.1,x.2.1) x.2.2⟩
def l_szHopS.con:Con:=⟨317,⟨[e47,e1],[]⟩,sh1,false,fun x=>l_szHopS x.1 x.2⟩
def l_szSegment.con:Con:=⟨210,sh52,sh1,false,fun x=>l_szSegment (x.1,x.2.1,x.2.2.1) x.2.2.2⟩
def l_szSegmentS.con:Con:=⟨107,⟨[e56,e1],[]⟩,sh1,false,fun x=>l_szSegmentS x.1 x.2⟩
def l_szSegmentDatabase.con:Con:=⟨37,sh65,sh1,false,fun x=>l_szSegmentDatabase (x.1,x.2.1) x.2.2⟩
def l_szReservationS.con:Con:=⟨108,sh66,sh1,false,fun x=>l_szReservationS x.1 x.2⟩
def l_szUsageS.con:Con:=⟨109,sh93,sh1,false,fun x=>l_szUsageS x.1 x.2⟩
def l_szScheduler.con:Con:=⟨38,sh40,sh1,false,fun x=>l_szScheduler (x.1,x.2.1,x.2.2.1) x.2.2.2⟩
def l_szIntS.con:Con:=⟨39,sh41,sh1,false,fun x=>l_szIntS x.1 x.2⟩
def l_szPathPart.con:Con:=⟨232,sh19,sh1,false,fun x=>l_szPathPart (x.1,x.2.1,x.2.2.1,x.2.2.2.1) x.2.2.2.2⟩
def l_szPathPartS.con:Con:=⟨138,sh94,sh1,false,fun x=>l_szPathPartS x.1 x.2⟩
def l_szPath.con:Con:=⟨71,⟨[e11,e1],[]⟩,sh1,false,fun x=>l_szPath x.1 x.2⟩
def l_szByteS.con:Con:=⟨72,sh29,sh1,false,fun x=>l_szByteS x.1 x.2⟩
def l_szPacket.con:Con:=⟨20,sh53,sh1,false,fun x=>l_szPacket (x.1,x.2.1,x.2.2.1,x.2.2.2.1,x.2.2.2.2.1,x.2.2.2.2.2.1,x.2.2.2.2.2.2.1,x.2.2.2.2.2.2.2.1,x.2.2.2.2.2.2.2.2.1,x.2.2.2.2.2.2.2.2.2.1) x.2.2.2.2.2.2.2.2.2.2⟩
def l_szPacketInFlight.con:Con:=⟨110,⟨[e57,e1],[]⟩,sh1,false,fun x=>l_szPacketInFlight (x.1,x.2.1,(x.2.2.1,x.2.2.2.1,x.2.2.2.2.1,x.2.2.2.2.2.1,x.2.2.2.2.2.2.1,x.2.2.2.2.2.2.2.1,x.2.2.2.2.2.2.2.2.1,x.2.2.2.2.2.2.2.2.2.1,x.2.2.2.2.2.2.2.2.2.2.1,x.2.2.2.2.2.2.2.2.2.2.2.1)) x.2.2.2.2.2.2.2.2.2.2.2.2⟩
def l_szPacketInFlightS.con:Con:=⟨40,sh95,sh1,false,fun x=>l_szPacketInFlightS x.1 x.2⟩
def l_szMessage.con:Con:=⟨112,⟨[(0,ag20),e1],[]⟩,sh1,false,fun x=>l_szMessage x.1 x.2⟩
def l_szMessageS.con:Con:=⟨43,⟨[e50,e1],[]⟩,sh1,false,fun x=>l_szMessageS x.1 x.2⟩
def l_szPathS.con:Con:=⟨44,⟨[e39,e1],[]⟩,sh1,false,fun x=>l_szPathS x.1 x.2⟩
def l_szRevocationS.con:Con:=⟨45,sh67,sh1,false,fun x=>l_szRevocationS x.1 x.2⟩
def l_szFlow.con:Con:=⟨11,⟨[e16,e1],[]⟩,sh1,false,fun x=>l_szFlow (x.1,x.2.1,x.2.2.1,x.2.2.2.1,x.2.2.2.2.1,x.2.2.2.2.2.1,x.2.2.2.2.2.2.1,x.2.2.2.2.2.2.2.1,x.2.2.2.2.2.2.2.2.1) x.2.2.2.2.2.2.2.2.2⟩
def l_szFlowS.con:Con:=⟨41,sh96,sh1,false,fun x=>l_szFlowS x.1 x.2⟩
def l_szInbox.con:Con:=⟨111,⟨[e32,e1],[]⟩,sh1,false,fun x=>l_szInbox (x.1,x.2.1,x.2.2.1,x.2.2.2.1) x.2.2.2.2⟩
def l_szInboxS.con:Con:=⟨42,⟨[e51,e1],[]⟩,sh1,false,fun x=>l_szInboxS x.1 x.2⟩
def l_szNetwork.con:Con:=⟨10,sh42,sh1,false,fun x=>l_szNetwork ((x.1,x.2.1),(x.2.2.1,x.2.2.2.1),(x.2.2.2.2.1,x.2.2.2.2.2.1,x.2.2.2.2.2.2.1),x.2.2.2.2.2.2.2.1,x.2.2.2.2.2.2.2.2.1,x.2.2.2.2.2.2.2.2.2.1,x.2.2.2.2.2.2.2.2.2.2.1,x.2.2.2.2.2.2.2.2.2.2.2.1,x.2.2.2.2.2.2.2.2.2.2.2.2.1) x.2.2.2.2.2.2.2.2.2.2.2.2.2⟩
def l_toAS.con:Con:=⟨214,⟨[(0,ag21)],[]⟩,⟨[(0,ag21)],[]⟩,false,fun x=>l_toAS (x.1,x.2.1,x.2.2)⟩
def l_toASS.con:Con:=⟨116,⟨[(0,vr26)],[]⟩,⟨[e6],[o22]⟩,false,fun x=>l_toASS x⟩
def l_toLink.con:Con:=⟨215,sh15,sh15,false,fun x=>l_toLink (x.1,x.2.1,x.2.2.1,x.2.2.2.1,x.2.2.2.2)⟩
def l_toLinkS.con:Con:=⟨117,⟨[(0,vr27)],[]⟩,⟨[e6],[(0,ow18)]⟩,false,fun x=>l_toLinkS x⟩
def l_toTopology.con:Con:=⟨48,sh43,sh68,false,fun x=>l_toTopology (x.1,x.2)⟩
def l_toHop.con:Con:=⟨386,sh15,sh15,false,fun x=>l_toHop (x.1,x.2.1,x.2.2.1,x.2.2.2.1,x.2.2.2.2)⟩
def l_toHopS.con:Con:=⟨322,sh54,sh69,false,fun x=>l_toHopS x⟩
def l_toSegment.con:Con:=⟨216,sh24,sh70,false,fun x=>l_toSegment (x.1,x.2.1,x.2.2)⟩
def l_toSegmentS.con:Con:=⟨118,sh71,sh44,false,fun x=>l_toSegmentS x⟩
def l_toSegmentDatabase.con:Con:=⟨49,⟨[e42],[]⟩,sh97,false,fun x=>l_toSegmentDatabase (x.1,x.2)⟩
def l_toReservation.con:Con:=⟨217,sh15,sh15,false,fun x=>l_toReservation (x.1,x.2.1,x.2.2.1,x.2.2.2.1,x.2.2.2.2)⟩
def l_toReservationS.con:Con:=⟨119,⟨[e23],[]⟩,sh55,false,fun x=>l_toReservationS x⟩
def l_toUsage.con:Con:=⟨218,⟨[(0,ag22)],[]⟩,⟨[(0,ag22)],[]⟩,false,fun x=>l_toUsage (x.1,x.2.1,x.2.2.1,x.2.2.2)⟩
def l_toUsageS.con:Con:=⟨120,⟨[(0,vr21)],[]⟩,⟨[e6],[(0,ow12)]⟩,false,fun x=>l_toUsageS x⟩
def l_toScheduler.con:Con:=⟨50,sh72,sh45,false,fun x=>l_toScheduler (x.1,x.2.1,x.2.2)⟩
def l_toIntS.con:Con:=⟨51,sh20,sh16,false,fun x=>l_toIntS x⟩
def l_toPathPart.con:Con:=⟨263,sh46,sh47,false,fun x=>l_toPathPart (x.1,x.2.1,x.2.2.1,x.2.2.2)⟩
def l_toPathPartS.con:Con:=⟨155,⟨[(0,vr28)],[]⟩,⟨[e6],[o5]⟩,false,fun x=>l_toPathPartS x⟩
def l_toPath.con:Con:=⟨75,sh8,sh21,false,fun x=>l_toPath x⟩
def l_toByteS.con:Con:=⟨76,sh22,sh30,false,fun x=>l_toByteS x⟩
def l_toPacket.con:Con:=⟨22,sh10,sh13,false,fun x=>l_toPacket (x.1,x.2.1,x.2.2.1,x.2.2.2.1,x.2.2.2.2.1,x.2.2.2.2.2.1,x.2.2.2.2.2.2.1,x.2.2.2.2.2.2.2.1,x.2.2.2.2.2.2.2.2.1,x.2.2.2.2.2.2.2.2.2)⟩
def l_toPacketInFlight.con:Con:=⟨121,⟨[e57],[]⟩,sh73,false,fun x=>l_toPacketInFlight (x.1,x.2.1,(x.2.2.1,x.2.2.2.1,x.2.2.2.2.1,x.2.2.2.2.2.1,x.2.2.2.2.2.2.1,x.2.2.2.2.2.2.2.1,x.2.2.2.2.2.2.2.2.1,x.2.2.2.2.2.2.2.2.2.1,x.2.2.2.2.2.2.2.2.2.2.1,x.2.2.2.2.2.2.2.2.2.2.2))⟩
def l_toPacketInFlightS.con:Con:=⟨52,⟨[(0,vr22)],[]⟩,⟨[e6],[(0,ow14)]⟩,false,fun x=>l_toPacketInFlightS x⟩
def l_toMessage.con:Con:=⟨123,⟨[(0,ag20)],[]⟩,⟨[e43],[o30]⟩,false,fun x=>l_toMessage x⟩
def l_toMessageS.con:Con:=⟨55,sh74,sh75,false,fun x=>l_toMessageS x⟩
def l_toPathS.con:Con:=⟨56,sh31,sh25,false,fun x=>l_toPathS x⟩
def l_toRevocation.con:Con:=⟨124,sh32,sh32,false,fun x=>l_toRevocation (x.1,x.2.1,x.2.2)⟩
def l_toRevocationS.con:Con:=⟨57,sh76,sh56,false,fun x=>l_toRevocationS x⟩
def l_toFlow.con:Con:=⟨14,sh18,sh26,false,fun x=>l_toFlow (x.1,x.2.1,x.2.2.1,x.2.2.2.1,x.2.2.2.2.1,x.2.2.2.2.2.1,x.2.2.2.2.2.2.1,x.2.2.2.2.2.2.2.1,x.2.2.2.2.2.2.2.2)⟩
def l_toFlowS.con:Con:=⟨53,⟨[(0,vr23)],[]⟩,⟨[e6],[(0,ow15)]⟩,false,fun x=>l_toFlowS x⟩
def l_toInbox.con:Con:=⟨122,sh48,sh49,false,fun x=>l_toInbox (x.1,x.2.1,x.2.2.1,x.2.2.2)⟩
def l_toInboxS.con:Con:=⟨54,⟨[e51],[]⟩,⟨[e6],[(0,ow19)]⟩,false,fun x=>l_toInboxS x⟩
def l_toNetwork.con:Con:=⟨13,sh33,sh57,false,fun x=>l_toNetwork ((x.1,x.2.1),(x.2.2.1,x.2.2.2.1),(x.2.2.2.2.1,x.2.2.2.2.2.1,x.2.2.2.2.2.2.1),x.2.2.2.2.2.2.2.1,x.2.2.2.2.2.2.2.2.1,x.2.2.2.2.2.2.2.2.2.1,x.2.2.2.2.2.2.2.2.2.2.1,x.2.2.2.2.2.2.2.2.2.2.2.1,x.2.2.2.2.2.2.2.2.2.2.2.2)⟩
def s_l37Topo.con:Con:=⟨139,sh43,sh68,false,fun x=>s_l37Topo (x.1,x.2)⟩
def s_l9Copy.con:Con:=⟨233,sh24,sh70,false,fun x=>s_l9Copy (x.1,x.2.1,x.2.2)⟩
def s_l16All.con:Con:=⟨140,sh71,sh44,false,fun x=>s_l16All x⟩
def s_l34Copy.con:Con:=⟨141,sh72,sh45,false,fun x=>s_l34Copy (x.1,x.2.1,x.2.2)⟩
def s_l21Copy.con:Con:=⟨261,sh46,sh47,false,fun x=>s_l21Copy (x.1,x.2.1,x.2.2.1,x.2.2.2)⟩
def s_l22Copy.con:Con:=⟨319,sh8,sh21,false,fun x=>s_l22Copy x⟩
def s_l26Copy.con:Con:=⟨234,sh10,sh13,false,fun x=>s_l26Copy (x.1,x.2.1,x.2.2.1,x.2.2.2.1,x.2.2.2.2.1,x.2.2.2.2.2.1,x.2.2.2.2.2.2.1,x.2.2.2.2.2.2.2.1,x.2.2.2.2.2.2.2.2.1,x.2.2.2.2.2.2.2.2.2)⟩
def s_l37Fly.con:Con:=⟨142,⟨[(0,vr22)],[]⟩,⟨[e6],[(0,ow14)]⟩,false,fun x=>s_l37Fly x⟩
def s_l35Texts.con:Con:=⟨328,sh74,sh75,false,fun x=>s_l35Texts x⟩
def s_l24Copy.con:Con:=⟨329,sh31,sh25,false,fun x=>s_l24Copy x⟩
def s_l35Copy.con:Con:=⟨235,sh18,sh26,false,fun x=>s_l35Copy (x.1,x.2.1,x.2.2.1,x.2.2.2.1,x.2.2.2.2.1,x.2.2.2.2.2.1,x.2.2.2.2.2.2.1,x.2.2.2.2.2.2.2.1,x.2.2.2.2.2.2.2.2)⟩
def s_l37Flows.con:Con:=⟨143,⟨[(0,vr23)],[]⟩,⟨[e6],[(0,ow15)]⟩,false,fun x=>s_l37Flows x⟩
def s_l36Copy.con:Con:=⟨236,sh48,sh49,false,fun x=>s_l36Copy (x.1,x.2.1,x.2.2.1,x.2.2.2)⟩
def s_l37Boxes.con:Con:=⟨144,⟨[e51],[]⟩,⟨[e6],[(0,ow19)]⟩,false,fun x=>s_l37Boxes x⟩
def s_l37Copy.con:Con:=⟨73,sh33,sh57,false,fun x=>s_l37Copy ((x.1,x.2.1),(x.2.2.1,x.2.2.2.1),(x.2.2.2.2.1,x.2.2.2.2.2.1,x.2.2.2.2.2.2.1),x.2.2.2.2.2.2.2.1,x.2.2.2.2.2.2.2.2.1,x.2.2.2.2.2.2.2.2.2.1,x.2.2.2.2.2.2.2.2.2.2.1,x.2.2.2.2.2.2.2.2.2.2.2.1,x.2.2.2.2.2.2.2.2.2.2.2.2)⟩
def s_l1In.con:Con:=⟨98,⟨[e2,e1,e5],[]⟩,sh2,false,fun x=>s_l1In x.1 x.2.1 x.2.2⟩
def s_ValidKey.con:Con:=⟨296,sh1,sh2,false,fun x=>s_ValidKey x⟩
def s_l5Realm.con:Con:=⟨196,sh28,sh2,false,fun x=>s_l5Realm (x.1,x.2.1) x.2.2⟩
def s_l5LinkOk.con:Con:=⟨297,⟨[e8,(1,ag4)],[]⟩,sh2,false,fun x=>s_l5LinkOk (x.1,x.2.1) (x.2.2.1,x.2.2.2.1,x.2.2.2.2.1,x.2.2.2.2.2.1,x.2.2.2.2.2.2)⟩
def s_l5Ends.con:Con:=⟨298,sh77,sh2,false,fun x=>s_l5Ends (x.1,x.2.1,x.2.2.1,x.2.2.2.1,x.2.2.2.2.1) x.2.2.2.2.2.1 x.2.2.2.2.2.2⟩
def s_ValidTopology.con:Con:=⟨193,sh43,sh2,false,fun x=>s_ValidTopology (x.1,x.2)⟩
def s_ValidRevocation.con:Con:=⟨301,sh32,sh2,false,fun x=>s_ValidRevocation (x.1,x.2.1,x.2.2)⟩
def s_ValidReservation.con:Con:=⟨369,sh15,sh2,false,fun x=>s_ValidReservation (x.1,x.2.1,x.2.2.1,x.2.2.2.1,x.2.2.2.2)⟩
def s_l32Without.con:Con:=⟨370,⟨[e23,(1,ag4)],[]⟩,sh55,false,fun x=>s_l32Without x.1 (x.2.1,x.2.2.1,x.2.2.2.1,x.2.2.2.2.1,x.2.2.2.2.2)⟩
def s_l32At.con:Con:=⟨344,⟨[e17,e1,e5,e9],[]⟩,sh2,false,fun x=>s_l32At (x.1,x.2.1,x.2.2.1,x.2.2.2.1,x.2.2.2.2.1) x.2.2.2.2.2.1 x.2.2.2.2.2.2.1 x.2.2.2.2.2.2.2⟩
def s_ReservedRate.con:Con:=⟨345,sh98,sh1,false,fun x=>s_ReservedRate x.1 x.2.1 x.2.2.1 x.2.2.2⟩
def s_ValidReservations.con:Con:=⟨299,⟨[e23,e1,e5],[]⟩,sh2,false,fun x=>s_ValidReservations x.1 x.2.1 x.2.2⟩
def s_ReservationRate.con:Con:=⟨256,sh58,sh1,false,fun x=>s_ReservationRate x.1 x.2.1 x.2.2.1 x.2.2.2.1 x.2.2.2.2⟩
def s_Max.con:Con:=⟨113,sh7,sh1,false,fun x=>s_Max x.1 x.2⟩
def s_FreeRate.con:Con:=⟨258,sh58,sh1,false,fun x=>s_FreeRate x.1 x.2.1 x.2.2.1 x.2.2.2.1 x.2.2.2.2⟩
def s_l34Place.con:Con:=⟨300,⟨[(0,vr21),e1,e5,e9],[]⟩,sh1,false,fun x=>s_l34Place x.1 x.2.1 x.2.2.1 x.2.2.2⟩
def s_ValidScheduler.con:Con:=⟨194,sh40,sh2,false,fun x=>s_ValidScheduler (x.1,x.2.1,x.2.2.1) x.2.2.2⟩
def s_l37Dead.con:Con:=⟨195,sh33,sh2,false,fun x=>s_l37Dead ((x.1,x.2.1),(x.2.2.1,x.2.2.2.1),(x.2.2.2.2.1,x.2.2.2.2.2.1,x.2.2.2.2.2.2.1),x.2.2.2.2.2.2.2.1,x.2.2.2.2.2.2.2.2.1,x.2.2.2.2.2.2.2.2.2.1,x.2.2.2.2.2.2.2.2.2.2.1,x.2.2.2.2.2.2.2.2.2.2.2.1,x.2.2.2.2.2.2.2.2.2.2.2.2)⟩
def s_ValidFlow.con:Con:=⟨197,sh18,sh2,false,fun x=>s_ValidFlow (x.1,x.2.1,x.2.2.1,x.2.2.2.1,x.2.2.2.2.1,x.2.2.2.2.2.1,x.2.2.2.2.2.2.1,x.2.2.2.2.2.2.2.1,x.2.2.2.2.2.2.2.2)⟩
def s_ValidInbox.con:Con:=⟨198,sh48,sh2,false,fun x=>s_ValidInbox (x.1,x.2.1,x.2.2.1,x.2.2.2)⟩
def s_EqualBytes.con:Con:=⟨302,sh78,sh2,false,fun x=>s_EqualBytes x.1 x.2⟩
def s_ConsistentWith.con:Con:=⟨199,sh99,sh2,false,fun x=>s_ConsistentWith (x.1,x.2.1,x.2.2.1,x.2.2.2.1,x.2.2.2.2.1,x.2.2.2.2.2.1,x.2.2.2.2.2.2.1,x.2.2.2.2.2.2.2.1,x.2.2.2.2.2.2.2.2.1) (x.2.2.2.2.2.2.2.2.2.1,x.2.2.2.2.2.2.2.2.2.2.1,x.2.2.2.2.2.2.2.2.2.2.2.1,x.2.2.2.2.2.2.2.2.2.2.2.2)⟩
def s_FindInbox.con:Con:=⟨200,⟨[e51,e1,e5],[]⟩,sh1,false,fun x=>s_FindInbox x.1 x.2.1 x.2.2⟩
def s_ValidNetwork.con:Con:=⟨97,sh33,sh2,false,fun x=>s_ValidNetwork ((x.1,x.2.1),(x.2.2.1,x.2.2.2.1),(x.2.2.2.2.1,x.2.2.2.2.2.1,x.2.2.2.2.2.2.1),x.2.2.2.2.2.2.2.1,x.2.2.2.2.2.2.2.2.1,x.2.2.2.2.2.2.2.2.2.1,x.2.2.2.2.2.2.2.2.2.2.1,x.2.2.2.2.2.2.2.2.2.2.2.1,x.2.2.2.2.2.2.2.2.2.2.2.2)⟩
def s_ActiveReservations.con:Con:=⟨403,sh66,sh55,false,fun x=>s_ActiveReservations x.1 x.2⟩
def s_BeginTick.con:Con:=⟨371,sh40,sh45,false,fun x=>s_BeginTick (x.1,x.2.1,x.2.2.1) x.2.2.2⟩
def s_IsReversed.con:Con:=⟨334,sh1,sh2,false,fun x=>s_IsReversed x⟩
def s_PartIngress.con:Con:=⟨241,sh19,sh1,false,fun x=>s_PartIngress (x.1,x.2.1,x.2.2.1,x.2.2.2.1) x.2.2.2.2⟩
def s_PartEgress.con:Con:=⟨245,sh19,sh1,false,fun x=>s_PartEgress (x.1,x.2.1,x.2.2.1,x.2.2.2.1) x.2.2.2.2⟩
def s_PathSteps.con:Con:=⟨152,sh8,⟨[e6],[(0,ow16)]⟩,false,fun x=>s_PathSteps x⟩
def s_Endpoints.con:Con:=⟨318,sh8,sh7,false,fun x=>s_Endpoints x⟩
def s_NewPacket.con:Con:=⟨212,sh100,sh13,false,fun x=>s_NewPacket x.1 x.2.1 x.2.2.1 x.2.2.2.1 x.2.2.2.2⟩
def s_NextTransmission.con:Con:=⟨404,sh18,sh50,false,fun x=>s_NextTransmission (x.1,x.2.1,x.2.2.1,x.2.2.2.1,x.2.2.2.2.1,x.2.2.2.2.2.1,x.2.2.2.2.2.2.1,x.2.2.2.2.2.2.2.1,x.2.2.2.2.2.2.2.2)⟩
def s_l35Turn.con:Con:=⟨349,sh18,sh26,false,fun x=>s_l35Turn (x.1,x.2.1,x.2.2.1,x.2.2.2.1,x.2.2.2.2.1,x.2.2.2.2.2.1,x.2.2.2.2.2.2.1,x.2.2.2.2.2.2.2.1,x.2.2.2.2.2.2.2.2)⟩
def s_TickFlow.con:Con:=⟨372,sh18,⟨[e45,(1,.agg [.var ti,.var ti,.var ti,.row 3,.var ti,.var ti,.var ti,.var ti,.var ti,.row 4]),e13],[o7,o16,o21,(3,ow4),(4,ow7)]⟩,false,fun x=>s_TickFlow (x.1,x.2.1,x.2.2.1,x.2.2.2.1,x.2.2.2.2.1,x.2.2.2.2.2.1,x.2.2.2.2.2.2.1,x.2.2.2.2.2.2.2.1,x.2.2.2.2.2.2.2.2)⟩
def s_l37Arrive'0.con:Con:=⟨74,sh34,sh12,false,fun x=>s_l37Arrive'0 ((x.2.2.2.2.2.2.2.2.2.2.2.2.1,x.2.2.2.2.2.2.2.2.2.2.2.2.2.1),(x.2.2.2.2.2.2.2.2.2.2.2.2.2.2.1,x.2.2.2.2.2.2.2.2.2.2.2.2.2.2.2.1),(x.2.2.2.2.2.2.2.2.2.2.2.2.2.2.2.2.1,x.2.2.2.2.2.2.2.2.2.2.2.2.2.2.2.2.2.1,x.2.2.2.2.2.2.2.2.2.2.2.2.2.2.2.2.2.2.1),x.2.2.2.2.2.2.2.2.2.2.2.2.2.2.2.2.2.2.2.1,x.2.2.2.2.2.2.2.2.2.2.2.2.2.2.2.2.2.2.2.2.1,x.2.2.2.2.2.2.2.2.2.2.2.2.2.2.2.2.2.2.2.2.2.2.1,x.2.2.2.2.2.2.2.2.2.2.2.2.2.2.2.2.2.2.2.2.2.2.2.1,x.2.2.2.2.2.2.2.2.2.2.2.2.2.2.2.2.2.2.2.2.2.2.2.2,x.2.2.2.2.2.2.2.2.2.2.2.2.2.2.2.2.2.2.2.2.2.1) x.1 x.2.1 (x.2.2.1,x.2.2.2.1,x.2.2.2.2.1,x.2.2.2.2.2.1,x.2.2.2.2.2.2.1,x.2.2.2.2.2.2.2.1,x.2.2.2.2.2.2.2.2.1,x.2.2.2.2.2.2.2.2.2.1,x.2.2.2.2.2.2.2.2.2.2.1,x.2.2.2.2.2.2.2.2.2.2.2.1)⟩
def s_l5Put'r.con:Con:=⟨341,⟨[e6,e1],[(0,.row 3 1 ti false)]⟩,sh16,false,fun x=>s_l5Put'r x.2 x.1⟩
def s_Interfaces.con:Con:=⟨248,sh28,sh16,false,fun x=>s_Interfaces (x.1,x.2.1) x.2.2⟩
def s_LinkIndex.con:Con:=⟨250,sh35,sh1,false,fun x=>s_LinkIndex (x.1,x.2.1) x.2.2.1 x.2.2.2⟩
def s_l9Has.con:Con:=⟨249,sh41,sh2,false,fun x=>s_l9Has x.1 x.2⟩
def s_ValidSet.con:Con:=⟨339,sh1,sh2,false,fun x=>s_ValidSet x⟩
def s_l4One.con:Con:=⟨340,sh1,sh2,false,fun x=>s_l4One x⟩
def s_AddElement.con:Con:=⟨251,sh7,sh1,false,fun x=>s_AddElement x.1 x.2⟩
def s_FailedInterfaces.con:Con:=⟨146,⟨[e8,e53,e5],[]⟩,sh1,false,fun x=>s_FailedInterfaces (x.1,x.2.1) x.2.2.1 x.2.2.2⟩
def s_l3Ok.con:Con:=⟨331,sh1,sh2,false,fun x=>s_l3Ok x⟩
def s_ValidHop.con:Con:=⟨410,sh15,sh2,false,fun x=>s_ValidHop (x.1,x.2.1,x.2.2.1,x.2.2.2.1,x.2.2.2.2)⟩
def s_Encodable.con:Con:=⟨388,sh24,sh2,false,fun x=>s_Encodable (x.1,x.2.1,x.2.2)⟩
def s_EncodablePath.con:Con:=⟨330,sh8,sh2,false,fun x=>s_EncodablePath x⟩
def s_ValidPacket.con:Con:=⟨237,sh10,sh2,false,fun x=>s_ValidPacket (x.1,x.2.1,x.2.2.1,x.2.2.2.1,x.2.2.2.2.1,x.2.2.2.2.2.1,x.2.2.2.2.2.2.1,x.2.2.2.2.2.2.2.1,x.2.2.2.2.2.2.2.2.1,x.2.2.2.2.2.2.2.2.2)⟩
def s_l21Realms.con:Con:=⟨411,sh46,sh16,false,fun x=>s_l21Realms (x.1,x.2.1,x.2.2.1,x.2.2.2)⟩
def s_RemoteEnd.con:Con:=⟨148,sh35,sh7,false,fun x=>s_RemoteEnd (x.1,x.2.1) x.2.2.1 x.2.2.2⟩
def s_ValidPart.con:Con:=⟨389,sh79,sh2,false,fun x=>s_ValidPart (x.1,x.2.1) (x.2.2.1,x.2.2.2.1,x.2.2.2.2.1,x.2.2.2.2.2)⟩
def s_l22Rank.con:Con:=⟨390,sh1,sh1,false,fun x=>s_l22Rank x⟩
def s_WellFormedPath.con:Con:=⟨332,sh51,sh2,false,fun x=>s_WellFormedPath (x.1,x.2.1) x.2.2⟩
def s_InterfacesUsed.con:Con:=⟨333,sh8,sh16,false,fun x=>s_InterfacesUsed x⟩
def s_SimplePath.con:Con:=⟨238,sh51,sh2,false,fun x=>s_SimplePath (x.1,x.2.1) x.2.2⟩
def s_CurrentAS.con:Con:=⟨239,sh10,sh1,false,fun x=>s_CurrentAS (x.1,x.2.1,x.2.2.1,x.2.2.2.1,x.2.2.2.2.1,x.2.2.2.2.2.1,x.2.2.2.2.2.2.1,x.2.2.2.2.2.2.2.1,x.2.2.2.2.2.2.2.2.1,x.2.2.2.2.2.2.2.2.2)⟩
def s_l28No.con:Con:=⟨240,⟨[e2,e28],[]⟩,sh73,false,fun x=>s_l28No x.1 (x.2.1,x.2.2.1,x.2.2.2.1,x.2.2.2.2.1,x.2.2.2.2.2.1,x.2.2.2.2.2.2.1,x.2.2.2.2.2.2.2.1,x.2.2.2.2.2.2.2.2.1,x.2.2.2.2.2.2.2.2.2.1,x.2.2.2.2.2.2.2.2.2.2)⟩
def s_SubMod.con:Con:=⟨384,sh7,sh1,false,fun x=>s_SubMod x.1 x.2⟩
def s_Mod.con:Con:=⟨448,sh7,sh1,false,fun x=>s_Mod x.1 x.2⟩
def s_Digest.con:Con:=⟨442,sh20,sh1,false,fun x=>s_Digest x⟩
def s_ComputeMAC.con:Con:=⟨428,sh80,sh1,false,fun x=>s_ComputeMAC x.1 x.2⟩
def s_HopMAC.con:Con:=⟨412,sh101,sh1,false,fun x=>s_HopMAC x.1 x.2.1 x.2.2.1 (x.2.2.2.1,x.2.2.2.2.1,x.2.2.2.2.2.1,x.2.2.2.2.2.2.1,x.2.2.2.2.2.2.2)⟩
def s_VerifyHop.con:Con:=⟨391,sh102,sh2,false,fun x=>s_VerifyHop (x.1,x.2.1) x.2.2.1 x.2.2.2.1 (x.2.2.2.2.1,x.2.2.2.2.2.1,x.2.2.2.2.2.2.1,x.2.2.2.2.2.2.2.1,x.2.2.2.2.2.2.2.2)⟩
def s_AddMod.con:Con:=⟨385,sh7,sh1,false,fun x=>s_AddMod x.1 x.2⟩
def s_VerifyCurrentHop.con:Con:=⟨335,⟨[e8,e28],[]⟩,sh50,false,fun x=>s_VerifyCurrentHop (x.1,x.2.1) (x.2.2.1,x.2.2.2.1,x.2.2.2.2.1,x.2.2.2.2.2.1,x.2.2.2.2.2.2.1,x.2.2.2.2.2.2.2.1,x.2.2.2.2.2.2.2.2.1,x.2.2.2.2.2.2.2.2.2.1,x.2.2.2.2.2.2.2.2.2.2.1,x.2.2.2.2.2.2.2.2.2.2.2)⟩
def s_HopValidAt.con:Con:=⟨392,⟨[e17,e1],[]⟩,sh2,false,fun x=>s_HopValidAt (x.1,x.2.1,x.2.2.1,x.2.2.2.1,x.2.2.2.2.1) x.2.2.2.2.2⟩
def s_CurrentHopValid.con:Con:=⟨336,sh53,sh2,false,fun x=>s_CurrentHopValid (x.1,x.2.1,x.2.2.1,x.2.2.2.1,x.2.2.2.2.1,x.2.2.2.2.2.1,x.2.2.2.2.2.2.1,x.2.2.2.2.2.2.2.1,x.2.2.2.2.2.2.2.2.1,x.2.2.2.2.2.2.2.2.2.1) x.2.2.2.2.2.2.2.2.2.2⟩
def s_l28Check.con:Con:=⟨242,sh103,⟨[e19,e1],[o5,o6]⟩,false,fun x=>s_l28Check (x.1,x.2.1) x.2.2.1 (x.2.2.2.1,x.2.2.2.2.1,x.2.2.2.2.2.1,x.2.2.2.2.2.2.1,x.2.2.2.2.2.2.2.1,x.2.2.2.2.2.2.2.2.1,x.2.2.2.2.2.2.2.2.2.1,x.2.2.2.2.2.2.2.2.2.2.1,x.2.2.2.2.2.2.2.2.2.2.2.1,x.2.2.2.2.2.2.2.2.2.2.2.2)⟩
def s_AtLastHop.con:Con:=⟨244,sh10,sh2,false,fun x=>s_AtLastHop (x.1,x.2.1,x.2.2.1,x.2.2.2.1,x.2.2.2.2.1,x.2.2.2.2.2.1,x.2.2.2.2.2.2.1,x.2.2.2.2.2.2.2.1,x.2.2.2.2.2.2.2.2.1,x.2.2.2.2.2.2.2.2.2)⟩
def s_AdvanceHop.con:Con:=⟨243,sh10,sh13,false,fun x=>s_AdvanceHop (x.1,x.2.1,x.2.2.1,x.2.2.2.1,x.2.2.2.2.1,x.2.2.2.2.2.1,x.2.2.2.2.2.2.1,x.2.2.2.2.2.2.2.1,x.2.2.2.2.2.2.2.2.1,x.2.2.2.2.2.2.2.2.2)⟩
def s_InterfaceKind.con:Con:=⟨338,sh35,sh1,false,fun x=>s_InterfaceKind (x.1,x.2.1) x.2.2.1 x.2.2.2⟩
def s_TransitAllowed.con:Con:=⟨337,sh7,sh2,false,fun x=>s_TransitAllowed x.1 x.2⟩
def s_StepAllowed.con:Con:=⟨246,⟨[e8,e54],[]⟩,sh2,false,fun x=>s_StepAllowed (x.1,x.2.1) (x.2.2.1,x.2.2.2.1,x.2.2.2.2)⟩
def s_Contains.con:Con:=⟨247,sh7,sh2,false,fun x=>s_Contains x.1 x.2⟩
def s_Forward.con:Con:=⟨145,sh104,sh73,false,fun x=>s_Forward (x.1,x.2.1) x.2.2.1 x.2.2.2.1 x.2.2.2.2.1 x.2.2.2.2.2.1 (x.2.2.2.2.2.2.1,x.2.2.2.2.2.2.2.1,x.2.2.2.2.2.2.2.2.1,x.2.2.2.2.2.2.2.2.2.1,x.2.2.2.2.2.2.2.2.2.2.1,x.2.2.2.2.2.2.2.2.2.2.2.1,x.2.2.2.2.2.2.2.2.2.2.2.2.1,x.2.2.2.2.2.2.2.2.2.2.2.2.2.1,x.2.2.2.2.2.2.2.2.2.2.2.2.2.2.1,x.2.2.2.2.2.2.2.2.2.2.2.2.2.2.2)⟩
def s_l36For.con:Con:=⟨342,sh36,sh2,false,fun x=>s_l36For (x.1,x.2.1,x.2.2.1,x.2.2.2.1) (x.2.2.2.2.1,x.2.2.2.2.2.1,x.2.2.2.2.2.2.1,x.2.2.2.2.2.2.2.1,x.2.2.2.2.2.2.2.2.1,x.2.2.2.2.2.2.2.2.2.1,x.2.2.2.2.2.2.2.2.2.2.1,x.2.2.2.2.2.2.2.2.2.2.2.1,x.2.2.2.2.2.2.2.2.2.2.2.2.1,x.2.2.2.2.2.2.2.2.2.2.2.2.2)⟩
def s_HandleData.con:Con:=⟨252,sh36,sh49,false,fun x=>s_HandleData (x.1,x.2.1,x.2.2.1,x.2.2.2.1) (x.2.2.2.2.1,x.2.2.2.2.2.1,x.2.2.2.2.2.2.1,x.2.2.2.2.2.2.2.1,x.2.2.2.2.2.2.2.2.1,x.2.2.2.2.2.2.2.2.2.1,x.2.2.2.2.2.2.2.2.2.2.1,x.2.2.2.2.2.2.2.2.2.2.2.1,x.2.2.2.2.2.2.2.2.2.2.2.2.1,x.2.2.2.2.2.2.2.2.2.2.2.2.2)⟩
def s_ReverseKind.con:Con:=⟨320,sh1,sh1,false,fun x=>s_ReverseKind x⟩
def s_BetaAfter.con:Con:=⟨321,sh19,sh1,false,fun x=>s_BetaAfter (x.1,x.2.1,x.2.2.1,x.2.2.2.1) x.2.2.2.2⟩
def s_ReversePart.con:Con:=⟨213,sh46,sh47,false,fun x=>s_ReversePart (x.1,x.2.1,x.2.2.1,x.2.2.2)⟩
def s_ReversePath.con:Con:=⟨115,sh8,sh21,false,fun x=>s_ReversePath x⟩
def s_Reply.con:Con:=⟨343,sh105,sh13,false,fun x=>s_Reply (x.1,x.2.1,x.2.2.1,x.2.2.2.1,x.2.2.2.2.1,x.2.2.2.2.2.1,x.2.2.2.2.2.2.1,x.2.2.2.2.2.2.2.1,x.2.2.2.2.2.2.2.2.1,x.2.2.2.2.2.2.2.2.2.1) x.2.2.2.2.2.2.2.2.2.2.1 x.2.2.2.2.2.2.2.2.2.2.2.1 x.2.2.2.2.2.2.2.2.2.2.2.2⟩
def s_MakeAck.con:Con:=⟨253,sh36,sh50,false,fun x=>s_MakeAck (x.1,x.2.1,x.2.2.1,x.2.2.2.1) (x.2.2.2.2.1,x.2.2.2.2.2.1,x.2.2.2.2.2.2.1,x.2.2.2.2.2.2.2.1,x.2.2.2.2.2.2.2.2.1,x.2.2.2.2.2.2.2.2.2.1,x.2.2.2.2.2.2.2.2.2.2.1,x.2.2.2.2.2.2.2.2.2.2.2.1,x.2.2.2.2.2.2.2.2.2.2.2.2.1,x.2.2.2.2.2.2.2.2.2.2.2.2.2)⟩
def s_HandleAck.con:Con:=⟨254,⟨[e16,e28],[]⟩,sh26,false,fun x=>s_HandleAck (x.1,x.2.1,x.2.2.1,x.2.2.2.1,x.2.2.2.2.1,x.2.2.2.2.2.1,x.2.2.2.2.2.2.1,x.2.2.2.2.2.2.2.1,x.2.2.2.2.2.2.2.2.1) (x.2.2.2.2.2.2.2.2.2.1,x.2.2.2.2.2.2.2.2.2.2.1,x.2.2.2.2.2.2.2.2.2.2.2.1,x.2.2.2.2.2.2.2.2.2.2.2.2.1,x.2.2.2.2.2.2.2.2.2.2.2.2.2.1,x.2.2.2.2.2.2.2.2.2.2.2.2.2.2.1,x.2.2.2.2.2.2.2.2.2.2.2.2.2.2.2.1,x.2.2.2.2.2.2.2.2.2.2.2.2.2.2.2.2.1,x.2.2.2.2.2.2.2.2.2.2.2.2.2.2.2.2.2.1,x.2.2.2.2.2.2.2.2.2.2.2.2.2.2.2.2.2.2)⟩
def s_ReadVarint.con:Con:=⟨413,sh29,⟨[e2,e1,e13],[]⟩,false,fun x=>s_ReadVarint x.1 x.2⟩
def s_DecodeInts.con:Con:=⟨394,⟨[e14,e1,e5],[]⟩,sh106,false,fun x=>s_DecodeInts x.1 x.2.1 x.2.2⟩
def s_DecodeRevocation.con:Con:=⟨347,sh22,⟨[e44,e41],[]⟩,false,fun x=>s_DecodeRevocation x⟩
def s_Affects.con:Con:=⟨348,⟨[e11,e54],[]⟩,sh2,false,fun x=>s_Affects x.1 (x.2.1,x.2.2.1,x.2.2.2)⟩
def s_AddRevocation.con:Con:=⟨350,⟨[e37,e54],[]⟩,sh76,false,fun x=>s_AddRevocation x.1 (x.2.1,x.2.2.1,x.2.2.2)⟩
def s_HandleRevocation.con:Con:=⟨262,⟨[e16,e28,e5],[]⟩,⟨[(0,.agg [.var ti,.var ti,.var ti,.var ti,.row 0,.row 1,.var ti,.var ti,.var (.sl tRv)])],[o7,o16]⟩,false,fun x=>s_HandleRevocation (x.1,x.2.1,x.2.2.1,x.2.2.2.1,x.2.2.2.2.1,x.2.2.2.2.2.1,x.2.2.2.2.2.2.1,x.2.2.2.2.2.2.2.1,x.2.2.2.2.2.2.2.2.1) (x.2.2.2.2.2.2.2.2.2.1,x.2.2.2.2.2.2.2.2.2.2.1,x.2.2.2.2.2.2.2.2.2.2.2.1,x.2.2.2.2.2.2.2.2.2.2.2.2.1,x.2.2.2.2.2.2.2.2.2.2.2.2.2.1,x.2.2.2.2.2.2.2.2.2.2.2.2.2.2.1,x.2.2.2.2.2.2.2.2.2.2.2.2.2.2.2.1,x.2.2.2.2.2.2.2.2.2.2.2.2.2.2.2.2.1,x.2.2.2.2.2.2.2.2.2.2.2.2.2.2.2.2.2.1,x.2.2.2.2.2.2.2.2.2.2.2.2.2.2.2.2.2.2.1) x.2.2.2.2.2.2.2.2.2.2.2.2.2.2.2.2.2.2.2⟩
def s_l37Tell.con:Con:=⟨154,sh59,sh12,false,fun x=>s_l37Tell ((x.2.2.2.2.2.2.2.2.2.2.2.1,x.2.2.2.2.2.2.2.2.2.2.2.2.1),(x.2.2.2.2.2.2.2.2.2.2.2.2.2.1,x.2.2.2.2.2.2.2.2.2.2.2.2.2.2.1),(x.2.2.2.2.2.2.2.2.2.2.2.2.2.2.2.1,x.2.2.2.2.2.2.2.2.2.2.2.2.2.2.2.2.1,x.2.2.2.2.2.2.2.2.2.2.2.2.2.2.2.2.2.1),x.2.2.2.2.2.2.2.2.2.2.2.2.2.2.2.2.2.2.1,x.2.2.2.2.2.2.2.2.2.2.2.2.2.2.2.2.2.2.2.1,x.2.2.2.2.2.2.2.2.2.2.2.2.2.2.2.2.2.2.2.2.2.1,x.2.2.2.2.2.2.2.2.2.2.2.2.2.2.2.2.2.2.2.2.2.2.1,x.2.2.2.2.2.2.2.2.2.2.2.2.2.2.2.2.2.2.2.2.2.2.2,x.2.2.2.2.2.2.2.2.2.2.2.2.2.2.2.2.2.2.2.2.1) x.1 (x.2.1,x.2.2.1,x.2.2.2.1,x.2.2.2.2.1,x.2.2.2.2.2.1,x.2.2.2.2.2.2.1,x.2.2.2.2.2.2.2.1,x.2.2.2.2.2.2.2.2.1,x.2.2.2.2.2.2.2.2.2.1,x.2.2.2.2.2.2.2.2.2.2.1)⟩
def s_l37Home'1.con:Con:=⟨147,sh59,sh12,false,fun x=>s_l37Home'1 ((x.2.2.2.2.2.2.2.2.2.2.2.1,x.2.2.2.2.2.2.2.2.2.2.2.2.1),(x.2.2.2.2.2.2.2.2.2.2.2.2.2.1,x.2.2.2.2.2.2.2.2.2.2.2.2.2.2.1),(x.2.2.2.2.2.2.2.2.2.2.2.2.2.2.2.1,x.2.2.2.2.2.2.2.2.2.2.2.2.2.2.2.2.1,x.2.2.2.2.2.2.2.2.2.2.2.2.2.2.2.2.2.1),x.2.2.2.2.2.2.2.2.2.2.2.2.2.2.2.2.2.2.1,x.2.2.2.2.2.2.2.2.2.2.2.2.2.2.2.2.2.2.2.1,x.2.2.2.2.2.2.2.2.2.2.2.2.2.2.2.2.2.2.2.2.2.1,x.2.2.2.2.2.2.2.2.2.2.2.2.2.2.2.2.2.2.2.2.2.2.1,x.2.2.2.2.2.2.2.2.2.2.2.2.2.2.2.2.2.2.2.2.2.2.2,x.2.2.2.2.2.2.2.2.2.2.2.2.2.2.2.2.2.2.2.2.1) x.1 (x.2.1,x.2.2.1,x.2.2.2.1,x.2.2.2.2.1,x.2.2.2.2.2.1,x.2.2.2.2.2.2.1,x.2.2.2.2.2.2.2.1,x.2.2.2.2.2.2.2.2.1,x.2.2.2.2.2.2.2.2.2.1,x.2.2.2.2.2.2.2.2.2.2.1)⟩
def s_UsedCount.con:Con:=⟨255,sh60,sh1,false,fun x=>s_UsedCount (x.1,x.2.1,x.2.2.1) x.2.2.2.1 x.2.2.2.2.1 x.2.2.2.2.2⟩
def s_l34More.con:Con:=⟨257,sh60,sh45,false,fun x=>s_l34More (x.1,x.2.1,x.2.2.1) x.2.2.2.1 x.2.2.2.2.1 x.2.2.2.2.2⟩
def s_Transmit.con:Con:=⟨149,sh81,sh107,false,fun x=>s_Transmit (x.1,x.2.1,x.2.2.1) x.2.2.2.1 x.2.2.2.2.1 x.2.2.2.2.2.1 x.2.2.2.2.2.2⟩
def s_l37Door.con:Con:=⟨151,sh10,sh1,false,fun x=>s_l37Door (x.1,x.2.1,x.2.2.1,x.2.2.2.1,x.2.2.2.2.1,x.2.2.2.2.2.1,x.2.2.2.2.2.2.1,x.2.2.2.2.2.2.2.1,x.2.2.2.2.2.2.2.2.1,x.2.2.2.2.2.2.2.2.2)⟩
def s_Min.con:Con:=⟨259,sh7,sh1,false,fun x=>s_Min x.1 x.2⟩
def s_TruncatePath.con:Con:=⟨153,sh10,sh8,false,fun x=>s_TruncatePath (x.1,x.2.1,x.2.2.1,x.2.2.2.1,x.2.2.2.2.1,x.2.2.2.2.2.1,x.2.2.2.2.2.2.1,x.2.2.2.2.2.2.2.1,x.2.2.2.2.2.2.2.2.1,x.2.2.2.2.2.2.2.2.2)⟩
def s_AppendVarint.con:Con:=⟨393,sh29,sh30,false,fun x=>s_AppendVarint x.1 x.2⟩
def s_EncodeInts.con:Con:=⟨346,sh20,sh30,false,fun x=>s_EncodeInts x⟩
def s_EncodeRevocation.con:Con:=⟨260,sh32,sh30,false,fun x=>s_EncodeRevocation (x.1,x.2.1,x.2.2)⟩
def s_MakeRevocation.con:Con:=⟨150,sh108,sh13,false,fun x=>s_MakeRevocation (x.1,x.2.1) x.2.2.1 x.2.2.2.1 x.2.2.2.2.1 (x.2.2.2.2.2.1,x.2.2.2.2.2.2.1,x.2.2.2.2.2.2.2.1,x.2.2.2.2.2.2.2.2.1,x.2.2.2.2.2.2.2.2.2.1,x.2.2.2.2.2.2.2.2.2.2.1,x.2.2.2.2.2.2.2.2.2.2.2.1,x.2.2.2.2.2.2.2.2.2.2.2.2.1,x.2.2.2.2.2.2.2.2.2.2.2.2.2.1,x.2.2.2.2.2.2.2.2.2.2.2.2.2.2)⟩
def s_l37Arrive'1.con:Con:=⟨74,sh34,sh12,false,fun x=>s_l37Arrive'1 ((x.2.2.2.2.2.2.2.2.2.2.2.2.1,x.2.2.2.2.2.2.2.2.2.2.2.2.2.1),(x.2.2.2.2.2.2.2.2.2.2.2.2.2.2.1,x.2.2.2.2.2.2.2.2.2.2.2.2.2.2.2.1),(x.2.2.2.2.2.2.2.2.2.2.2.2.2.2.2.2.1,x.2.2.2.2.2.2.2.2.2.2.2.2.2.2.2.2.2.1,x.2.2.2.2.2.2.2.2.2.2.2.2.2.2.2.2.2.2.1),x.2.2.2.2.2.2.2.2.2.2.2.2.2.2.2.2.2.2.2.1,x.2.2.2.2.2.2.2.2.2.2.2.2.2.2.2.2.2.2.2.2.1,x.2.2.2.2.2.2.2.2.2.2.2.2.2.2.2.2.2.2.2.2.2.2.1,x.2.2.2.2.2.2.2.2.2.2.2.2.2.2.2.2.2.2.2.2.2.2.2.1,x.2.2.2.2.2.2.2.2.2.2.2.2.2.2.2.2.2.2.2.2.2.2.2.2,x.2.2.2.2.2.2.2.2.2.2.2.2.2.2.2.2.2.2.2.2.2.1) x.1 x.2.1 (x.2.2.1,x.2.2.2.1,x.2.2.2.2.1,x.2.2.2.2.2.1,x.2.2.2.2.2.2.1,x.2.2.2.2.2.2.2.1,x.2.2.2.2.2.2.2.2.1,x.2.2.2.2.2.2.2.2.2.1,x.2.2.2.2.2.2.2.2.2.2.1,x.2.2.2.2.2.2.2.2.2.2.2.1)⟩
def s_l37Home.con:Con:=⟨147,sh59,sh12,false,fun x=>s_l37Home ((x.2.2.2.2.2.2.2.2.2.2.2.1,x.2.2.2.2.2.2.2.2.2.2.2.2.1),(x.2.2.2.2.2.2.2.2.2.2.2.2.2.1,x.2.2.2.2.2.2.2.2.2.2.2.2.2.2.1),(x.2.2.2.2.2.2.2.2.2.2.2.2.2.2.2.1,x.2.2.2.2.2.2.2.2.2.2.2.2.2.2.2.2.1,x.2.2.2.2.2.2.2.2.2.2.2.2.2.2.2.2.2.1),x.2.2.2.2.2.2.2.2.2.2.2.2.2.2.2.2.2.2.1,x.2.2.2.2.2.2.2.2.2.2.2.2.2.2.2.2.2.2.2.1,x.2.2.2.2.2.2.2.2.2.2.2.2.2.2.2.2.2.2.2.2.2.1,x.2.2.2.2.2.2.2.2.2.2.2.2.2.2.2.2.2.2.2.2.2.2.1,x.2.2.2.2.2.2.2.2.2.2.2.2.2.2.2.2.2.2.2.2.2.2.2,x.2.2.2.2.2.2.2.2.2.2.2.2.2.2.2.2.2.2.2.2.1) x.1 (x.2.1,x.2.2.1,x.2.2.2.1,x.2.2.2.2.1,x.2.2.2.2.2.1,x.2.2.2.2.2.2.1,x.2.2.2.2.2.2.2.1,x.2.2.2.2.2.2.2.2.1,x.2.2.2.2.2.2.2.2.2.1,x.2.2.2.2.2.2.2.2.2.2.1)⟩
def s_l37Arrive.con:Con:=⟨74,sh34,sh12,false,fun x=>s_l37Arrive ((x.2.2.2.2.2.2.2.2.2.2.2.2.1,x.2.2.2.2.2.2.2.2.2.2.2.2.2.1),(x.2.2.2.2.2.2.2.2.2.2.2.2.2.2.1,x.2.2.2.2.2.2.2.2.2.2.2.2.2.2.2.1),(x.2.2.2.2.2.2.2.2.2.2.2.2.2.2.2.2.1,x.2.2.2.2.2.2.2.2.2.2.2.2.2.2.2.2.2.1,x.2.2.2.2.2.2.2.2.2.2.2.2.2.2.2.2.2.2.1),x.2.2.2.2.2.2.2.2.2.2.2.2.2.2.2.2.2.2.2.1,x.2.2.2.2.2.2.2.2.2.2.2.2.2.2.2.2.2.2.2.2.1,x.2.2.2.2.2.2.2.2.2.2.2.2.2.2.2.2.2.2.2.2.2.2.1,x.2.2.2.2.2.2.2.2.2.2.2.2.2.2.2.2.2.2.2.2.2.2.2.1,x.2.2.2.2.2.2.2.2.2.2.2.2.2.2.2.2.2.2.2.2.2.2.2.2,x.2.2.2.2.2.2.2.2.2.2.2.2.2.2.2.2.2.2.2.2.2.1) x.1 x.2.1 (x.2.2.1,x.2.2.2.1,x.2.2.2.2.1,x.2.2.2.2.2.1,x.2.2.2.2.2.2.1,x.2.2.2.2.2.2.2.1,x.2.2.2.2.2.2.2.2.1,x.2.2.2.2.2.2.2.2.2.1,x.2.2.2.2.2.2.2.2.2.2.1,x.2.2.2.2.2.2.2.2.2.2.2.1)⟩
def s_l38Tick.con:Con:=⟨303,⟨[e18],[o3,o2,o1,o4]⟩,sh61,false,fun x=>s_l38Tick ((x.1,x.2.1),(x.2.2.1,x.2.2.2.1),(x.2.2.2.2.1,x.2.2.2.2.2.1,x.2.2.2.2.2.2.1),x.2.2.2.2.2.2.2.1,x.2.2.2.2.2.2.2.2.1,x.2.2.2.2.2.2.2.2.2.2.1,x.2.2.2.2.2.2.2.2.2.2.2.1,x.2.2.2.2.2.2.2.2.2.2.2.2,x.2.2.2.2.2.2.2.2.2.1)⟩
def s_l38Gone.con:Con:=⟨304,sh62,sh109,false,fun x=>s_l38Gone ((x.2.1,x.2.2.1),(x.2.2.2.1,x.2.2.2.2.1),(x.2.2.2.2.2.1,x.2.2.2.2.2.2.1,x.2.2.2.2.2.2.2.1),x.2.2.2.2.2.2.2.2.1,x.2.2.2.2.2.2.2.2.2.1,x.2.2.2.2.2.2.2.2.2.2.2.1,x.2.2.2.2.2.2.2.2.2.2.2.2.1,x.2.2.2.2.2.2.2.2.2.2.2.2.2,x.2.2.2.2.2.2.2.2.2.2.1) x.1⟩
def s_l38Link.con:Con:=⟨305,⟨[e18,e1,e13],[o3,o2,o1,o4]⟩,sh61,false,fun x=>s_l38Link ((x.2.2.1,x.2.2.2.1),(x.2.2.2.2.1,x.2.2.2.2.2.1),(x.2.2.2.2.2.2.1,x.2.2.2.2.2.2.2.1,x.2.2.2.2.2.2.2.2.1),x.2.2.2.2.2.2.2.2.2.1,x.2.2.2.2.2.2.2.2.2.2.1,x.2.2.2.2.2.2.2.2.2.2.2.2.1,x.2.2.2.2.2.2.2.2.2.2.2.2.2.1,x.2.2.2.2.2.2.2.2.2.2.2.2.2.2,x.2.2.2.2.2.2.2.2.2.2.2.1) x.1 x.2.1⟩
def s_Enqueue.con:Con:=⟨373,⟨[e16,(1,vr5)],[]⟩,⟨[e45,e41],[o7,o16,o21]⟩,false,fun x=>s_Enqueue (x.1,x.2.1,x.2.2.1,x.2.2.2.1,x.2.2.2.2.1,x.2.2.2.2.2.1,x.2.2.2.2.2.2.1,x.2.2.2.2.2.2.2.1,x.2.2.2.2.2.2.2.2.1) x.2.2.2.2.2.2.2.2.2⟩
def s_LastAS.con:Con:=⟨436,sh24,sh1,false,fun x=>s_LastAS (x.1,x.2.1,x.2.2)⟩
def s_DownSegments.con:Con:=⟨422,sh65,sh44,false,fun x=>s_DownSegments (x.1,x.2.1) x.2.2⟩
def s_l23Index.con:Con:=⟨434,sh52,sh1,false,fun x=>s_l23Index (x.1,x.2.1,x.2.2.1) x.2.2.2⟩
def s_l9Seals.con:Con:=⟨451,sh52,sh16,false,fun x=>s_l9Seals (x.1,x.2.1,x.2.2.1) x.2.2.2⟩
def s_ChainAdd.con:Con:=⟨450,sh80,sh1,false,fun x=>s_ChainAdd x.1 x.2⟩
def s_BetaAt.con:Con:=⟨444,sh52,sh1,false,fun x=>s_BetaAt (x.1,x.2.1,x.2.2.1) x.2.2.2⟩
def s_MakePart.con:Con:=⟨435,⟨[e20,e1,e5],[]⟩,sh47,false,fun x=>s_MakePart (x.1,x.2.1,x.2.2.1) x.2.2.2.1 x.2.2.2.2⟩
def s_FirstAS.con:Con:=⟨425,sh24,sh1,false,fun x=>s_FirstAS (x.1,x.2.1,x.2.2)⟩
def s_l16Between.con:Con:=⟨438,⟨[e42,e1,e5],[]⟩,sh44,false,fun x=>s_l16Between (x.1,x.2.1) x.2.2.1 x.2.2.2⟩
def s_JoinThree.con:Con:=⟨439,⟨[e20,(1,ag5),e13,(3,ag5)],[]⟩,sh21,false,fun x=>s_JoinThree (x.1,x.2.1,x.2.2.1) (x.2.2.2.1,x.2.2.2.2.1,x.2.2.2.2.2.1) x.2.2.2.2.2.2.1 (x.2.2.2.2.2.2.2.1,x.2.2.2.2.2.2.2.2.1,x.2.2.2.2.2.2.2.2.2)⟩
def s_l23Cores.con:Con:=⟨424,⟨[e42,(1,ag5),e5,e9,(4,ag5)],[]⟩,sh25,false,fun x=>s_l23Cores (x.1,x.2.1) (x.2.2.1,x.2.2.2.1,x.2.2.2.2.1) x.2.2.2.2.2.1 x.2.2.2.2.2.2.1 (x.2.2.2.2.2.2.2.1,x.2.2.2.2.2.2.2.2.1,x.2.2.2.2.2.2.2.2.2)⟩
def s_l23Alone.con:Con:=⟨421,⟨[e42,e1,e5],[]⟩,sh25,false,fun x=>s_l23Alone (x.1,x.2.1) x.2.2.1 x.2.2.2⟩
def s_SegmentASes.con:Con:=⟨445,sh24,sh16,false,fun x=>s_SegmentASes (x.1,x.2.1,x.2.2)⟩
def s_l22Meet.con:Con:=⟨437,sh82,sh21,false,fun x=>s_l22Meet (x.1,x.2.1,x.2.2.1) (x.2.2.2.1,x.2.2.2.2.1,x.2.2.2.2.2)⟩
def s_JoinUpDown.con:Con:=⟨423,sh82,sh21,false,fun x=>s_JoinUpDown (x.1,x.2.1,x.2.2.1) (x.2.2.2.1,x.2.2.2.2.1,x.2.2.2.2.2)⟩
def s_CombinePaths.con:Con:=⟨407,⟨[e8,(1,ag13),e5,e9],[]⟩,sh25,false,fun x=>s_CombinePaths (x.1,x.2.1) (x.2.2.1,x.2.2.2.1) x.2.2.2.2.1 x.2.2.2.2.2⟩
def s_l21Beta.con:Con:=⟨446,sh19,sh1,false,fun x=>s_l21Beta (x.1,x.2.1,x.2.2.1,x.2.2.2.1) x.2.2.2.2⟩
def s_VerifyPart.con:Con:=⟨440,sh79,sh2,false,fun x=>s_VerifyPart (x.1,x.2.1) (x.2.2.1,x.2.2.2.1,x.2.2.2.2.1,x.2.2.2.2.2)⟩
def s_VerifyPath.con:Con:=⟨426,sh51,sh2,false,fun x=>s_VerifyPath (x.1,x.2.1) x.2.2⟩
def s_PathUsable.con:Con:=⟨408,⟨[e8,e33,e5],[]⟩,sh2,false,fun x=>s_PathUsable (x.1,x.2.1) x.2.2.1 x.2.2.2⟩
def s_l9SameHops.con:Con:=⟨447,sh110,sh2,false,fun x=>s_l9SameHops x.1 x.2⟩
def s_EqualParts.con:Con:=⟨441,sh111,sh2,false,fun x=>s_EqualParts (x.1,x.2.1,x.2.2.1,x.2.2.2.1) (x.2.2.2.2.1,x.2.2.2.2.2.1,x.2.2.2.2.2.2.1,x.2.2.2.2.2.2.2)⟩
def s_EqualPaths.con:Con:=⟨427,sh83,sh2,false,fun x=>s_EqualPaths x.1 x.2⟩
def s_HasPath.con:Con:=⟨409,⟨[e39,e33],[]⟩,sh2,false,fun x=>s_HasPath x.1 x.2⟩
def s_FindPaths.con:Con:=⟨375,⟨[e8,(1,ag13),e5,e9,e7],[]⟩,sh31,false,fun x=>s_FindPaths (x.1,x.2.1) (x.2.2.1,x.2.2.2.1) x.2.2.2.2.1 x.2.2.2.2.2.1 x.2.2.2.2.2.2⟩
def s_PathLength.con:Con:=⟨431,sh8,sh1,false,fun x=>s_PathLength x⟩
def s_PathExpiry.con:Con:=⟨432,sh8,sh1,false,fun x=>s_PathExpiry x⟩
def s_PathDigest.con:Con:=⟨433,sh8,sh1,false,fun x=>s_PathDigest x⟩
def s_BetterPath.con:Con:=⟨420,sh83,sh2,false,fun x=>s_BetterPath x.1 x.2⟩
def s_SortPaths.con:Con:=⟨406,sh31,sh31,false,fun x=>s_SortPaths x⟩
def s_ActiveRevocations.con:Con:=⟨430,sh67,sh56,false,fun x=>s_ActiveRevocations x.1 x.2⟩
def s_Revoked.con:Con:=⟨419,⟨[e37,e33,e5],[]⟩,sh2,false,fun x=>s_Revoked x.1 x.2.1 x.2.2⟩
def s_PreferUnrevoked.con:Con:=⟨405,⟨[e37,(1,vr12),e5],[]⟩,sh25,false,fun x=>s_PreferUnrevoked x.1 x.2.1 x.2.2⟩
def s_SetPaths.con:Con:=⟨374,⟨[e16,(1,vr12),e5],[]⟩,⟨[(0,.agg [.var ti,.var ti,.var ti,.var ti,.row 0,.var (.sl tPt),.var ti,.var ti,.row 1])],[o7,(1,ow11)]⟩,false,fun x=>s_SetPaths (x.1,x.2.1,x.2.2.1,x.2.2.2.1,x.2.2.2.2.1,x.2.2.2.2.2.1,x.2.2.2.2.2.2.1,x.2.2.2.2.2.2.2.1,x.2.2.2.2.2.2.2.2.1) x.2.2.2.2.2.2.2.2.2.1 x.2.2.2.2.2.2.2.2.2.2⟩
def s_l38Flow.con:Con:=⟨306,sh112,sh61,false,fun x=>s_l38Flow ((x.2.2.2.2.2.2.2.2.2.2.2.2.2.2.2.1,x.2.2.2.2.2.2.2.2.2.2.2.2.2.2.2.2.1),(x.2.2.2.2.2.2.2.2.2.2.2.2.2.2.2.2.2.1,x.2.2.2.2.2.2.2.2.2.2.2.2.2.2.2.2.2.2.1),(x.2.2.2.2.2.2.2.2.2.2.2.2.2.2.2.2.2.2.2.1,x.2.2.2.2.2.2.2.2.2.2.2.2.2.2.2.2.2.2.2.2.1,x.2.2.2.2.2.2.2.2.2.2.2.2.2.2.2.2.2.2.2.2.2.1),x.2.2.2.2.2.2.2.2.2.2.2.2.2.2.2.2.2.2.2.2.2.2.1,x.2.2.2.2.2.2.2.2.2.2.2.2.2.2.2.2.2.2.2.2.2.2.2.1,x.2.2.2.2.2.2.2.2.2.2.2.2.2.2.2.2.2.2.2.2.2.2.2.2.2.1,x.2.2.2.2.2.2.2.2.2.2.2.2.2.2.2.2.2.2.2.2.2.2.2.2.2.2.1,x.2.2.2.2.2.2.2.2.2.2.2.2.2.2.2.2.2.2.2.2.2.2.2.2.2.2.2,x.2.2.2.2.2.2.2.2.2.2.2.2.2.2.2.2.2.2.2.2.2.2.2.2.1) (x.1,x.2.1,x.2.2.1,(x.2.2.2.1,x.2.2.2.2.1,(x.2.2.2.2.2.1,x.2.2.2.2.2.2.1,x.2.2.2.2.2.2.2.1,x.2.2.2.2.2.2.2.2.1,x.2.2.2.2.2.2.2.2.2.1,x.2.2.2.2.2.2.2.2.2.2.1,x.2.2.2.2.2.2.2.2.2.2.2.1,x.2.2.2.2.2.2.2.2.2.2.2.2.1,x.2.2.2.2.2.2.2.2.2.2.2.2.2.1,x.2.2.2.2.2.2.2.2.2.2.2.2.2.2.1)))⟩
def s_l38Do.con:Con:=⟨201,sh112,sh61,false,fun x=>s_l38Do ((x.2.2.2.2.2.2.2.2.2.2.2.2.2.2.2.1,x.2.2.2.2.2.2.2.2.2.2.2.2.2.2.2.2.1),(x.2.2.2.2.2.2.2.2.2.2.2.2.2.2.2.2.2.1,x.2.2.2.2.2.2.2.2.2.2.2.2.2.2.2.2.2.2.1),(x.2.2.2.2.2.2.2.2.2.2.2.2.2.2.2.2.2.2.2.1,x.2.2.2.2.2.2.2.2.2.2.2.2.2.2.2.2.2.2.2.2.1,x.2.2.2.2.2.2.2.2.2.2.2.2.2.2.2.2.2.2.2.2.2.1),x.2.2.2.2.2.2.2.2.2.2.2.2.2.2.2.2.2.2.2.2.2.2.1,x.2.2.2.2.2.2.2.2.2.2.2.2.2.2.2.2.2.2.2.2.2.2.2.1,x.2.2.2.2.2.2.2.2.2.2.2.2.2.2.2.2.2.2.2.2.2.2.2.2.2.1,x.2.2.2.2.2.2.2.2.2.2.2.2.2.2.2.2.2.2.2.2.2.2.2.2.2.2.1,x.2.2.2.2.2.2.2.2.2.2.2.2.2.2.2.2.2.2.2.2.2.2.2.2.2.2.2,x.2.2.2.2.2.2.2.2.2.2.2.2.2.2.2.2.2.2.2.2.2.2.2.2.1) (x.1,x.2.1,x.2.2.1,(x.2.2.2.1,x.2.2.2.2.1,(x.2.2.2.2.2.1,x.2.2.2.2.2.2.1,x.2.2.2.2.2.2.2.1,x.2.2.2.2.2.2.2.2.1,x.2.2.2.2.2.2.2.2.2.1,x.2.2.2.2.2.2.2.2.2.2.1,x.2.2.2.2.2.2.2.2.2.2.2.1,x.2.2.2.2.2.2.2.2.2.2.2.2.1,x.2.2.2.2.2.2.2.2.2.2.2.2.2.1,x.2.2.2.2.2.2.2.2.2.2.2.2.2.2.1)))⟩
def s_l39Out.con:Con:=⟨99,sh62,sh12,false,fun x=>s_l39Out ((x.2.1,x.2.2.1),(x.2.2.2.1,x.2.2.2.2.1),(x.2.2.2.2.2.1,x.2.2.2.2.2.2.1,x.2.2.2.2.2.2.2.1),x.2.2.2.2.2.2.2.2.1,x.2.2.2.2.2.2.2.2.2.1,x.2.2.2.2.2.2.2.2.2.2.2.1,x.2.2.2.2.2.2.2.2.2.2.2.2.1,x.2.2.2.2.2.2.2.2.2.2.2.2.2,x.2.2.2.2.2.2.2.2.2.2.1) x.1⟩
def s_DeliverPackets.con:Con:=⟨28,sh42,⟨[(0,.agg [.var (.sl tAS),.var (.sl tLk),.var (.sl tSg),.var (.sl tSg),.var ti,.var (.sl tRs),.var (.sl tUs),.var ti,.var (.sl ti),.row 0,.row 1,.row 2,.var ti])],[o2,o1,o4]⟩,false,fun x=>s_DeliverPackets ((x.1,x.2.1),(x.2.2.1,x.2.2.2.1),(x.2.2.2.2.1,x.2.2.2.2.2.1,x.2.2.2.2.2.2.1),x.2.2.2.2.2.2.2.1,x.2.2.2.2.2.2.2.2.1,x.2.2.2.2.2.2.2.2.2.1,x.2.2.2.2.2.2.2.2.2.2.1,x.2.2.2.2.2.2.2.2.2.2.2.1,x.2.2.2.2.2.2.2.2.2.2.2.2.1) x.2.2.2.2.2.2.2.2.2.2.2.2.2⟩
def i_copyTopology.con:Con:=⟨156,sh43,sh68,false,fun x=>i_copyTopology (x.1,x.2)⟩
def i_copyHops.con:Con:=⟨326,sh54,sh69,false,fun x=>i_copyHops x⟩
def i_copySegment.con:Con:=⟨351,sh24,sh70,false,fun x=>i_copySegment (x.1,x.2.1,x.2.2)⟩
def i_copySegments.con:Con:=⟨264,sh71,sh44,false,fun x=>i_copySegments x⟩
def i_copyDatabase.con:Con:=⟨157,⟨[e42],[]⟩,sh97,false,fun x=>i_copyDatabase (x.1,x.2)⟩
def i_copyReservations.con:Con:=⟨265,⟨[e23],[]⟩,sh55,false,fun x=>i_copyReservations x⟩
def i_copyScheduler.con:Con:=⟨158,sh72,sh45,false,fun x=>i_copyScheduler (x.1,x.2.1,x.2.2)⟩
def i_copyInts.con:Con:=⟨159,sh20,sh16,false,fun x=>i_copyInts x⟩
def i_copyPath.con:Con:=⟨224,sh8,sh21,false,fun x=>i_copyPath x⟩
def i_copyBytes.con:Con:=⟨225,sh22,sh30,false,fun x=>i_copyBytes x⟩
def i_copyPacket.con:Con:=⟨160,sh10,sh13,false,fun x=>i_copyPacket (x.1,x.2.1,x.2.2.1,x.2.2.2.1,x.2.2.2.2.1,x.2.2.2.2.2.1,x.2.2.2.2.2.2.1,x.2.2.2.2.2.2.2.1,x.2.2.2.2.2.2.2.2.1,x.2.2.2.2.2.2.2.2.2)⟩
def i_copyMessages.con:Con:=⟨266,sh74,sh75,false,fun x=>i_copyMessages x⟩
def i_copyPaths.con:Con:=⟨267,sh31,sh25,false,fun x=>i_copyPaths x⟩
def i_copyRevocations.con:Con:=⟨268,sh76,sh56,false,fun x=>i_copyRevocations x⟩
def i_copyFlow.con:Con:=⟨161,sh18,sh26,false,fun x=>i_copyFlow (x.1,x.2.1,x.2.2.1,x.2.2.2.1,x.2.2.2.2.1,x.2.2.2.2.2.1,x.2.2.2.2.2.2.1,x.2.2.2.2.2.2.2.1,x.2.2.2.2.2.2.2.2)⟩
def i_copyInbox.con:Con:=⟨162,sh48,sh49,false,fun x=>i_copyInbox (x.1,x.2.1,x.2.2.1,x.2.2.2)⟩
def i_copyNetwork.con:Con:=⟨77,sh33,sh57,false,fun x=>i_copyNetwork ((x.1,x.2.1),(x.2.2.1,x.2.2.2.1),(x.2.2.2.2.1,x.2.2.2.2.2.1,x.2.2.2.2.2.2.1),x.2.2.2.2.2.2.2.1,x.2.2.2.2.2.2.2.2.1,x.2.2.2.2.2.2.2.2.2.1,x.2.2.2.2.2.2.2.2.2.2.1,x.2.2.2.2.2.2.2.2.2.2.2.1,x.2.2.2.2.2.2.2.2.2.2.2.2)⟩
def i_IR.con:Con:=⟨101,⟨[e2,e1,e5],[]⟩,sh2,false,fun x=>i_IR x.1 x.2.1 x.2.2⟩
def i_ValidKey.con:Con:=⟨307,sh1,sh2,false,fun x=>i_ValidKey x⟩
def i_isAS.con:Con:=⟨204,sh28,sh2,false,fun x=>i_isAS (x.1,x.2.1) x.2.2⟩
def i_linkOk.con:Con:=⟨308,⟨[e8,(1,ag4)],[]⟩,sh2,false,fun x=>i_linkOk (x.1,x.2.1) (x.2.2.1,x.2.2.2.1,x.2.2.2.2.1,x.2.2.2.2.2.1,x.2.2.2.2.2.2)⟩
def i_usesInterface.con:Con:=⟨309,sh77,sh2,false,fun x=>i_usesInterface (x.1,x.2.1,x.2.2.1,x.2.2.2.1,x.2.2.2.2.1) x.2.2.2.2.2.1 x.2.2.2.2.2.2⟩
def i_ValidTopology.con:Con:=⟨202,sh43,sh2,false,fun x=>i_ValidTopology (x.1,x.2)⟩
def i_ValidRevocation.con:Con:=⟨313,sh32,sh2,false,fun x=>i_ValidRevocation (x.1,x.2.1,x.2.2)⟩
def i_ValidReservation.con:Con:=⟨376,sh15,sh2,false,fun x=>i_ValidReservation (x.1,x.2.1,x.2.2.1,x.2.2.2.1,x.2.2.2.2)⟩
def i_Reservation_at.con:Con:=⟨378,sh77,sh2,false,fun x=>i_Reservation_at (x.1,x.2.1,x.2.2.1,x.2.2.2.1,x.2.2.2.2.1) x.2.2.2.2.2.1 x.2.2.2.2.2.2⟩
def i_ReservedRate.con:Con:=⟨377,sh98,sh1,false,fun x=>i_ReservedRate x.1 x.2.1 x.2.2.1 x.2.2.2⟩
def i_ValidReservations.con:Con:=⟨310,⟨[e23,e1,e5],[]⟩,sh2,false,fun x=>i_ValidReservations x.1 x.2.1 x.2.2⟩
def i_usageAt.con:Con:=⟨311,sh60,sh1,false,fun x=>i_usageAt (x.1,x.2.1,x.2.2.1) x.2.2.2.1 x.2.2.2.2.1 x.2.2.2.2.2⟩
def i_Max.con:Con:=⟨125,sh7,sh1,false,fun x=>i_Max x.1 x.2⟩
def i_FreeRate.con:Con:=⟨379,sh58,sh1,false,fun x=>i_FreeRate x.1 x.2.1 x.2.2.1 x.2.2.2.1 x.2.2.2.2⟩
def i_ReservationRate.con:Con:=⟨380,sh58,sh1,false,fun x=>i_ReservationRate x.1 x.2.1 x.2.2.1 x.2.2.2.1 x.2.2.2.2⟩
def i_rateOf.con:Con:=⟨312,sh81,sh1,false,fun x=>i_rateOf (x.1,x.2.1,x.2.2.1) x.2.2.2.1 x.2.2.2.2.1 x.2.2.2.2.2.1 x.2.2.2.2.2.2⟩
def i_ValidScheduler.con:Con:=⟨203,sh40,sh2,false,fun x=>i_ValidScheduler (x.1,x.2.1,x.2.2.1) x.2.2.2⟩
def i_ValidFlow.con:Con:=⟨205,sh18,sh2,false,fun x=>i_ValidFlow (x.1,x.2.1,x.2.2.1,x.2.2.2.1,x.2.2.2.2.1,x.2.2.2.2.2.1,x.2.2.2.2.2.2.1,x.2.2.2.2.2.2.2.1,x.2.2.2.2.2.2.2.2)⟩
def i_ValidInbox.con:Con:=⟨206,sh48,sh2,false,fun x=>i_ValidInbox (x.1,x.2.1,x.2.2.1,x.2.2.2)⟩
def i_EqualBytes.con:Con:=⟨381,sh78,sh2,false,fun x=>i_EqualBytes x.1 x.2⟩
def i_equalMessages.con:Con:=⟨314,sh113,sh2,false,fun x=>i_equalMessages x.1 x.2⟩
def i_ConsistentWith.con:Con:=⟨207,sh99,sh2,false,fun x=>i_ConsistentWith (x.1,x.2.1,x.2.2.1,x.2.2.2.1,x.2.2.2.2.1,x.2.2.2.2.2.1,x.2.2.2.2.2.2.1,x.2.2.2.2.2.2.2.1,x.2.2.2.2.2.2.2.2.1) (x.2.2.2.2.2.2.2.2.2.1,x.2.2.2.2.2.2.2.2.2.2.1,x.2.2.2.2.2.2.2.2.2.2.2.1,x.2.2.2.2.2.2.2.2.2.2.2.2)⟩
def i_ValidNetwork.con:Con:=⟨100,sh33,sh2,false,fun x=>i_ValidNetwork ((x.1,x.2.1),(x.2.2.1,x.2.2.2.1),(x.2.2.2.2.1,x.2.2.2.2.2.1,x.2.2.2.2.2.2.1),x.2.2.2.2.2.2.2.1,x.2.2.2.2.2.2.2.2.1,x.2.2.2.2.2.2.2.2.2.1,x.2.2.2.2.2.2.2.2.2.2.1,x.2.2.2.2.2.2.2.2.2.2.2.1,x.2.2.2.2.2.2.2.2.2.2.2.2)⟩
def i_Network_take.con:Con:=⟨208,sh62,sh109,false,fun x=>i_Network_take ((x.2.1,x.2.2.1),(x.2.2.2.1,x.2.2.2.2.1),(x.2.2.2.2.2.1,x.2.2.2.2.2.2.1,x.2.2.2.2.2.2.2.1),x.2.2.2.2.2.2.2.2.1,x.2.2.2.2.2.2.2.2.2.1,x.2.2.2.2.2.2.2.2.2.2.2.1,x.2.2.2.2.2.2.2.2.2.2.2.2.1,x.2.2.2.2.2.2.2.2.2.2.2.2.2,x.2.2.2.2.2.2.2.2.2.2.1) x.1⟩
def i_Network_process'0.con:Con:=⟨78,sh34,sh12,false,fun x=>i_Network_process'0 ((x.2.2.2.2.2.2.2.2.2.2.2.2.1,x.2.2.2.2.2.2.2.2.2.2.2.2.2.1),(x.2.2.2.2.2.2.2.2.2.2.2.2.2.2.1,x.2.2.2.2.2.2.2.2.2.2.2.2.2.2.2.1),(x.2.2.2.2.2.2.2.2.2.2.2.2.2.2.2.2.1,x.2.2.2.2.2.2.2.2.2.2.2.2.2.2.2.2.2.1,x.2.2.2.2.2.2.2.2.2.2.2.2.2.2.2.2.2.2.1),x.2.2.2.2.2.2.2.2.2.2.2.2.2.2.2.2.2.2.2.1,x.2.2.2.2.2.2.2.2.2.2.2.2.2.2.2.2.2.2.2.2.1,x.2.2.2.2.2.2.2.2.2.2.2.2.2.2.2.2.2.2.2.2.2.2.1,x.2.2.2.2.2.2.2.2.2.2.2.2.2.2.2.2.2.2.2.2.2.2.2.1,x.2.2.2.2.2.2.2.2.2.2.2.2.2.2.2.2.2.2.2.2.2.2.2.2,x.2.2.2.2.2.2.2.2.2.2.2.2.2.2.2.2.2.2.2.2.2.1) x.1 x.2.1 (x.2.2.1,x.2.2.2.1,x.2.2.2.2.1,x.2.2.2.2.2.1,x.2.2.2.2.2.2.1,x.2.2.2.2.2.2.2.1,x.2.2.2.2.2.2.2.2.1,x.2.2.2.2.2.2.2.2.2.1,x.2.2.2.2.2.2.2.2.2.2.1,x.2.2.2.2.2.2.2.2.2.2.2.1)⟩
def i_insertInt.con:Con:=⟨362,sh41,sh20,false,fun x=>i_insertInt x.1 x.2⟩
def i_Interfaces.con:Con:=⟨281,sh28,sh20,false,fun x=>i_Interfaces (x.1,x.2.1) x.2.2⟩
def i_LinkIndex.con:Con:=⟨283,sh35,sh1,false,fun x=>i_LinkIndex (x.1,x.2.1) x.2.2.1 x.2.2.2⟩
def i_hasInt.con:Con:=⟨282,sh41,sh2,false,fun x=>i_hasInt x.1 x.2⟩
def i_ValidSet.con:Con:=⟨361,sh1,sh2,false,fun x=>i_ValidSet x⟩
def i_AddElement.con:Con:=⟨284,sh7,sh1,false,fun x=>i_AddElement x.1 x.2⟩
def i_FailedInterfaces.con:Con:=⟨164,⟨[e8,e53,e5],[]⟩,sh1,false,fun x=>i_FailedInterfaces (x.1,x.2.1) x.2.2.1 x.2.2.2⟩
def i_decide_1.con:Con:=⟨269,⟨[e2,(1,.one (.ptr 1000001 0))],[(1000001,ob4)]⟩,⟨[(0,ag23)],[o5,o6,(1000001,ob4)]⟩,false,fun x=>i_decide_1 x.1 (x.2.1,x.2.2.1,x.2.2.2.1,x.2.2.2.2.1,x.2.2.2.2.2.1,x.2.2.2.2.2.2.1,x.2.2.2.2.2.2.2.1,x.2.2.2.2.2.2.2.2.1,x.2.2.2.2.2.2.2.2.2.1,x.2.2.2.2.2.2.2.2.2.2)⟩
def i_isResidue.con:Con:=⟨353,sh1,sh2,false,fun x=>i_isResidue x⟩
def i_ValidHop.con:Con:=⟨414,sh15,sh2,false,fun x=>i_ValidHop (x.1,x.2.1,x.2.2.1,x.2.2.2.1,x.2.2.2.2)⟩
def i_hopsEncodable.con:Con:=⟨395,sh54,sh2,false,fun x=>i_hopsEncodable x⟩
def i_EncodablePath.con:Con:=⟨352,sh8,sh2,false,fun x=>i_EncodablePath x⟩
def i_hasHop.con:Con:=⟨356,sh10,sh2,false,fun x=>i_hasHop (x.1,x.2.1,x.2.2.1,x.2.2.2.1,x.2.2.2.2.1,x.2.2.2.2.2.1,x.2.2.2.2.2.2.1,x.2.2.2.2.2.2.2.1,x.2.2.2.2.2.2.2.2.1,x.2.2.2.2.2.2.2.2.2)⟩
def i_CurrentAS.con:Con:=⟨272,sh10,sh1,false,fun x=>i_CurrentAS (x.1,x.2.1,x.2.2.1,x.2.2.2.1,x.2.2.2.2.1,x.2.2.2.2.2.1,x.2.2.2.2.2.2.1,x.2.2.2.2.2.2.2.1,x.2.2.2.2.2.2.2.2.1,x.2.2.2.2.2.2.2.2.2)⟩
def i_ValidPacket.con:Con:=⟨270,sh10,sh2,false,fun x=>i_ValidPacket (x.1,x.2.1,x.2.2.1,x.2.2.2.1,x.2.2.2.2.1,x.2.2.2.2.2.1,x.2.2.2.2.2.2.1,x.2.2.2.2.2.2.2.1,x.2.2.2.2.2.2.2.2.1,x.2.2.2.2.2.2.2.2.2)⟩
def i_hopsOk.con:Con:=⟨415,⟨[e8,(1,vr15)],[]⟩,sh2,false,fun x=>i_hopsOk (x.1,x.2.1) x.2.2⟩
def i_IsReversed.con:Con:=⟨323,sh1,sh2,false,fun x=>i_IsReversed x⟩
def i_PartEgress.con:Con:=⟨278,sh19,sh1,false,fun x=>i_PartEgress (x.1,x.2.1,x.2.2.1,x.2.2.2.1) x.2.2.2.2⟩
def i_RemoteEnd.con:Con:=⟨223,sh35,sh7,false,fun x=>i_RemoteEnd (x.1,x.2.1) x.2.2.1 x.2.2.2⟩
def i_PartIngress.con:Con:=⟨273,sh19,sh1,false,fun x=>i_PartIngress (x.1,x.2.1,x.2.2.1,x.2.2.2.1) x.2.2.2.2⟩
def i_ValidPart.con:Con:=⟨396,sh79,sh2,false,fun x=>i_ValidPart (x.1,x.2.1) (x.2.2.1,x.2.2.2.1,x.2.2.2.2.1,x.2.2.2.2.2)⟩
def i_placeOf.con:Con:=⟨397,sh1,sh1,false,fun x=>i_placeOf x⟩
def i_WellFormedPath.con:Con:=⟨354,sh51,sh2,false,fun x=>i_WellFormedPath (x.1,x.2.1) x.2.2⟩
def i_PathSteps.con:Con:=⟨292,sh8,⟨[e6],[(0,ow16)]⟩,false,fun x=>i_PathSteps x⟩
def i_numbered.con:Con:=⟨398,⟨[(0,.one (.var (.sl tStep)))],[]⟩,sh16,false,fun x=>i_numbered x⟩
def i_InterfacesUsed.con:Con:=⟨355,sh8,sh16,false,fun x=>i_InterfacesUsed x⟩
def i_SimplePath.con:Con:=⟨271,sh51,sh2,false,fun x=>i_SimplePath (x.1,x.2.1) x.2.2⟩
def i_AddMod.con:Con:=⟨325,sh7,sh1,false,fun x=>i_AddMod x.1 x.2⟩
def i_SubMod.con:Con:=⟨324,sh7,sh1,false,fun x=>i_SubMod x.1 x.2⟩
def i_Mod.con:Con:=⟨449,sh7,sh1,false,fun x=>i_Mod x.1 x.2⟩
def i_Digest.con:Con:=⟨443,sh20,sh1,false,fun x=>i_Digest x⟩
def i_ComputeMAC.con:Con:=⟨429,sh80,sh1,false,fun x=>i_ComputeMAC x.1 x.2⟩
def i_HopMAC.con:Con:=⟨416,sh101,sh1,false,fun x=>i_HopMAC x.1 x.2.1 x.2.2.1 (x.2.2.2.1,x.2.2.2.2.1,x.2.2.2.2.2.1,x.2.2.2.2.2.2.1,x.2.2.2.2.2.2.2)⟩
def i_VerifyHop.con:Con:=⟨399,sh102,sh2,false,fun x=>i_VerifyHop (x.1,x.2.1) x.2.2.1 x.2.2.2.1 (x.2.2.2.2.1,x.2.2.2.2.2.1,x.2.2.2.2.2.2.1,x.2.2.2.2.2.2.2.1,x.2.2.2.2.2.2.2.2)⟩
def i_VerifyCurrentHop.con:Con:=⟨357,⟨[e8,e28],[]⟩,sh50,false,fun x=>i_VerifyCurrentHop (x.1,x.2.1) (x.2.2.1,x.2.2.2.1,x.2.2.2.2.1,x.2.2.2.2.2.1,x.2.2.2.2.2.2.1,x.2.2.2.2.2.2.2.1,x.2.2.2.2.2.2.2.2.1,x.2.2.2.2.2.2.2.2.2.1,x.2.2.2.2.2.2.2.2.2.2.1,x.2.2.2.2.2.2.2.2.2.2.2)⟩
def i_HopValidAt.con:Con:=⟨400,⟨[e17,e1],[]⟩,sh2,false,fun x=>i_HopValidAt (x.1,x.2.1,x.2.2.1,x.2.2.2.1,x.2.2.2.2.1) x.2.2.2.2.2⟩
def i_CurrentHopValid.con:Con:=⟨358,sh53,sh2,false,fun x=>i_CurrentHopValid (x.1,x.2.1,x.2.2.1,x.2.2.2.1,x.2.2.2.2.1,x.2.2.2.2.2.1,x.2.2.2.2.2.2.1,x.2.2.2.2.2.2.2.1,x.2.2.2.2.2.2.2.2.1,x.2.2.2.2.2.2.2.2.2.1) x.2.2.2.2.2.2.2.2.2.2⟩
def i_checkHop.con:Con:=⟨274,sh103,sh53,false,fun x=>i_checkHop (x.1,x.2.1) x.2.2.1 (x.2.2.2.1,x.2.2.2.2.1,x.2.2.2.2.2.1,x.2.2.2.2.2.2.1,x.2.2.2.2.2.2.2.1,x.2.2.2.2.2.2.2.2.1,x.2.2.2.2.2.2.2.2.2.1,x.2.2.2.2.2.2.2.2.2.2.1,x.2.2.2.2.2.2.2.2.2.2.2.1,x.2.2.2.2.2.2.2.2.2.2.2.2)⟩
def i_lastOfPart.con:Con:=⟨275,sh10,sh2,false,fun x=>i_lastOfPart (x.1,x.2.1,x.2.2.1,x.2.2.2.1,x.2.2.2.2.1,x.2.2.2.2.2.1,x.2.2.2.2.2.2.1,x.2.2.2.2.2.2.2.1,x.2.2.2.2.2.2.2.2.1,x.2.2.2.2.2.2.2.2.2)⟩
def i_AtLastHop.con:Con:=⟨276,sh10,sh2,false,fun x=>i_AtLastHop (x.1,x.2.1,x.2.2.1,x.2.2.2.1,x.2.2.2.2.1,x.2.2.2.2.2.1,x.2.2.2.2.2.2.1,x.2.2.2.2.2.2.2.1,x.2.2.2.2.2.2.2.2.1,x.2.2.2.2.2.2.2.2.2)⟩
def i_AdvanceHop.con:Con:=⟨277,sh10,sh13,false,fun x=>i_AdvanceHop (x.1,x.2.1,x.2.2.1,x.2.2.2.1,x.2.2.2.2.1,x.2.2.2.2.2.1,x.2.2.2.2.2.2.1,x.2.2.2.2.2.2.2.1,x.2.2.2.2.2.2.2.2.1,x.2.2.2.2.2.2.2.2.2)⟩
def i_InterfaceKind.con:Con:=⟨360,sh35,sh1,false,fun x=>i_InterfaceKind (x.1,x.2.1) x.2.2.1 x.2.2.2⟩
def i_TransitAllowed.con:Con:=⟨359,sh7,sh2,false,fun x=>i_TransitAllowed x.1 x.2⟩
def i_StepAllowed.con:Con:=⟨279,⟨[e8,e54],[]⟩,sh2,false,fun x=>i_StepAllowed (x.1,x.2.1) (x.2.2.1,x.2.2.2.1,x.2.2.2.2)⟩
def i_Contains.con:Con:=⟨280,sh7,sh2,false,fun x=>i_Contains x.1 x.2⟩
def i_decide.con:Con:=⟨163,sh104,⟨[e57,e1],[]⟩,false,fun x=>i_decide (x.1,x.2.1) x.2.2.1 x.2.2.2.1 x.2.2.2.2.1 x.2.2.2.2.2.1 (x.2.2.2.2.2.2.1,x.2.2.2.2.2.2.2.1,x.2.2.2.2.2.2.2.2.1,x.2.2.2.2.2.2.2.2.2.1,x.2.2.2.2.2.2.2.2.2.2.1,x.2.2.2.2.2.2.2.2.2.2.2.1,x.2.2.2.2.2.2.2.2.2.2.2.2.1,x.2.2.2.2.2.2.2.2.2.2.2.2.2.1,x.2.2.2.2.2.2.2.2.2.2.2.2.2.2.1,x.2.2.2.2.2.2.2.2.2.2.2.2.2.2.2)⟩
def i_UsedCount.con:Con:=⟨363,sh60,sh1,false,fun x=>i_UsedCount (x.1,x.2.1,x.2.2.1) x.2.2.2.1 x.2.2.2.2.1 x.2.2.2.2.2⟩
def i_Transmit.con:Con:=⟨285,sh81,sh107,false,fun x=>i_Transmit (x.1,x.2.1,x.2.2.1) x.2.2.2.1 x.2.2.2.2.1 x.2.2.2.2.2.1 x.2.2.2.2.2.2⟩
def i_Network_send.con:Con:=⟨165,⟨[e18,e1,(2,ag17)],[o3,o2,o1,o4]⟩,sh12,false,fun x=>i_Network_send ((x.2.2.2.2.2.2.2.2.2.2.2.2.2.1,x.2.2.2.2.2.2.2.2.2.2.2.2.2.2.1),(x.2.2.2.2.2.2.2.2.2.2.2.2.2.2.2.1,x.2.2.2.2.2.2.2.2.2.2.2.2.2.2.2.2.1),(x.2.2.2.2.2.2.2.2.2.2.2.2.2.2.2.2.2.1,x.2.2.2.2.2.2.2.2.2.2.2.2.2.2.2.2.2.2.1,x.2.2.2.2.2.2.2.2.2.2.2.2.2.2.2.2.2.2.2.1),x.2.2.2.2.2.2.2.2.2.2.2.2.2.2.2.2.2.2.2.2.1,x.2.2.2.2.2.2.2.2.2.2.2.2.2.2.2.2.2.2.2.2.2.1,x.2.2.2.2.2.2.2.2.2.2.2.2.2.2.2.2.2.2.2.2.2.2.2.1,x.2.2.2.2.2.2.2.2.2.2.2.2.2.2.2.2.2.2.2.2.2.2.2.2.1,x.2.2.2.2.2.2.2.2.2.2.2.2.2.2.2.2.2.2.2.2.2.2.2.2.2,x.2.2.2.2.2.2.2.2.2.2.2.2.2.2.2.2.2.2.2.2.2.2.1) x.1 (x.2.1,x.2.2.1,(x.2.2.2.1,x.2.2.2.2.1,x.2.2.2.2.2.1,x.2.2.2.2.2.2.1,x.2.2.2.2.2.2.2.1,x.2.2.2.2.2.2.2.2.1,x.2.2.2.2.2.2.2.2.2.1,x.2.2.2.2.2.2.2.2.2.2.1,x.2.2.2.2.2.2.2.2.2.2.2.1,x.2.2.2.2.2.2.2.2.2.2.2.2.1))⟩
def i_FindInbox.con:Con:=⟨166,⟨[e51,e1,e5],[]⟩,sh1,false,fun x=>i_FindInbox x.1 x.2.1 x.2.2⟩
def i_comesTo.con:Con:=⟨286,sh36,sh2,false,fun x=>i_comesTo (x.1,x.2.1,x.2.2.1,x.2.2.2.1) (x.2.2.2.2.1,x.2.2.2.2.2.1,x.2.2.2.2.2.2.1,x.2.2.2.2.2.2.2.1,x.2.2.2.2.2.2.2.2.1,x.2.2.2.2.2.2.2.2.2.1,x.2.2.2.2.2.2.2.2.2.2.1,x.2.2.2.2.2.2.2.2.2.2.2.1,x.2.2.2.2.2.2.2.2.2.2.2.2.1,x.2.2.2.2.2.2.2.2.2.2.2.2.2)⟩
def i_HandleData.con:Con:=⟨167,sh36,sh49,false,fun x=>i_HandleData (x.1,x.2.1,x.2.2.1,x.2.2.2.1) (x.2.2.2.2.1,x.2.2.2.2.2.1,x.2.2.2.2.2.2.1,x.2.2.2.2.2.2.2.1,x.2.2.2.2.2.2.2.2.1,x.2.2.2.2.2.2.2.2.2.1,x.2.2.2.2.2.2.2.2.2.2.1,x.2.2.2.2.2.2.2.2.2.2.2.1,x.2.2.2.2.2.2.2.2.2.2.2.2.1,x.2.2.2.2.2.2.2.2.2.2.2.2.2)⟩
def i_ReverseKind.con:Con:=⟨219,sh1,sh1,false,fun x=>i_ReverseKind x⟩
def i_BetaAfter.con:Con:=⟨220,sh19,sh1,false,fun x=>i_BetaAfter (x.1,x.2.1,x.2.2.1,x.2.2.2.1) x.2.2.2.2⟩
def i_reversedHops.con:Con:=⟨221,sh54,sh69,false,fun x=>i_reversedHops x⟩
def i_ReversePart.con:Con:=⟨126,sh46,sh47,false,fun x=>i_ReversePart (x.1,x.2.1,x.2.2.1,x.2.2.2)⟩
def i_ReversePath.con:Con:=⟨59,sh8,sh21,false,fun x=>i_ReversePath x⟩
def i_Endpoints.con:Con:=⟨226,sh8,sh7,false,fun x=>i_Endpoints x⟩
def i_NewPacket.con:Con:=⟨128,sh100,sh13,false,fun x=>i_NewPacket x.1 x.2.1 x.2.2.1 x.2.2.2.1 x.2.2.2.2⟩
def i_Reply.con:Con:=⟨287,sh105,sh13,false,fun x=>i_Reply (x.1,x.2.1,x.2.2.1,x.2.2.2.1,x.2.2.2.2.1,x.2.2.2.2.2.1,x.2.2.2.2.2.2.1,x.2.2.2.2.2.2.2.1,x.2.2.2.2.2.2.2.2.1,x.2.2.2.2.2.2.2.2.2.1) x.2.2.2.2.2.2.2.2.2.2.1 x.2.2.2.2.2.2.2.2.2.2.2.1 x.2.2.2.2.2.2.2.2.2.2.2.2⟩
def i_MakeAck.con:Con:=⟨168,sh36,sh50,false,fun x=>i_MakeAck (x.1,x.2.1,x.2.2.1,x.2.2.2.1) (x.2.2.2.2.1,x.2.2.2.2.2.1,x.2.2.2.2.2.2.1,x.2.2.2.2.2.2.2.1,x.2.2.2.2.2.2.2.2.1,x.2.2.2.2.2.2.2.2.2.1,x.2.2.2.2.2.2.2.2.2.2.1,x.2.2.2.2.2.2.2.2.2.2.2.1,x.2.2.2.2.2.2.2.2.2.2.2.2.1,x.2.2.2.2.2.2.2.2.2.2.2.2.2)⟩
def i_HandleAck.con:Con:=⟨288,⟨[e16,e28],[]⟩,sh26,false,fun x=>i_HandleAck (x.1,x.2.1,x.2.2.1,x.2.2.2.1,x.2.2.2.2.1,x.2.2.2.2.2.1,x.2.2.2.2.2.2.1,x.2.2.2.2.2.2.2.1,x.2.2.2.2.2.2.2.2.1) (x.2.2.2.2.2.2.2.2.2.1,x.2.2.2.2.2.2.2.2.2.2.1,x.2.2.2.2.2.2.2.2.2.2.2.1,x.2.2.2.2.2.2.2.2.2.2.2.2.1,x.2.2.2.2.2.2.2.2.2.2.2.2.2.1,x.2.2.2.2.2.2.2.2.2.2.2.2.2.2.1,x.2.2.2.2.2.2.2.2.2.2.2.2.2.2.2.1,x.2.2.2.2.2.2.2.2.2.2.2.2.2.2.2.2.1,x.2.2.2.2.2.2.2.2.2.2.2.2.2.2.2.2.2.1,x.2.2.2.2.2.2.2.2.2.2.2.2.2.2.2.2.2.2)⟩
def i_ReadVarint.con:Con:=⟨417,sh29,⟨[e2,e1,e13],[]⟩,false,fun x=>i_ReadVarint x.1 x.2⟩
def i_DecodeInts.con:Con:=⟨401,⟨[e14,e1,e5],[]⟩,sh106,false,fun x=>i_DecodeInts x.1 x.2.1 x.2.2⟩
def i_DecodeRevocation.con:Con:=⟨364,sh22,⟨[e44,e41],[]⟩,false,fun x=>i_DecodeRevocation x⟩
def i_Affects.con:Con:=⟨365,⟨[e11,e54],[]⟩,sh2,false,fun x=>i_Affects x.1 (x.2.1,x.2.2.1,x.2.2.2)⟩
def i_nextPath.con:Con:=⟨366,sh18,sh1,false,fun x=>i_nextPath (x.1,x.2.1,x.2.2.1,x.2.2.2.1,x.2.2.2.2.1,x.2.2.2.2.2.1,x.2.2.2.2.2.2.1,x.2.2.2.2.2.2.2.1,x.2.2.2.2.2.2.2.2)⟩
def i_AddRevocation.con:Con:=⟨367,⟨[e37,e54],[]⟩,sh56,false,fun x=>i_AddRevocation x.1 (x.2.1,x.2.2.1,x.2.2.2)⟩
def i_HandleRevocation.con:Con:=⟨289,⟨[e16,e28,e5],[]⟩,sh26,false,fun x=>i_HandleRevocation (x.1,x.2.1,x.2.2.1,x.2.2.2.1,x.2.2.2.2.1,x.2.2.2.2.2.1,x.2.2.2.2.2.2.1,x.2.2.2.2.2.2.2.1,x.2.2.2.2.2.2.2.2.1) (x.2.2.2.2.2.2.2.2.2.1,x.2.2.2.2.2.2.2.2.2.2.1,x.2.2.2.2.2.2.2.2.2.2.2.1,x.2.2.2.2.2.2.2.2.2.2.2.2.1,x.2.2.2.2.2.2.2.2.2.2.2.2.2.1,x.2.2.2.2.2.2.2.2.2.2.2.2.2.2.1,x.2.2.2.2.2.2.2.2.2.2.2.2.2.2.2.1,x.2.2.2.2.2.2.2.2.2.2.2.2.2.2.2.2.1,x.2.2.2.2.2.2.2.2.2.2.2.2.2.2.2.2.2.1,x.2.2.2.2.2.2.2.2.2.2.2.2.2.2.2.2.2.2.1) x.2.2.2.2.2.2.2.2.2.2.2.2.2.2.2.2.2.2.2⟩
def i_Network_tell.con:Con:=⟨169,sh59,sh12,false,fun x=>i_Network_tell ((x.2.2.2.2.2.2.2.2.2.2.2.1,x.2.2.2.2.2.2.2.2.2.2.2.2.1),(x.2.2.2.2.2.2.2.2.2.2.2.2.2.1,x.2.2.2.2.2.2.2.2.2.2.2.2.2.2.1),(x.2.2.2.2.2.2.2.2.2.2.2.2.2.2.2.1,x.2.2.2.2.2.2.2.2.2.2.2.2.2.2.2.2.1,x.2.2.2.2.2.2.2.2.2.2.2.2.2.2.2.2.2.1),x.2.2.2.2.2.2.2.2.2.2.2.2.2.2.2.2.2.2.1,x.2.2.2.2.2.2.2.2.2.2.2.2.2.2.2.2.2.2.2.1,x.2.2.2.2.2.2.2.2.2.2.2.2.2.2.2.2.2.2.2.2.2.1,x.2.2.2.2.2.2.2.2.2.2.2.2.2.2.2.2.2.2.2.2.2.2.1,x.2.2.2.2.2.2.2.2.2.2.2.2.2.2.2.2.2.2.2.2.2.2.2,x.2.2.2.2.2.2.2.2.2.2.2.2.2.2.2.2.2.2.2.2.1) x.1 (x.2.1,x.2.2.1,x.2.2.2.1,x.2.2.2.2.1,x.2.2.2.2.2.1,x.2.2.2.2.2.2.1,x.2.2.2.2.2.2.2.1,x.2.2.2.2.2.2.2.2.1,x.2.2.2.2.2.2.2.2.2.1,x.2.2.2.2.2.2.2.2.2.2.1)⟩
def i_Min.con:Con:=⟨290,sh7,sh1,false,fun x=>i_Min x.1 x.2⟩
def i_TruncatePath.con:Con:=⟨172,sh10,sh8,false,fun x=>i_TruncatePath (x.1,x.2.1,x.2.2.1,x.2.2.2.1,x.2.2.2.2.1,x.2.2.2.2.2.1,x.2.2.2.2.2.2.1,x.2.2.2.2.2.2.2.1,x.2.2.2.2.2.2.2.2.1,x.2.2.2.2.2.2.2.2.2)⟩
def i_AppendVarint.con:Con:=⟨418,sh29,sh30,false,fun x=>i_AppendVarint x.1 x.2⟩
def i_appendInts.con:Con:=⟨402,⟨[e14,e53],[]⟩,sh22,false,fun x=>i_appendInts x.1 x.2⟩
def i_EncodeInts.con:Con:=⟨368,sh20,sh22,false,fun x=>i_EncodeInts x⟩
def i_EncodeRevocation.con:Con:=⟨291,sh32,sh22,false,fun x=>i_EncodeRevocation (x.1,x.2.1,x.2.2)⟩
def i_MakeRevocation.con:Con:=⟨170,sh108,sh13,false,fun x=>i_MakeRevocation (x.1,x.2.1) x.2.2.1 x.2.2.2.1 x.2.2.2.2.1 (x.2.2.2.2.2.1,x.2.2.2.2.2.2.1,x.2.2.2.2.2.2.2.1,x.2.2.2.2.2.2.2.2.1,x.2.2.2.2.2.2.2.2.2.1,x.2.2.2.2.2.2.2.2.2.2.1,x.2.2.2.2.2.2.2.2.2.2.2.1,x.2.2.2.2.2.2.2.2.2.2.2.2.1,x.2.2.2.2.2.2.2.2.2.2.2.2.2.1,x.2.2.2.2.2.2.2.2.2.2.2.2.2.2)⟩
def i_PathLength.con:Con:=⟨171,sh8,sh1,false,fun x=>i_PathLength x⟩
def i_Network_process'1.con:Con:=⟨78,sh34,sh12,false,fun x=>i_Network_process'1 ((x.2.2.2.2.2.2.2.2.2.2.2.2.1,x.2.2.2.2.2.2.2.2.2.2.2.2.2.1),(x.2.2.2.2.2.2.2.2.2.2.2.2.2.2.1,x.2.2.2.2.2.2.2.2.2.2.2.2.2.2.2.1),(x.2.2.2.2.2.2.2.2.2.2.2.2.2.2.2.2.1,x.2.2.2.2.2.2.2.2.2.2.2.2.2.2.2.2.2.1,x.2.2.2.2.2.2.2.2.2.2.2.2.2.2.2.2.2.2.1),x.2.2.2.2.2.2.2.2.2.2.2.2.2.2.2.2.2.2.2.1,x.2.2.2.2.2.2.2.2.2.2.2.2.2.2.2.2.2.2.2.2.1,x.2.2.2.2.2.2.2.2.2.2.2.2.2.2.2.2.2.2.2.2.2.2.1,x.2.2.2.2.2.2.2.2.2.2.2.2.2.2.2.2.2.2.2.2.2.2.2.1,x.2.2.2.2.2.2.2.2.2.2.2.2.2.2.2.2.2.2.2.2.2.2.2.2,x.2.2.2.2.2.2.2.2.2.2.2.2.2.2.2.2.2.2.2.2.2.1) x.1 x.2.1 (x.2.2.1,x.2.2.2.1,x.2.2.2.2.1,x.2.2.2.2.2.1,x.2.2.2.2.2.2.1,x.2.2.2.2.2.2.2.1,x.2.2.2.2.2.2.2.2.1,x.2.2.2.2.2.2.2.2.2.1,x.2.2.2.2.2.2.2.2.2.2.1,x.2.2.2.2.2.2.2.2.2.2.2.1)⟩
def i_Network_process.con:Con:=⟨78,sh34,sh12,false,fun x=>i_Network_process ((x.2.2.2.2.2.2.2.2.2.2.2.2.1,x.2.2.2.2.2.2.2.2.2.2.2.2.2.1),(x.2.2.2.2.2.2.2.2.2.2.2.2.2.2.1,x.2.2.2.2.2.2.2.2.2.2.2.2.2.2.2.1),(x.2.2.2.2.2.2.2.2.2.2.2.2.2.2.2.2.1,x.2.2.2.2.2.2.2.2.2.2.2.2.2.2.2.2.2.1,x.2.2.2.2.2.2.2.2.2.2.2.2.2.2.2.2.2.2.1),x.2.2.2.2.2.2.2.2.2.2.2.2.2.2.2.2.2.2.2.1,x.2.2.2.2.2.2.2.2.2.2.2.2.2.2.2.2.2.2.2.2.1,x.2.2.2.2.2.2.2.2.2.2.2.2.2.2.2.2.2.2.2.2.2.2.1,x.2.2.2.2.2.2.2.2.2.2.2.2.2.2.2.2.2.2.2.2.2.2.2.1,x.2.2.2.2.2.2.2.2.2.2.2.2.2.2.2.2.2.2.2.2.2.2.2.2,x.2.2.2.2.2.2.2.2.2.2.2.2.2.2.2.2.2.2.2.2.2.1) x.1 x.2.1 (x.2.2.1,x.2.2.2.1,x.2.2.2.2.1,x.2.2.2.2.2.1,x.2.2.2.2.2.2.1,x.2.2.2.2.2.2.2.1,x.2.2.2.2.2.2.2.2.1,x.2.2.2.2.2.2.2.2.2.1,x.2.2.2.2.2.2.2.2.2.2.1,x.2.2.2.2.2.2.2.2.2.2.2.1)⟩
def i_Network_deliver.con:Con:=⟨102,sh62,sh12,false,fun x=>i_Network_deliver ((x.2.1,x.2.2.1),(x.2.2.2.1,x.2.2.2.2.1),(x.2.2.2.2.2.1,x.2.2.2.2.2.2.1,x.2.2.2.2.2.2.2.1),x.2.2.2.2.2.2.2.2.1,x.2.2.2.2.2.2.2.2.2.1,x.2.2.2.2.2.2.2.2.2.2.2.1,x.2.2.2.2.2.2.2.2.2.2.2.2.1,x.2.2.2.2.2.2.2.2.2.2.2.2.2,x.2.2.2.2.2.2.2.2.2.2.1) x.1⟩
def i_DeliverPackets.con:Con:=⟨29,sh42,sh57,false,fun x=>i_DeliverPackets ((x.1,x.2.1),(x.2.2.1,x.2.2.2.1),(x.2.2.2.2.1,x.2.2.2.2.2.1,x.2.2.2.2.2.2.1),x.2.2.2.2.2.2.2.1,x.2.2.2.2.2.2.2.2.1,x.2.2.2.2.2.2.2.2.2.1,x.2.2.2.2.2.2.2.2.2.2.1,x.2.2.2.2.2.2.2.2.2.2.2.1,x.2.2.2.2.2.2.2.2.2.2.2.2.1) x.2.2.2.2.2.2.2.2.2.2.2.2.2⟩
def l_eqAS.con:Con:=⟨227,⟨[(0,ag21),(1,ag21)],[]⟩,sh2,false,fun x=>l_eqAS (x.1,x.2.1,x.2.2.1) (x.2.2.2.1,x.2.2.2.2.1,x.2.2.2.2.2)⟩
def l_eqASS.con:Con:=⟨129,⟨[(0,vr26),(1,vr26)],[]⟩,sh2,false,fun x=>l_eqASS x.1 x.2⟩
def l_eqLink.con:Con:=⟨228,sh84,sh2,false,fun x=>l_eqLink (x.1,x.2.1,x.2.2.1,x.2.2.2.1,x.2.2.2.2.1) (x.2.2.2.2.2.1,x.2.2.2.2.2.2.1,x.2.2.2.2.2.2.2.1,x.2.2.2.2.2.2.2.2.1,x.2.2.2.2.2.2.2.2.2)⟩
def l_eqLinkS.con:Con:=⟨130,⟨[(0,vr27),(1,vr27)],[]⟩,sh2,false,fun x=>l_eqLinkS x.1 x.2⟩
def l_eqTopology.con:Con:=⟨61,⟨[e8,(1,ag2)],[]⟩,sh2,false,fun x=>l_eqTopology (x.1,x.2.1) (x.2.2.1,x.2.2.2)⟩
def l_eqHop.con:Con:=⟨387,sh84,sh2,false,fun x=>l_eqHop (x.1,x.2.1,x.2.2.1,x.2.2.2.1,x.2.2.2.2.1) (x.2.2.2.2.2.1,x.2.2.2.2.2.2.1,x.2.2.2.2.2.2.2.1,x.2.2.2.2.2.2.2.2.1,x.2.2.2.2.2.2.2.2.2)⟩
def l_eqHopS.con:Con:=⟨327,sh110,sh2,false,fun x=>l_eqHopS x.1 x.2⟩
def l_eqSegment.con:Con:=⟨229,sh82,sh2,false,fun x=>l_eqSegment (x.1,x.2.1,x.2.2.1) (x.2.2.2.1,x.2.2.2.2.1,x.2.2.2.2.2)⟩
def l_eqSegmentS.con:Con:=⟨131,⟨[e56,(1,vr20)],[]⟩,sh2,false,fun x=>l_eqSegmentS x.1 x.2⟩
def l_eqSegmentDatabase.con:Con:=⟨62,⟨[e42,(1,ag13)],[]⟩,sh2,false,fun x=>l_eqSegmentDatabase (x.1,x.2.1) (x.2.2.1,x.2.2.2)⟩
def l_eqReservation.con:Con:=⟨230,sh84,sh2,false,fun x=>l_eqReservation (x.1,x.2.1,x.2.2.1,x.2.2.2.1,x.2.2.2.2.1) (x.2.2.2.2.2.1,x.2.2.2.2.2.2.1,x.2.2.2.2.2.2.2.1,x.2.2.2.2.2.2.2.2.1,x.2.2.2.2.2.2.2.2.2)⟩
def l_eqReservationS.con:Con:=⟨132,⟨[e23,(1,vr10)],[]⟩,sh2,false,fun x=>l_eqReservationS x.1 x.2⟩
def l_eqUsage.con:Con:=⟨231,⟨[(0,ag22),(1,ag22)],[]⟩,sh2,false,fun x=>l_eqUsage (x.1,x.2.1,x.2.2.1,x.2.2.2.1) (x.2.2.2.2.1,x.2.2.2.2.2.1,x.2.2.2.2.2.2.1,x.2.2.2.2.2.2.2)⟩
def l_eqUsageS.con:Con:=⟨133,⟨[(0,vr21),(1,vr21)],[]⟩,sh2,false,fun x=>l_eqUsageS x.1 x.2⟩
def l_eqScheduler.con:Con:=⟨63,⟨[e21,(1,ag8)],[]⟩,sh2,false,fun x=>l_eqScheduler (x.1,x.2.1,x.2.2.1) (x.2.2.2.1,x.2.2.2.2.1,x.2.2.2.2.2)⟩
def l_eqIntS.con:Con:=⟨64,⟨[e27,e53],[]⟩,sh2,false,fun x=>l_eqIntS x.1 x.2⟩
def l_eqPathPart.con:Con:=⟨293,sh111,sh2,false,fun x=>l_eqPathPart (x.1,x.2.1,x.2.2.1,x.2.2.2.1) (x.2.2.2.2.1,x.2.2.2.2.2.1,x.2.2.2.2.2.2.1,x.2.2.2.2.2.2.2)⟩
def l_eqPathPartS.con:Con:=⟨173,⟨[(0,vr28),(1,vr28)],[]⟩,sh2,false,fun x=>l_eqPathPartS x.1 x.2⟩
def l_eqPath.con:Con:=⟨79,sh83,sh2,false,fun x=>l_eqPath x.1 x.2⟩
def l_eqByteS.con:Con:=⟨80,sh78,sh2,false,fun x=>l_eqByteS x.1 x.2⟩
def l_eqPacket.con:Con:=⟨24,⟨[e12,e28],[]⟩,sh2,false,fun x=>l_eqPacket (x.1,x.2.1,x.2.2.1,x.2.2.2.1,x.2.2.2.2.1,x.2.2.2.2.2.1,x.2.2.2.2.2.2.1,x.2.2.2.2.2.2.2.1,x.2.2.2.2.2.2.2.2.1,x.2.2.2.2.2.2.2.2.2.1) (x.2.2.2.2.2.2.2.2.2.2.1,x.2.2.2.2.2.2.2.2.2.2.2.1,x.2.2.2.2.2.2.2.2.2.2.2.2.1,x.2.2.2.2.2.2.2.2.2.2.2.2.2.1,x.2.2.2.2.2.2.2.2.2.2.2.2.2.2.1,x.2.2.2.2.2.2.2.2.2.2.2.2.2.2.2.1,x.2.2.2.2.2.2.2.2.2.2.2.2.2.2.2.2.1,x.2.2.2.2.2.2.2.2.2.2.2.2.2.2.2.2.2.1,x.2.2.2.2.2.2.2.2.2.2.2.2.2.2.2.2.2.2.1,x.2.2.2.2.2.2.2.2.2.2.2.2.2.2.2.2.2.2.2)⟩
def l_eqPacketInFlight.con:Con:=⟨134,⟨[e57,(1,ag17)],[]⟩,sh2,false,fun x=>l_eqPacketInFlight (x.1,x.2.1,(x.2.2.1,x.2.2.2.1,x.2.2.2.2.1,x.2.2.2.2.2.1,x.2.2.2.2.2.2.1,x.2.2.2.2.2.2.2.1,x.2.2.2.2.2.2.2.2.1,x.2.2.2.2.2.2.2.2.2.1,x.2.2.2.2.2.2.2.2.2.2.1,x.2.2.2.2.2.2.2.2.2.2.2.1)) (x.2.2.2.2.2.2.2.2.2.2.2.2.1,x.2.2.2.2.2.2.2.2.2.2.2.2.2.1,(x.2.2.2.2.2.2.2.2.2.2.2.2.2.2.1,x.2.2.2.2.2.2.2.2.2.2.2.2.2.2.2.1,x.2.2.2.2.2.2.2.2.2.2.2.2.2.2.2.2.1,x.2.2.2.2.2.2.2.2.2.2.2.2.2.2.2.2.2.1,x.2.2.2.2.2.2.2.2.2.2.2.2.2.2.2.2.2.2.1,x.2.2.2.2.2.2.2.2.2.2.2.2.2.2.2.2.2.2.2.1,x.2.2.2.2.2.2.2.2.2.2.2.2.2.2.2.2.2.2.2.2.1,x.2.2.2.2.2.2.2.2.2.2.2.2.2.2.2.2.2.2.2.2.2.1,x.2.2.2.2.2.2.2.2.2.2.2.2.2.2.2.2.2.2.2.2.2.2.1,x.2.2.2.2.2.2.2.2.2.2.2.2.2.2.2.2.2.2.2.2.2.2.2))⟩
def l_eqPacketInFlightS.con:Con:=⟨65,⟨[(0,vr22),(1,vr22)],[]⟩,sh2,false,fun x=>l_eqPacketInFlightS x.1 x.2⟩
def l_eqMessage.con:Con:=⟨136,⟨[(0,ag20),(1,ag20)],[]⟩,sh2,false,fun x=>l_eqMessage x.1 x.2⟩
def l_eqMessageS.con:Con:=⟨68,sh113,sh2,false,fun x=>l_eqMessageS x.1 x.2⟩
def l_eqPathS.con:Con:=⟨69,⟨[e39,(1,vr12)],[]⟩,sh2,false,fun x=>l_eqPathS x.1 x.2⟩
def l_eqRevocation.con:Con:=⟨137,⟨[e44,e54],[]⟩,sh2,false,fun x=>l_eqRevocation (x.1,x.2.1,x.2.2.1) (x.2.2.2.1,x.2.2.2.2.1,x.2.2.2.2.2)⟩
def l_eqRevocationS.con:Con:=⟨70,⟨[e37,(1,vr13)],[]⟩,sh2,false,fun x=>l_eqRevocationS x.1 x.2⟩
def l_eqFlow.con:Con:=⟨17,⟨[e16,(1,ag7)],[]⟩,sh2,false,fun x=>l_eqFlow (x.1,x.2.1,x.2.2.1,x.2.2.2.1,x.2.2.2.2.1,x.2.2.2.2.2.1,x.2.2.2.2.2.2.1,x.2.2.2.2.2.2.2.1,x.2.2.2.2.2.2.2.2.1) (x.2.2.2.2.2.2.2.2.2.1,x.2.2.2.2.2.2.2.2.2.2.1,x.2.2.2.2.2.2.2.2.2.2.2.1,x.2.2.2.2.2.2.2.2.2.2.2.2.1,x.2.2.2.2.2.2.2.2.2.2.2.2.2.1,x.2.2.2.2.2.2.2.2.2.2.2.2.2.2.1,x.2.2.2.2.2.2.2.2.2.2.2.2.2.2.2.1,x.2.2.2.2.2.2.2.2.2.2.2.2.2.2.2.2.1,x.2.2.2.2.2.2.2.2.2.2.2.2.2.2.2.2.2)⟩
def l_eqFlowS.con:Con:=⟨66,⟨[(0,vr23),(1,vr23)],[]⟩,sh2,false,fun x=>l_eqFlowS x.1 x.2⟩
def l_eqInbox.con:Con:=⟨135,⟨[e32,(1,ag10)],[]⟩,sh2,false,fun x=>l_eqInbox (x.1,x.2.1,x.2.2.1,x.2.2.2.1) (x.2.2.2.2.1,x.2.2.2.2.2.1,x.2.2.2.2.2.2.1,x.2.2.2.2.2.2.2)⟩
def l_eqInboxS.con:Con:=⟨67,⟨[e51,(1,vr19)],[]⟩,sh2,false,fun x=>l_eqInboxS x.1 x.2⟩
def l_eqNetwork.con:Con:=⟨16,⟨[e36,(1,ag12)],[]⟩,sh2,false,fun x=>l_eqNetwork ((x.1,x.2.1),(x.2.2.1,x.2.2.2.1),(x.2.2.2.2.1,x.2.2.2.2.2.1,x.2.2.2.2.2.2.1),x.2.2.2.2.2.2.2.1,x.2.2.2.2.2.2.2.2.1,x.2.2.2.2.2.2.2.2.2.1,x.2.2.2.2.2.2.2.2.2.2.1,x.2.2.2.2.2.2.2.2.2.2.2.1,x.2.2.2.2.2.2.2.2.2.2.2.2.1) ((x.2.2.2.2.2.2.2.2.2.2.2.2.2.1,x.2.2.2.2.2.2.2.2.2.2.2.2.2.2.1),(x.2.2.2.2.2.2.2.2.2.2.2.2.2.2.2.1,x.2.2.2.2.2.2.2.2.2.2.2.2.2.2.2.2.1),(x.2.2.2.2.2.2.2.2.2.2.2.2.2.2.2.2.2.1,x.2.2.2.2.2.2.2.2.2.2.2.2.2.2.2.2.2.2.1,x.2.2.2.2.2.2.2.2.2.2.2.2.2.2.2.2.2.2.2.1),x.2.2.2.2.2.2.2.2.2.2.2.2.2.2.2.2.2.2.2.2.1,x.2.2.2.2.2.2.2.2.2.2.2.2.2.2.2.2.2.2.2.2.2.1,x.2.2.2.2.2.2.2.2.2.2.2.2.2.2.2.2.2.2.2.2.2.2.1,x.2.2.2.2.2.2.2.2.2.2.2.2.2.2.2.2.2.2.2.2.2.2.2.1,x.2.2.2.2.2.2.2.2.2.2.2.2.2.2.2.2.2.2.2.2.2.2.2.2.1,x.2.2.2.2.2.2.2.2.2.2.2.2.2.2.2.2.2.2.2.2.2.2.2.2.2)⟩
def l_markASS.con:Con:=⟨174,⟨[e25,e1],[(1000000,.win 3 tAS)]⟩,⟨[e2],[(1000000,.win 3 tAS)]⟩,false,fun x=>l_markASS x.2 x.1⟩
def l_markLinkS.con:Con:=⟨175,⟨[e25,e1],[(1000000,.win 5 tLk)]⟩,⟨[e2],[(1000000,.win 5 tLk)]⟩,false,fun x=>l_markLinkS x.2 x.1⟩
def l_markTopology.con:Con:=⟨81,⟨[(0,ag27),e1],[(1000000,.win 3 tAS),(1000001,.win 5 tLk)]⟩,⟨[e2],[(1000000,.win 3 tAS),(1000001,.win 5 tLk)]⟩,false,fun x=>l_markTopology (x.2.1,x.2.2) x.1⟩
def l_markHopS.con:Con:=⟨294,⟨[e25,e1],[(1000000,.win 5 tHop)]⟩,⟨[e2],[(1000000,.win 5 tHop)]⟩,false,fun x=>l_markHopS x.2 x.1⟩
def l_markSegmentS.con:Con:=⟨176,⟨[e25,e1],[(1000000,.win 3 tSg)]⟩,⟨[e2],[(1000000,.win 3 tSg)]⟩,false,fun x=>l_markSegmentS x.2 x.1⟩
def l_markSegmentDatabase.con:Con:=⟨82,⟨[(0,ag27),e1],[(1000000,.win 3 tSg),(1000001,.win 3 tSg)]⟩,⟨[e2],[(1000000,.win 3 tSg),(1000001,.win 3 tSg)]⟩,false,fun x=>l_markSegmentDatabase (x.2.1,x.2.2) x.1⟩
def l_markReservationS.con:Con:=⟨177,⟨[e25,e1],[(1000000,.win 5 tRs)]⟩,⟨[e2],[(1000000,.win 5 tRs)]⟩,false,fun x=>l_markReservationS x.2 x.1⟩
def l_markUsageS.con:Con:=⟨178,⟨[e25,e1],[(1000000,.win 4 tUs)]⟩,⟨[e2],[(1000000,.win 4 tUs)]⟩,false,fun x=>l_markUsageS x.2 x.1⟩
def l_markScheduler.con:Con:=⟨83,⟨[(0,.agg [.var ti,.row 1000000,.row 1000001]),e1],[(1000000,.win 5 tRs),(1000001,.win 4 tUs)]⟩,⟨[e2],[(1000000,.win 5 tRs),(1000001,.win 4 tUs)]⟩,false,fun x=>l_markScheduler (x.1,x.2.2.1,x.2.2.2) x.2.1⟩
def l_markIntS.con:Con:=⟨84,⟨[e25,e1],[(1000000,.win 1 ti)]⟩,⟨[e2],[(1000000,.win 1 ti)]⟩,false,fun x=>l_markIntS x.2 x.1⟩
def l_markPathPartS.con:Con:=⟨179,⟨[e25,e1],[(1000000,.win 4 tPp)]⟩,⟨[e2],[(1000000,.win 4 tPp)]⟩,false,fun x=>l_markPathPartS x.2 x.1⟩
def l_markByteS.con:Con:=⟨89,⟨[e25,e1],[(1000000,.win 1 tb)]⟩,⟨[e2],[(1000000,.win 1 tb)]⟩,false,fun x=>l_markByteS x.2 x.1⟩
def l_markPacketInFlightS.con:Con:=⟨85,⟨[e25,e1],[(1000000,.win 12 tFy)]⟩,⟨[e2],[(1000000,.win 12 tFy)]⟩,false,fun x=>l_markPacketInFlightS x.2 x.1⟩
def l_markMessageS.con:Con:=⟨180,⟨[e25,e1],[(1000000,.win 1 tMs)]⟩,⟨[e2],[(1000000,.win 1 tMs)]⟩,false,fun x=>l_markMessageS x.2 x.1⟩
def l_markPathS.con:Con:=⟨181,⟨[e25,e1],[(1000000,.win 1 tPt)]⟩,⟨[e2],[(1000000,.win 1 tPt)]⟩,false,fun x=>l_markPathS x.2 x.1⟩
def l_markRevocationS.con:Con:=⟨182,⟨[e25,e1],[(1000000,.win 3 tRv)]⟩,⟨[e2],[(1000000,.win 3 tRv)]⟩,false,fun x=>l_markRevocationS x.2 x.1⟩
def l_markFlowS.con:Con:=⟨86,⟨[e25,e1],[(1000000,.win 9 tFl)]⟩,⟨[e2],[(1000000,.win 9 tFl)]⟩,false,fun x=>l_markFlowS x.2 x.1⟩
def l_markInboxS.con:Con:=⟨87,⟨[e25,e1],[(1000000,.win 4 tIb)]⟩,⟨[e2],[(1000000,.win 4 tIb)]⟩,false,fun x=>l_markInboxS x.2 x.1⟩
def l_markNetwork.con:Con:=⟨25,⟨[(0,.agg [.row 1000000,.row 1000001,.row 1000002,.row 1000003,.var ti,.row 1000004,.row 1000005,.var ti,.row 1000006,.row 1000007,.row 1000008,.row 1000009,.var ti]),e1],[(1000000,.win 3 tAS),(1000001,.win 5 tLk),(1000002,.win 3 tSg),(1000003,.win 3 tSg),(1000004,.win 5 tRs),(1000005,.win 4 tUs),(1000006,.win 1 ti),(1000007,.win 12 tFy),(1000008,.win 9 tFl),(1000009,.win 4 tIb)]⟩,⟨[e2],[(1000000,.win 3 tAS),(1000001,.win 5 tLk),(1000002,.win 3 tSg),(1000003,.win 3 tSg),(1000004,.win 5 tRs),(1000005,.win 4 tUs),(1000006,.win 1 ti),(1000007,.win 12 tFy),(1000008,.win 9 tFl),(1000009,.win 4 tIb)]⟩,false,fun x=>l_markNetwork ((x.2.2.2.2.1,x.2.2.2.2.2.1),(x.2.2.2.2.2.2.1,x.2.2.2.2.2.2.2.1),(x.1,x.2.2.2.2.2.2.2.2.1,x.2.2.2.2.2.2.2.2.2.1),x.2.1,x.2.2.2.2.2.2.2.2.2.2.1,x.2.2.2.2.2.2.2.2.2.2.2.1,x.2.2.2.2.2.2.2.2.2.2.2.2.1,x.2.2.2.2.2.2.2.2.2.2.2.2.2,x.2.2.1) x.2.2.2.1⟩
def l_heldASS.con:Con:=⟨183,sh91,sh1,false,fun x=>l_heldASS x.1 x.2⟩
def l_heldLinkS.con:Con:=⟨184,sh92,sh1,false,fun x=>l_heldLinkS x.1 x.2⟩
def l_heldTopology.con:Con:=⟨90,sh28,sh1,false,fun x=>l_heldTopology (x.1,x.2.1) x.2.2⟩
def l_heldHopS.con:Con:=⟨295,⟨[e47,e1],[]⟩,sh1,false,fun x=>l_heldHopS x.1 x.2⟩
def l_heldSegmentS.con:Con:=⟨185,⟨[e56,e1],[]⟩,sh1,false,fun x=>l_heldSegmentS x.1 x.2⟩
def l_heldSegmentDatabase.con:Con:=⟨91,sh65,sh1,false,fun x=>l_heldSegmentDatabase (x.1,x.2.1) x.2.2⟩
def l_heldReservationS.con:Con:=⟨186,sh66,sh1,false,fun x=>l_heldReservationS x.1 x.2⟩
def l_heldUsageS.con:Con:=⟨187,sh93,sh1,false,fun x=>l_heldUsageS x.1 x.2⟩
def l_heldScheduler.con:Con:=⟨92,sh40,sh1,false,fun x=>l_heldScheduler (x.1,x.2.1,x.2.2.1) x.2.2.2⟩
def l_heldIntS.con:Con:=⟨93,sh41,sh1,false,fun x=>l_heldIntS x.1 x.2⟩
def l_heldPathPartS.con:Con:=⟨188,sh94,sh1,false,fun x=>l_heldPathPartS x.1 x.2⟩
def l_heldByteS.con:Con:=⟨189,sh29,sh1,false,fun x=>l_heldByteS x.1 x.2⟩
def l_heldPacketInFlightS.con:Con:=⟨94,sh95,sh1,false,fun x=>l_heldPacketInFlightS x.1 x.2⟩
def l_heldMessageS.con:Con:=⟨190,⟨[e50,e1],[]⟩,sh1,false,fun x=>l_heldMessageS x.1 x.2⟩
def l_heldPathS.con:Con:=⟨191,⟨[e39,e1],[]⟩,sh1,false,fun x=>l_heldPathS x.1 x.2⟩
def l_heldRevocationS.con:Con:=⟨192,sh67,sh1,false,fun x=>l_heldRevocationS x.1 x.2⟩
def l_heldFlowS.con:Con:=⟨95,sh96,sh1,false,fun x=>l_heldFlowS x.1 x.2⟩
def l_heldInboxS.con:Con:=⟨96,⟨[e51,e1],[]⟩,sh1,false,fun x=>l_heldInboxS x.1 x.2⟩
def l_heldNetwork.con:Con:=⟨27,sh42,sh1,false,fun x=>l_heldNetwork ((x.1,x.2.1),(x.2.2.1,x.2.2.2.1),(x.2.2.2.2.1,x.2.2.2.2.2.1,x.2.2.2.2.2.2.1),x.2.2.2.2.2.2.2.1,x.2.2.2.2.2.2.2.2.1,x.2.2.2.2.2.2.2.2.2.1,x.2.2.2.2.2.2.2.2.2.2.1,x.2.2.2.2.2.2.2.2.2.2.2.1,x.2.2.2.2.2.2.2.2.2.2.2.2.1) x.2.2.2.2.2.2.2.2.2.2.2.2.2⟩
def l_FnExactDeliverPackets.con:Con:=⟨6,sh42,sh2,false,fun x=>l_FnExactDeliverPackets ((x.1,x.2.1),(x.2.2.1,x.2.2.2.1),(x.2.2.2.2.1,x.2.2.2.2.2.1,x.2.2.2.2.2.2.1),x.2.2.2.2.2.2.2.1,x.2.2.2.2.2.2.2.2.1,x.2.2.2.2.2.2.2.2.2.1,x.2.2.2.2.2.2.2.2.2.2.1,x.2.2.2.2.2.2.2.2.2.2.2.1,x.2.2.2.2.2.2.2.2.2.2.2.2.1) x.2.2.2.2.2.2.2.2.2.2.2.2.2⟩
end

end Go.Proofs.YtejfajiolkojlaaGreat
