/-
  Contracts of the functions of the program. Conditions: none.
-/
import Derived.Test.YtejfajiolkojlaaGreatT0XProcessPacket
import Derived.Test.YtejfajiolkojlaaGreatProg
import Derived.KernelRfl
set_option linter.unusedVariables false
set_option linter.unusedSimpArgs false
set_option maxRecDepth 100000
namespace Go.Proofs.YtejfajiolkojlaaGreat
open Go.Ab Go.V
noncomputable section
theorem follows:Tryz.prog.follows .mixedOrders=true:=by kernel_rfl
theorem _root_.Go.V.Con.Ok.c {P:Program} {c:Con} {E:List Con} (h:c.Ok P) (k:AllOk P E):AllOk P (c::E):=⟨h,k⟩
theorem fk {E:List Con} {c:Con} {fn:Func} (hf:Tryz.prog.funcs[c.f]? =some fn) (k:AllOk Tryz.prog E) (pl:Plan) (e: ∀ x,evFn Tryz.prog E fn pl c.pre c.post x=c.sem x:=by intro x;kernel_rfl) (hn:(fn.name=="runtime.NumGoroutine")=false:=by rfl):c.Ok Tryz.prog:=fn_ok hf hn follows (AllOk.mem k) fun x y h=>(e x).trans h
theorem nok:AllOk Tryz.prog []:=trivial
def ow1:OT:= .row 184 4 tPp true
def ow2:OT:= .row 5 1 tb true
def ow3:OT:= .row 3 1 ti true
def ow4:OT:= .row 68 9 tFl false
def ow5:OT:= .row 176 1 tMs true
def ow6:OT:= .row 171 12 tFy false
def ow7:OT:= .row 174 4 tIb false
def ow8:OT:= .row 268 3 tSg true
def ow9:OT:= .row 85 1 tPt true
def ow10:OT:= .row 271 5 tRs true
def ow11:OT:= .row 275 4 tUs true
def ow12:OT:= .row 171 12 tFy true
def ow13:OT:= .row 309 5 tHop true
def ow14:OT:= .row 179 3 tRv true
def ow15:OT:= .row 68 9 tFl true
def ow16:OT:= .row 282 3 tStep true
def ow17:OT:= .row 260 3 tAS true
def ow18:OT:= .row 264 5 tLk true
def ow19:OT:= .row 174 4 tIb true
def ow20:OT:= .row 184 4 tPp false
def ob1:OT:= .box [.var (.sl tAS),.var (.sl tLk),.var (.sl tSg),.var (.sl tSg),.var ti,.var (.sl tRs),.var (.sl tUs),.var ti,.var (.sl ti),.row 0,.row 1,.row 2,.var ti]
def ob2:OT:= .box [.row 300001]
def ob3:OT:= .box [.var ti,.var ti,.var ti,.var (.sl tPp),.var ti,.var ti,.var ti,.var ti,.var ti,.var (.sl tb)]
def ob4:OT:= .box [.var (.sl tAS),.var (.sl tLk),.var (.sl tSg),.var (.sl tSg),.var ti,.var (.sl tRs),.var (.sl tUs),.var ti,.var (.sl ti),.row 300001,.row 300002,.row 300003,.var ti]
def ob5:OT:= .box [.row 1208,.row 1209,.row 1272,.row 1273,.var ti,.row 1336,.row 1337,.var ti,.row 1400,.row 300001,.nil,.nil,.var ti]
def ob6:OT:= .box [.row 1208,.row 1209,.row 1272,.row 1273,.var ti,.row 1336,.row 1337,.var ti,.row 1400,.row 300001,.row 300002,.nil,.var ti]
def ob7:OT:= .box [.var ti,.var ti,.var ti]
def ob8:OT:= .box [.var ti,.var ti,.var ti,.row 300001,.var ti,.var ti,.var ti,.var ti,.var ti,.row 300002]
def ob9:OT:= .box [.var ti,.var ti,.var ti,.row 1112]
def ob10:OT:= .box [.var ti,.var ti,.var ti,.row 300001]
def ob11:OT:= .box [.var ti,.var ti,.var ti,.var ti,.row 1112,.row 1113,.var ti,.var ti,.row 1114]
def ob12:OT:= .box [.var ti,.var ti,.var ti,.row 1544]
def ob13:OT:= .box [.var ti,.var ti,.var ti,.var ti,.row 2312,.row 2313,.var ti,.var ti,.row 2314]
def ob14:OT:= .box [.var ti,.var ti,.var ti,.var ti,.var ti,.row 1560,.var ti,.var ti,.var ti,.var ti,.var ti,.row 1561]
def ob15:OT:= .box [.var ti,.row 2152,.row 2153]
def ob16:OT:= .box [.var (.sl tAS),.var (.sl tLk),.var (.sl tSg),.var (.sl tSg),.var ti,.row 2152,.row 2153,.var ti,.var (.sl ti),.row 0,.row 1,.row 2,.var ti]
def ob17:OT:= .box [.var ti,.var ti,.var ti,.row 2904,.var ti,.var ti,.var ti,.var ti,.var ti,.row 2905]
def ob18:OT:= .box [.row 1208,.row 1209,.row 1272,.row 1273,.var ti,.row 1336,.row 1337,.var ti,.row 1400,.row 300001,.row 300002,.row 300003,.var ti]
def ob19:OT:= .box [.var ti,.var ti,.var ti,.var ti,.var ti,.var (.sl tPp),.var ti,.var ti,.var ti,.var ti,.var ti,.var (.sl tb)]
def ob20:OT:= .box [.var ti,.var ti,.var ti,.row 2584,.var ti,.var ti,.var ti,.var ti,.var ti,.row 2585]
def ob21:OT:= .box [.var ti,.var ti,.var ti,.row 3176,.var ti,.var ti,.var ti,.var ti,.var ti,.row 3177]
def ag1:ST:= .agg [.var ti,.var ti,.var ti,.var (.sl tPp),.var ti,.var ti,.var ti,.var ti,.var ti,.var (.sl tb)]
def ag2:ST:= .agg [.var (.sl tAS),.var (.sl tLk)]
def ag3:ST:= .agg [.var (.sl tPp)]
def ag4:ST:= .agg [.var ti,.var ti,.var ti,.var ti,.var ti]
def ag5:ST:= .agg [.var ti,.var ti,.var ti,.var (.sl tHop)]
def ag6:ST:= .agg [.var ti,.var ti,.var ti,.row 0,.var ti,.var ti,.var ti,.var ti,.var ti,.row 1]
def ag7:ST:= .agg [.var ti,.var ti,.var ti]
def ag8:ST:= .agg [.var ti,.var (.sl tRs),.var (.sl tUs)]
def ag9:ST:= .agg [.var ti,.var ti,.var ti,.var ti,.var (.sl tMs),.var (.sl tPt),.var ti,.var ti,.var (.sl tRv)]
def ag10:ST:= .agg [.var ti,.var ti,.var ti,.var (.sl tMs)]
def ag11:ST:= .agg [.var (.sl tAS),.var (.sl tLk),.var (.sl tSg),.var (.sl tSg),.var ti,.var (.sl tRs),.var (.sl tUs),.var ti,.var (.sl ti),.var (.sl tFy),.var (.sl tFl),.var (.sl tIb),.var ti]
def ag12:ST:= .agg [.var ti,.var ti,.var ti,.row 0]
def ag13:ST:= .agg [.var ti,.var ti,.var (.sl tHop)]
def ag14:ST:= .agg [.var ti,.var ti,.var ti,.var ti,.row 0,.row 1,.var ti,.var ti,.row 2]
def ag15:ST:= .agg [.var (.sl tSg),.var (.sl tSg)]
def ag16:ST:= .agg [.var ti,.var ti,.var ti,.var ti,.var ti,.var (.sl tPp),.var ti,.var ti,.var ti,.var ti,.var ti,.var (.sl tb)]
def ag17:ST:= .agg [.var ti,.row 0,.row 1]
def ag18:ST:= .agg [.row 0]
def ag19:ST:= .agg [.row 0,.row 1]
def ag20:ST:= .agg [.var (.sl tb)]
def ag21:ST:= .agg [.var ti,.var .bool,.var ti]
def ag22:ST:= .agg [.var ti,.var ti,.var ti,.var ti]
def ag23:ST:= .agg [.var ti,.var ti,.var ti,.var ti,.var ti,.row 0,.var ti,.var ti,.var ti,.var ti,.var ti,.row 1]
def ag24:ST:= .agg [.row 0,.row 1,.row 2,.row 3,.var ti,.row 4,.row 5,.var ti,.row 6,.row 7,.row 8,.row 9,.var ti]
def ag25:ST:= .agg [.var ti,.var ti,.row 0]
def ag26:ST:= .agg [.row 1000000,.row 1000001]
def vr1:ST:= .one (.var ti)
def vr2:ST:= .one (.var .bool)
def vr3:ST:= .one (.row 0)
def vr4:ST:= .one (.var (.sl ti))
def vr5:ST:= .one (.row 300001)
def vr6:ST:= .one (.var (.sl tb))
def vr7:ST:= .one (.row 6)
def vr8:ST:= .one (.row 1000000)
def vr9:ST:= .one (.var (.sl tRs))
def vr10:ST:= .one (.ptr 1000000 0)
def vr11:ST:= .one (.var (.sl tRv))
def vr12:ST:= .one (.var (.sl tHop))
def vr13:ST:= .one (.var (.sl tIb))
def vr14:ST:= .one (.var (.sl tSg))
def vr15:ST:= .one (.var (.sl tMs))
def vr16:ST:= .one (.var (.sl tPt))
def vr17:ST:= .one (.var (.sl tUs))
def vr18:ST:= .one (.var (.sl tFy))
def vr19:ST:= .one (.var (.sl tFl))
def vr20:ST:= .one (.ptr 11 0)
def vr21:ST:= .one (.var (.sl tAS))
def vr22:ST:= .one (.var (.sl tLk))
def vr23:ST:= .one (.var (.sl tPp))
def vr24:ST:= .one (.row 10)
def vr25:ST:= .one (.row 5)
def vr26:ST:= .one (.ptr 8 0)
def vr27:ST:= .one (.ptr 13 0)
def vr28:ST:= .one (.ptr 7 0)
def e1:Nat×ST:=(1,vr1)
def e2:Nat×ST:=(0,vr1)
def e3:Nat×ST:=(0,vr2)
def e4:Nat×ST:=(5,vr1)
def e5:Nat×ST:=(2,vr1)
def e6:Nat×ST:=(0,vr3)
def e7:Nat×ST:=(4,vr1)
def e8:Nat×ST:=(0,ag2)
def e9:Nat×ST:=(3,vr1)
def e10:Nat×ST:=(0,ag1)
def e11:Nat×ST:=(0,ag3)
def e12:Nat×ST:=(0,vr6)
def e13:Nat×ST:=(3,vr5)
def e14:Nat×ST:=(0,ag4)
def e15:Nat×ST:=(0,ag6)
def e16:Nat×ST:=(2,vr2)
def e17:Nat×ST:=(0,vr8)
def e18:Nat×ST:=(3,vr7)
def e19:Nat×ST:=(0,vr4)
def e20:Nat×ST:=(1,ag1)
def e21:Nat×ST:=(9,vr1)
def e22:Nat×ST:=(4,vr2)
def e23:Nat×ST:=(0,ag8)
def e24:Nat×ST:=(0,ag5)
def e25:Nat×ST:=(0,vr9)
def e26:Nat×ST:=(0,ag9)
def e27:Nat×ST:=(0,ag10)
def e28:Nat×ST:=(0,vr10)
def e29:Nat×ST:=(12,vr2)
def e30:Nat×ST:=(7,vr1)
def e31:Nat×ST:=(0,ag11)
def e32:Nat×ST:=(0,ag12)
def e33:Nat×ST:=(0,ag7)
def e34:Nat×ST:=(3,ag1)
def e35:Nat×ST:=(0,vr11)
def e36:Nat×ST:=(1,vr2)
def e37:Nat×ST:=(6,vr2)
def e38:Nat×ST:=(0,vr12)
def e39:Nat×ST:=(0,vr13)
def e40:Nat×ST:=(0,ag14)
def e41:Nat×ST:=(1,ag3)
def e42:Nat×ST:=(1,ag7)
def e43:Nat×ST:=(5,vr4)
def e44:Nat×ST:=(8,vr1)
def e45:Nat×ST:=(10,vr1)
def e46:Nat×ST:=(0,ag13)
def e47:Nat×ST:=(0,vr14)
def e48:Nat×ST:=(0,vr15)
def e49:Nat×ST:=(0,vr16)
def e50:Nat×ST:=(0,ag17)
def e51:Nat×ST:=(0,ag18)
def e52:Nat×ST:=(15,vr1)
def e53:Nat×ST:=(11,vr20)
def o1:Nat×OT:=(1,ow4)
def o2:Nat×OT:=(0,ow1)
def o3:Nat×OT:=(0,ow6)
def o4:Nat×OT:=(2,ow7)
def o5:Nat×OT:=(1000000,ob1)
def o6:Nat×OT:=(1,ow2)
def o7:Nat×OT:=(0,ow5)
def o8:Nat×OT:=(0,ow13)
def o9:Nat×OT:=(0,ow3)
def o10:Nat×OT:=(3,ob2)
def o11:Nat×OT:=(300001,ow1)
def o12:Nat×OT:=(300001,ow3)
def o13:Nat×OT:=(0,ow17)
def o14:Nat×OT:=(0,ow10)
def o15:Nat×OT:=(1,ow9)
def o16:Nat×OT:=(6,ow3)
def o17:Nat×OT:=(7,ow12)
def o18:Nat×OT:=(1,ow18)
def o19:Nat×OT:=(0,ow2)
def o20:Nat×OT:=(2,ow14)
def o21:Nat×OT:=(1,ow11)
def o22:Nat×OT:=(10,ow16)
def o23:Nat×OT:=(300001,ow16)
def o24:Nat×OT:=(300001,ow13)
def o25:Nat×OT:=(300001,ow6)
def o26:Nat×OT:=(300002,ow4)
def o27:Nat×OT:=(300003,ow7)
def o28:Nat×OT:=(1000000,ob4)
def k0:Nat×ST:=(0,.keep)
def k1:Nat×ST:=(1,.keep)
def k2:Nat×ST:=(2,.keep)
def k3:Nat×ST:=(3,.keep)
def k4:Nat×ST:=(4,.keep)
def k5:Nat×ST:=(5,.keep)
def k6:Nat×ST:=(6,.keep)
def k7:Nat×ST:=(7,.keep)
def k8:Nat×ST:=(8,.keep)
def k9:Nat×ST:=(9,.keep)
def k10:Nat×ST:=(10,.keep)
def k11:Nat×ST:=(11,.keep)
def k12:Nat×ST:=(12,.keep)
def k13:Nat×ST:=(13,.keep)
def k14:Nat×ST:=(14,.keep)
def k15:Nat×ST:=(15,.keep)
def k16:Nat×ST:=(16,.keep)
def k17:Nat×ST:=(17,.keep)
def k18:Nat×ST:=(18,.keep)
def k19:Nat×ST:=(19,.keep)
def k20:Nat×ST:=(20,.keep)
def k21:Nat×ST:=(21,.keep)
def k31:Nat×ST:=(31,.keep)
def k32:Nat×ST:=(32,.keep)
def k33:Nat×ST:=(33,.keep)
def k35:Nat×ST:=(35,.keep)
def k36:Nat×ST:=(36,.keep)
def k49:Nat×ST:=(49,.keep)
def k50:Nat×ST:=(50,.keep)
def k51:Nat×ST:=(51,.keep)
def k64:Nat×ST:=(64,.keep)
def k65:Nat×ST:=(65,.keep)
def j0:Nat×OT:=(0,.keep)
def j1:Nat×OT:=(1,.keep)
def j2:Nat×OT:=(2,.keep)
def j3:Nat×OT:=(3,.keep)
def j4:Nat×OT:=(4,.keep)
def j5:Nat×OT:=(5,.keep)
def j6:Nat×OT:=(6,.keep)
def j7:Nat×OT:=(7,.keep)
def j8:Nat×OT:=(8,.keep)
def j9:Nat×OT:=(9,.keep)
def j10:Nat×OT:=(10,.keep)
def j11:Nat×OT:=(11,.keep)
def j12:Nat×OT:=(12,.keep)
def j13:Nat×OT:=(13,.keep)
def j14:Nat×OT:=(14,.keep)
def j16:Nat×OT:=(16,.keep)
def j19:Nat×OT:=(19,.keep)
def j26:Nat×OT:=(26,.keep)
def j1080:Nat×OT:=(1080,.keep)
def j1081:Nat×OT:=(1081,.keep)
def j1082:Nat×OT:=(1082,.keep)
def j1112:Nat×OT:=(1112,.keep)
def j1113:Nat×OT:=(1113,.keep)
def j1114:Nat×OT:=(1114,.keep)
def j1128:Nat×OT:=(1128,.keep)
def j1160:Nat×OT:=(1160,.keep)
def j1176:Nat×OT:=(1176,.keep)
def j1177:Nat×OT:=(1177,.keep)
def j1178:Nat×OT:=(1178,.keep)
def j1192:Nat×OT:=(1192,.keep)
def j1193:Nat×OT:=(1193,.keep)
def j1208:Nat×OT:=(1208,.keep)
def j1209:Nat×OT:=(1209,.keep)
def j1224:Nat×OT:=(1224,.keep)
def j1272:Nat×OT:=(1272,.keep)
def j1273:Nat×OT:=(1273,.keep)
def j1288:Nat×OT:=(1288,.keep)
def j1336:Nat×OT:=(1336,.keep)
def j1337:Nat×OT:=(1337,.keep)
def j1368:Nat×OT:=(1368,.keep)
def j1400:Nat×OT:=(1400,.keep)
def j1401:Nat×OT:=(1401,.keep)
def j1544:Nat×OT:=(1544,.keep)
def j1545:Nat×OT:=(1545,.keep)
def j1546:Nat×OT:=(1546,.keep)
def j1560:Nat×OT:=(1560,.keep)
def j1561:Nat×OT:=(1561,.keep)
def j1688:Nat×OT:=(1688,.keep)
def j1689:Nat×OT:=(1689,.keep)
def j1690:Nat×OT:=(1690,.keep)
def j1691:Nat×OT:=(1691,.keep)
def j1692:Nat×OT:=(1692,.keep)
def j1693:Nat×OT:=(1693,.keep)
def j1694:Nat×OT:=(1694,.keep)
def j1695:Nat×OT:=(1695,.keep)
def j1696:Nat×OT:=(1696,.keep)
def j1697:Nat×OT:=(1697,.keep)
def j2152:Nat×OT:=(2152,.keep)
def j2153:Nat×OT:=(2153,.keep)
def j300001:Nat×OT:=(300001,.keep)
def j300002:Nat×OT:=(300002,.keep)
def j1000000:Nat×OT:=(1000000,.keep)
def sh1:Sh:=⟨[e2],[]⟩
def sh2:Sh:=⟨[e3],[]⟩
def sh3:Sh:=⟨[],[]⟩
def sh4:Sh:=⟨[e1],[]⟩
def sh5:Sh:=⟨[k0,e1,e4],[]⟩
def sh6:Sh:=⟨[e2,e1],[]⟩
def sh7:Sh:=⟨[k0,k1,e4],[]⟩
def sh8:Sh:=⟨[e11],[]⟩
def sh9:Sh:=⟨[e10],[]⟩
def sh10:Sh:=⟨[e22],[]⟩
def sh11:Sh:=⟨[e15],[o2,o6]⟩
def sh12:Sh:=⟨[],[o3,o1,o4,o5]⟩
def sh13:Sh:=⟨[e16],[]⟩
def sh14:Sh:=⟨[k0,k1,k5],[(1000000,.win 12 tFy)]⟩
def sh15:Sh:=⟨[e14],[]⟩
def sh16:Sh:=⟨[e19],[]⟩
def sh17:Sh:=⟨[e6],[o9]⟩
def sh18:Sh:=⟨[e12],[]⟩
def sh19:Sh:=⟨[e24,e1],[]⟩
def sh20:Sh:=⟨[e40],[o7,o15,o20]⟩
def sh21:Sh:=⟨[e37],[]⟩
def sh22:Sh:=⟨[e8,e1],[]⟩
def sh23:Sh:=⟨[e12,e1],[]⟩
def sh24:Sh:=⟨[e6],[o19]⟩
def sh25:Sh:=⟨[e33],[]⟩
def sh26:Sh:=⟨[e28,e1,e5,e34],[o5,o3,o1,o4]⟩
def sh27:Sh:=⟨[e8,e1,e5],[]⟩
def sh28:Sh:=⟨[e27,e20],[]⟩
def sh29:Sh:=⟨[k0,k1,e29],[]⟩
def sh30:Sh:=⟨[k0,k1,k5],[(1000000,.win 9 tFl)]⟩
def sh31:Sh:=⟨[e19,e1],[]⟩
def sh32:Sh:=⟨[e24],[]⟩
def sh33:Sh:=⟨[e51],[o2]⟩
def sh34:Sh:=⟨[e26],[]⟩
def sh35:Sh:=⟨[e32],[o7]⟩
def sh36:Sh:=⟨[e10,e1],[]⟩
def sh37:Sh:=⟨[e38],[]⟩
def sh38:Sh:=⟨[e46],[]⟩
def sh39:Sh:=⟨[e50],[o14,o21]⟩
def sh40:Sh:=⟨[e32],[o8]⟩
def sh41:Sh:=⟨[(0,ag24)],[o13,o18,(2,ow8),(3,ow8),(4,ow10),(5,ow11),o16,o17,(8,ow15),(9,ow19)]⟩
def sh42:Sh:=⟨[e8,e41],[]⟩
def sh43:Sh:=⟨[e15,e36],[o2,o6]⟩
def sh44:Sh:=⟨[e28,e1,(2,ag1)],[o5,o3,o1,o4]⟩
def sh45:Sh:=⟨[e23,e1,e5,e9],[]⟩
def sh46:Sh:=⟨[e25,e1,e5,e9,e7],[]⟩
def sh47:Sh:=⟨[k2,k3],[j2,o10,o11]⟩
def sh48:Sh:=⟨[k0],[o25,o26,o27,o28]⟩
def sh49:Sh:=⟨[(0,ag19)],[o13,o18]⟩
def sh50:Sh:=⟨[e6],[o8]⟩
def sh51:Sh:=⟨[(0,ag25)],[o8]⟩
def sh52:Sh:=⟨[e47],[]⟩
def sh53:Sh:=⟨[e6],[(0,ow8)]⟩
def sh54:Sh:=⟨[e23],[]⟩
def sh55:Sh:=⟨[(0,ag23)],[o2,o6]⟩
def sh56:Sh:=⟨[e48],[]⟩
def sh57:Sh:=⟨[e6],[o7]⟩
def sh58:Sh:=⟨[e49],[]⟩
def sh59:Sh:=⟨[e6],[(0,ow9)]⟩
def sh60:Sh:=⟨[e35],[]⟩
def sh61:Sh:=⟨[e6],[(0,ow14)]⟩
def sh62:Sh:=⟨[e27],[]⟩
def sh63:Sh:=⟨[e31],[]⟩
def sh64:Sh:=⟨[e14,e1,e5],[]⟩
def sh65:Sh:=⟨[e23,e1,e5,e9,e7],[]⟩
def sh66:Sh:=⟨[e31,e1,e5,e34],[]⟩
def sh67:Sh:=⟨[e14,(1,ag4)],[]⟩
def sh68:Sh:=⟨[k1,k2,k3,e7],[j1,j2,o10,o11]⟩
def sh69:Sh:=⟨[k1,e9],[j1]⟩
def sh70:Sh:=⟨[(8,vr2)],[]⟩
def sh71:Sh:=⟨[k0,k1,k5],[(1000000,.win 5 tLk)]⟩
def sh72:Sh:=⟨[k0,k1,k5],[(1000000,.win 5 tHop)]⟩
def sh73:Sh:=⟨[k0,k1,k5],[(1000000,.win 5 tRs)]⟩
def sh74:Sh:=⟨[k0,e1,k5],[(1000000,.win 9 tFl)]⟩
def sh75:Sh:=⟨[(0,vr21),e1],[]⟩
def sh76:Sh:=⟨[(0,vr22),e1],[]⟩
def sh77:Sh:=⟨[(0,ag15),e1],[]⟩
def sh78:Sh:=⟨[(0,vr17),e1],[]⟩
def sh79:Sh:=⟨[(0,vr23),e1],[]⟩
def sh80:Sh:=⟨[(0,ag16),e1],[]⟩
def sh81:Sh:=⟨[(0,vr18),e1],[]⟩
def sh82:Sh:=⟨[(0,vr19),e1],[]⟩
def sh83:Sh:=⟨[(0,ag19)],[(0,ow8),(1,ow8)]⟩
def sh84:Sh:=⟨[e8,(1,vr4),e5],[]⟩
def sh85:Sh:=⟨[e2,e1,e5,(3,ag4)],[]⟩
def sh86:Sh:=⟨[e8,e1,e5,(3,ag4)],[]⟩
def sh87:Sh:=⟨[e8,e1,(2,ag1)],[]⟩
def sh88:Sh:=⟨[e8,e1,e5,e9,e7,(5,ag1)],[]⟩
def sh89:Sh:=⟨[e2,e41,e5,e9,(4,vr6)],[]⟩
def sh90:Sh:=⟨[e10,e1,e5,(3,vr6)],[]⟩
def sh91:Sh:=⟨[e6,e1,e16],[o9]⟩
def sh92:Sh:=⟨[e25,e1,e5,e9],[]⟩
def sh93:Sh:=⟨[e50,e36],[o14,o21]⟩
def sh94:Sh:=⟨[e8,e1,e5,e9,(4,ag1)],[]⟩
def sh95:Sh:=⟨[e2],[(1000000,.win 4 tPp)]⟩
def sh96:Sh:=⟨[k2],[(2,.box [.row 3,.row 7]),(3,ow17),(7,ow18)]⟩
def sh97:Sh:=⟨[k1,k2,(5,vr5),k6],[j2,o12]⟩
def sh98:Sh:=⟨[k9,(30,vr2)],[j9]⟩
def sh99:Sh:=⟨[k2,k3,(31,vr2)],[j2,j3]⟩
def sh100:Sh:=⟨[k2,k3,e4],[j2,j3]⟩
def sh101:Sh:=⟨[e18,k4,k5],[o16,j1128]⟩
def sh102:Sh:=⟨[k4,k5],[j4,(5,ob9),(1112,ow5)]⟩
def sh103:Sh:=⟨[k3,k4,(16,vr2)],[j3,j4]⟩
def sh104:Sh:=⟨[k4,k5],[j4,(5,ob11),j1112,j1113,j1114]⟩
def sh105:Sh:=⟨[k2,k4,(21,vr2)],[j2,j1160]⟩
def sh106:Sh:=⟨[k3,k6,k7,k8,(24,vr2)],[j3,j6,j7,j8,j1176,j1177,j1178]⟩
def sh107:Sh:=⟨[k3,k6,k7,k8,(42,vr2)],[j3,j6,j7,j8,j1176,j1177,j1178]⟩
def sh108:Sh:=⟨[k0,k1,k5,k6,(7,vr28)],[j0,j1,j2,j5,(7,ob12),(1544,ow5),j1000000]⟩
def sh109:Sh:=⟨[k0,k1,k5,e45],[j0,o1,j2,j5,j1000000]⟩
def sh110:Sh:=⟨[k0,k1,k5,k10],[j0,o1,j2,j5,j1000000]⟩
def sh111:Sh:=⟨[k0,k1,k5,k10,e53],[j0,j1,j2,j5,(11,ob13),(2312,ow5),(2313,ow9),(2314,ow14),j1000000]⟩
def sh112:Sh:=⟨[e1,(5,vr7)],[(6,ow2)]⟩
def sh113:Sh:=⟨[k0,k1,k7,(8,vr26)],[j0,j1,j2,j7,(8,ob14),(1560,ow1),(1561,ow2),j1000000]⟩
def sh114:Sh:=⟨[k0,k8,k9,k10,e53,e29],[j0,j1,j2,j8,(11,ob15),j1560,j1561,(2152,ow10),(2153,ow11),j1000000]⟩
def sh115:Sh:=⟨[k0,k8,k9,k10,k11,(83,vr2)],[j0,j1,j2,j8,j11,j1560,j1561,j2152,j2153,j1000000]⟩
def sh116:Sh:=⟨[],[o3,j1,j2,j2152,j2153,(1000000,ob16)]⟩
def sh117:Sh:=⟨[k0,k1,k7,(13,vr27)],[j0,j1,j2,j7,(13,ob17),(2904,ow1),(2905,ow2),j1000000]⟩
def sh118:Sh:=⟨[e1,(5,.one (.row 1112))],[(1112,ow2)]⟩
def sh119:Sh:=⟨[k0,k1,k7,(8,vr26),e21],[j0,j1,j2,j7,(8,ob19),j1000000]⟩
def sh120:Sh:=⟨[k0,k1,k7,k8,k9,(54,vr2)],[j0,j1,j2,j7,j8,j1000000]⟩
def sh121:Sh:=⟨[k0,k1,e53,e29],[j0,j1,j2,(11,ob20),(2584,ow1),(2585,ow2),j1000000]⟩
def sh122:Sh:=⟨[k0,k1,k7,k9,(116,vr2)],[j0,j1,j2,j7,j1000000]⟩
def sh123:Sh:=⟨[k0,k1,k7,(13,vr27)],[j0,j1,j2,j7,(13,ob21),(3176,ow1),(3177,ow2),j1000000]⟩
def sh124:Sh:=⟨[k0,e1,k5],[(1000000,.win 12 tFy)]⟩
def l_szASS.con:Con:=⟨105,sh75,sh1,false,fun x=>l_szASS x.1 x.2⟩
def l_szLinkS.con:Con:=⟨106,sh76,sh1,false,fun x=>l_szLinkS x.1 x.2⟩
def l_szTopology.con:Con:=⟨36,sh22,sh1,false,fun x=>l_szTopology (x.1,x.2.1) x.2.2⟩
def l_szHopS.con:Con:=⟨317,⟨[e38,e1],[]⟩,sh1,false,fun x=>l_szHopS x.1 x.2⟩
def l_szSegment.con:Con:=⟨210,⟨[e46,e1],[]⟩,sh1,false,fun x=>l_szSegment (x.1,x.2.1,x.2.2.1) x.2.2.2⟩
def l_szSegmentS.con:Con:=⟨107,⟨[e47,e1],[]⟩,sh1,false,fun x=>l_szSegmentS x.1 x.2⟩
def l_szSegmentDatabase.con:Con:=⟨37,sh77,sh1,false,fun x=>l_szSegmentDatabase (x.1,x.2.1) x.2.2⟩
def l_szReservationS.con:Con:=⟨108,⟨[e25,e1],[]⟩,sh1,false,fun x=>l_szReservationS x.1 x.2⟩
def l_szUsageS.con:Con:=⟨109,sh78,sh1,false,fun x=>l_szUsageS x.1 x.2⟩
def l_szScheduler.con:Con:=⟨38,⟨[e23,e1],[]⟩,sh1,false,fun x=>l_szScheduler (x.1,x.2.1,x.2.2.1) x.2.2.2⟩
def l_szIntS.con:Con:=⟨39,sh31,sh1,false,fun x=>l_szIntS x.1 x.2⟩
def l_szPathPart.con:Con:=⟨232,sh19,sh1,false,fun x=>l_szPathPart (x.1,x.2.1,x.2.2.1,x.2.2.2.1) x.2.2.2.2⟩
def l_szPathPartS.con:Con:=⟨138,sh79,sh1,false,fun x=>l_szPathPartS x.1 x.2⟩
def l_szPath.con:Con:=⟨71,⟨[e11,e1],[]⟩,sh1,false,fun x=>l_szPath x.1 x.2⟩
def l_szByteS.con:Con:=⟨72,sh23,sh1,false,fun x=>l_szByteS x.1 x.2⟩
def l_szPacket.con:Con:=⟨20,sh36,sh1,false,fun x=>l_szPacket (x.1,x.2.1,x.2.2.1,x.2.2.2.1,x.2.2.2.2.1,x.2.2.2.2.2.1,x.2.2.2.2.2.2.1,x.2.2.2.2.2.2.2.1,x.2.2.2.2.2.2.2.2.1,x.2.2.2.2.2.2.2.2.2.1) x.2.2.2.2.2.2.2.2.2.2⟩
def l_szPacketInFlight.con:Con:=⟨110,sh80,sh1,false,fun x=>l_szPacketInFlight (x.1,x.2.1,(x.2.2.1,x.2.2.2.1,x.2.2.2.2.1,x.2.2.2.2.2.1,x.2.2.2.2.2.2.1,x.2.2.2.2.2.2.2.1,x.2.2.2.2.2.2.2.2.1,x.2.2.2.2.2.2.2.2.2.1,x.2.2.2.2.2.2.2.2.2.2.1,x.2.2.2.2.2.2.2.2.2.2.2.1)) x.2.2.2.2.2.2.2.2.2.2.2.2⟩
def l_szPacketInFlightS.con:Con:=⟨40,sh81,sh1,false,fun x=>l_szPacketInFlightS x.1 x.2⟩
def l_szMessage.con:Con:=⟨112,⟨[(0,ag20),e1],[]⟩,sh1,false,fun x=>l_szMessage x.1 x.2⟩
def l_szMessageS.con:Con:=⟨43,⟨[e48,e1],[]⟩,sh1,false,fun x=>l_szMessageS x.1 x.2⟩
def l_szPathS.con:Con:=⟨44,⟨[e49,e1],[]⟩,sh1,false,fun x=>l_szPathS x.1 x.2⟩
def l_szRevocationS.con:Con:=⟨45,⟨[e35,e1],[]⟩,sh1,false,fun x=>l_szRevocationS x.1 x.2⟩
def l_szFlow.con:Con:=⟨11,⟨[e26,e1],[]⟩,sh1,false,fun x=>l_szFlow (x.1,x.2.1,x.2.2.1,x.2.2.2.1,x.2.2.2.2.1,x.2.2.2.2.2.1,x.2.2.2.2.2.2.1,x.2.2.2.2.2.2.2.1,x.2.2.2.2.2.2.2.2.1) x.2.2.2.2.2.2.2.2.2⟩
def l_szFlowS.con:Con:=⟨41,sh82,sh1,false,fun x=>l_szFlowS x.1 x.2⟩
def l_szInbox.con:Con:=⟨111,⟨[e27,e1],[]⟩,sh1,false,fun x=>l_szInbox (x.1,x.2.1,x.2.2.1,x.2.2.2.1) x.2.2.2.2⟩
def l_szInboxS.con:Con:=⟨42,⟨[e39,e1],[]⟩,sh1,false,fun x=>l_szInboxS x.1 x.2⟩
def l_szNetwork.con:Con:=⟨10,⟨[e31,e1],[]⟩,sh1,false,fun x=>l_szNetwork ((x.1,x.2.1),(x.2.2.1,x.2.2.2.1),(x.2.2.2.2.1,x.2.2.2.2.2.1,x.2.2.2.2.2.2.1),x.2.2.2.2.2.2.2.1,x.2.2.2.2.2.2.2.2.1,x.2.2.2.2.2.2.2.2.2.1,x.2.2.2.2.2.2.2.2.2.2.1,x.2.2.2.2.2.2.2.2.2.2.2.1,x.2.2.2.2.2.2.2.2.2.2.2.2.1) x.2.2.2.2.2.2.2.2.2.2.2.2.2⟩
def l_toAS.con:Con:=⟨214,⟨[(0,ag21)],[]⟩,⟨[(0,ag21)],[]⟩,false,fun x=>l_toAS (x.1,x.2.1,x.2.2)⟩
def l_toASS.con:Con:=⟨116,⟨[(0,vr21)],[]⟩,⟨[e6],[o13]⟩,false,fun x=>l_toASS x⟩
def l_toLink.con:Con:=⟨215,sh15,sh15,false,fun x=>l_toLink (x.1,x.2.1,x.2.2.1,x.2.2.2.1,x.2.2.2.2)⟩
def l_toLinkS.con:Con:=⟨117,⟨[(0,vr22)],[]⟩,⟨[e6],[(0,ow18)]⟩,false,fun x=>l_toLinkS x⟩
def l_toTopology.con:Con:=⟨48,⟨[e8],[]⟩,sh49,false,fun x=>l_toTopology (x.1,x.2)⟩
def l_toHop.con:Con:=⟨386,sh15,sh15,false,fun x=>l_toHop (x.1,x.2.1,x.2.2.1,x.2.2.2.1,x.2.2.2.2)⟩
def l_toHopS.con:Con:=⟨322,sh37,sh50,false,fun x=>l_toHopS x⟩
def l_toSegment.con:Con:=⟨216,sh38,sh51,false,fun x=>l_toSegment (x.1,x.2.1,x.2.2)⟩
def l_toSegmentS.con:Con:=⟨118,sh52,sh53,false,fun x=>l_toSegmentS x⟩
def l_toSegmentDatabase.con:Con:=⟨49,⟨[(0,ag15)],[]⟩,sh83,false,fun x=>l_toSegmentDatabase (x.1,x.2)⟩
def l_toReservation.con:Con:=⟨217,sh15,sh15,false,fun x=>l_toReservation (x.1,x.2.1,x.2.2.1,x.2.2.2.1,x.2.2.2.2)⟩
def l_toReservationS.con:Con:=⟨119,⟨[e25],[]⟩,⟨[e6],[o14]⟩,false,fun x=>l_toReservationS x⟩
def l_toUsage.con:Con:=⟨218,⟨[(0,ag22)],[]⟩,⟨[(0,ag22)],[]⟩,false,fun x=>l_toUsage (x.1,x.2.1,x.2.2.1,x.2.2.2)⟩
def l_toUsageS.con:Con:=⟨120,⟨[(0,vr17)],[]⟩,⟨[e6],[(0,ow11)]⟩,false,fun x=>l_toUsageS x⟩
def l_toScheduler.con:Con:=⟨50,sh54,sh39,false,fun x=>l_toScheduler (x.1,x.2.1,x.2.2)⟩
def l_toIntS.con:Con:=⟨51,sh16,sh17,false,fun x=>l_toIntS x⟩
def l_toPathPart.con:Con:=⟨263,sh32,sh40,false,fun x=>l_toPathPart (x.1,x.2.1,x.2.2.1,x.2.2.2)⟩
def l_toPathPartS.con:Con:=⟨155,⟨[(0,vr23)],[]⟩,⟨[e6],[o2]⟩,false,fun x=>l_toPathPartS x⟩
def l_toPath.con:Con:=⟨75,sh8,sh33,false,fun x=>l_toPath x⟩
def l_toByteS.con:Con:=⟨76,sh18,sh24,false,fun x=>l_toByteS x⟩
def l_toPacket.con:Con:=⟨22,sh9,sh11,false,fun x=>l_toPacket (x.1,x.2.1,x.2.2.1,x.2.2.2.1,x.2.2.2.2.1,x.2.2.2.2.2.1,x.2.2.2.2.2.2.1,x.2.2.2.2.2.2.2.1,x.2.2.2.2.2.2.2.2.1,x.2.2.2.2.2.2.2.2.2)⟩
def l_toPacketInFlight.con:Con:=⟨121,⟨[(0,ag16)],[]⟩,sh55,false,fun x=>l_toPacketInFlight (x.1,x.2.1,(x.2.2.1,x.2.2.2.1,x.2.2.2.2.1,x.2.2.2.2.2.1,x.2.2.2.2.2.2.1,x.2.2.2.2.2.2.2.1,x.2.2.2.2.2.2.2.2.1,x.2.2.2.2.2.2.2.2.2.1,x.2.2.2.2.2.2.2.2.2.2.1,x.2.2.2.2.2.2.2.2.2.2.2))⟩
def l_toPacketInFlightS.con:Con:=⟨52,⟨[(0,vr18)],[]⟩,⟨[e6],[(0,ow12)]⟩,false,fun x=>l_toPacketInFlightS x⟩
def l_toMessage.con:Con:=⟨123,⟨[(0,ag20)],[]⟩,⟨[e51],[o19]⟩,false,fun x=>l_toMessage x⟩
def l_toMessageS.con:Con:=⟨55,sh56,sh57,false,fun x=>l_toMessageS x⟩
def l_toPathS.con:Con:=⟨56,sh58,sh59,false,fun x=>l_toPathS x⟩
def l_toRevocation.con:Con:=⟨124,sh25,sh25,false,fun x=>l_toRevocation (x.1,x.2.1,x.2.2)⟩
def l_toRevocationS.con:Con:=⟨57,sh60,sh61,false,fun x=>l_toRevocationS x⟩
def l_toFlow.con:Con:=⟨14,sh34,sh20,false,fun x=>l_toFlow (x.1,x.2.1,x.2.2.1,x.2.2.2.1,x.2.2.2.2.1,x.2.2.2.2.2.1,x.2.2.2.2.2.2.1,x.2.2.2.2.2.2.2.1,x.2.2.2.2.2.2.2.2)⟩
def l_toFlowS.con:Con:=⟨53,⟨[(0,vr19)],[]⟩,⟨[e6],[(0,ow15)]⟩,false,fun x=>l_toFlowS x⟩
def l_toInbox.con:Con:=⟨122,sh62,sh35,false,fun x=>l_toInbox (x.1,x.2.1,x.2.2.1,x.2.2.2)⟩
def l_toInboxS.con:Con:=⟨54,⟨[e39],[]⟩,⟨[e6],[(0,ow19)]⟩,false,fun x=>l_toInboxS x⟩
def l_toNetwork.con:Con:=⟨13,sh63,sh41,false,fun x=>l_toNetwork ((x.1,x.2.1),(x.2.2.1,x.2.2.2.1),(x.2.2.2.2.1,x.2.2.2.2.2.1,x.2.2.2.2.2.2.1),x.2.2.2.2.2.2.2.1,x.2.2.2.2.2.2.2.2.1,x.2.2.2.2.2.2.2.2.2.1,x.2.2.2.2.2.2.2.2.2.2.1,x.2.2.2.2.2.2.2.2.2.2.2.1,x.2.2.2.2.2.2.2.2.2.2.2.2)⟩
def s_l37Topo.con:Con:=⟨139,⟨[e8],[]⟩,sh49,false,fun x=>s_l37Topo (x.1,x.2)⟩
def s_l9Copy.con:Con:=⟨233,sh38,sh51,false,fun x=>s_l9Copy (x.1,x.2.1,x.2.2)⟩
def s_l16All.con:Con:=⟨140,sh52,sh53,false,fun x=>s_l16All x⟩
def s_l34Copy.con:Con:=⟨141,sh54,sh39,false,fun x=>s_l34Copy (x.1,x.2.1,x.2.2)⟩
def s_l21Copy.con:Con:=⟨261,sh32,sh40,false,fun x=>s_l21Copy (x.1,x.2.1,x.2.2.1,x.2.2.2)⟩
def s_l22Copy.con:Con:=⟨319,sh8,sh33,false,fun x=>s_l22Copy x⟩
def s_l26Copy.con:Con:=⟨234,sh9,sh11,false,fun x=>s_l26Copy (x.1,x.2.1,x.2.2.1,x.2.2.2.1,x.2.2.2.2.1,x.2.2.2.2.2.1,x.2.2.2.2.2.2.1,x.2.2.2.2.2.2.2.1,x.2.2.2.2.2.2.2.2.1,x.2.2.2.2.2.2.2.2.2)⟩
def s_l37Fly.con:Con:=⟨142,⟨[(0,vr18)],[]⟩,⟨[e6],[(0,ow12)]⟩,false,fun x=>s_l37Fly x⟩
def s_l35Texts.con:Con:=⟨328,sh56,sh57,false,fun x=>s_l35Texts x⟩
def s_l24Copy.con:Con:=⟨329,sh58,sh59,false,fun x=>s_l24Copy x⟩
def s_l35Copy.con:Con:=⟨235,sh34,sh20,false,fun x=>s_l35Copy (x.1,x.2.1,x.2.2.1,x.2.2.2.1,x.2.2.2.2.1,x.2.2.2.2.2.1,x.2.2.2.2.2.2.1,x.2.2.2.2.2.2.2.1,x.2.2.2.2.2.2.2.2)⟩
def s_l37Flows.con:Con:=⟨143,⟨[(0,vr19)],[]⟩,⟨[e6],[(0,ow15)]⟩,false,fun x=>s_l37Flows x⟩
def s_l36Copy.con:Con:=⟨236,sh62,sh35,false,fun x=>s_l36Copy (x.1,x.2.1,x.2.2.1,x.2.2.2)⟩
def s_l37Boxes.con:Con:=⟨144,⟨[e39],[]⟩,⟨[e6],[(0,ow19)]⟩,false,fun x=>s_l37Boxes x⟩
def s_l37Copy.con:Con:=⟨73,sh63,sh41,false,fun x=>s_l37Copy ((x.1,x.2.1),(x.2.2.1,x.2.2.2.1),(x.2.2.2.2.1,x.2.2.2.2.2.1,x.2.2.2.2.2.2.1),x.2.2.2.2.2.2.2.1,x.2.2.2.2.2.2.2.2.1,x.2.2.2.2.2.2.2.2.2.1,x.2.2.2.2.2.2.2.2.2.2.1,x.2.2.2.2.2.2.2.2.2.2.2.1,x.2.2.2.2.2.2.2.2.2.2.2.2)⟩
def s_l37Arrive'0.con:Con:=⟨74,sh26,sh12,false,fun x=>s_l37Arrive'0 ((x.2.2.2.2.2.2.2.2.2.2.2.2.1,x.2.2.2.2.2.2.2.2.2.2.2.2.2.1),(x.2.2.2.2.2.2.2.2.2.2.2.2.2.2.1,x.2.2.2.2.2.2.2.2.2.2.2.2.2.2.2.1),(x.2.2.2.2.2.2.2.2.2.2.2.2.2.2.2.2.1,x.2.2.2.2.2.2.2.2.2.2.2.2.2.2.2.2.2.1,x.2.2.2.2.2.2.2.2.2.2.2.2.2.2.2.2.2.2.1),x.2.2.2.2.2.2.2.2.2.2.2.2.2.2.2.2.2.2.2.1,x.2.2.2.2.2.2.2.2.2.2.2.2.2.2.2.2.2.2.2.2.1,x.2.2.2.2.2.2.2.2.2.2.2.2.2.2.2.2.2.2.2.2.2.2.1,x.2.2.2.2.2.2.2.2.2.2.2.2.2.2.2.2.2.2.2.2.2.2.2.1,x.2.2.2.2.2.2.2.2.2.2.2.2.2.2.2.2.2.2.2.2.2.2.2.2,x.2.2.2.2.2.2.2.2.2.2.2.2.2.2.2.2.2.2.2.2.2.1) x.1 x.2.1 (x.2.2.1,x.2.2.2.1,x.2.2.2.2.1,x.2.2.2.2.2.1,x.2.2.2.2.2.2.1,x.2.2.2.2.2.2.2.1,x.2.2.2.2.2.2.2.2.1,x.2.2.2.2.2.2.2.2.2.1,x.2.2.2.2.2.2.2.2.2.2.1,x.2.2.2.2.2.2.2.2.2.2.2.1)⟩
def s_l5Put'r.con:Con:=⟨341,⟨[e6,e1],[(0,.row 3 1 ti false)]⟩,sh17,false,fun x=>s_l5Put'r x.2 x.1⟩
def s_Interfaces.con:Con:=⟨248,sh22,sh17,false,fun x=>s_Interfaces (x.1,x.2.1) x.2.2⟩
def s_l5Ends.con:Con:=⟨298,sh64,sh2,false,fun x=>s_l5Ends (x.1,x.2.1,x.2.2.1,x.2.2.2.1,x.2.2.2.2.1) x.2.2.2.2.2.1 x.2.2.2.2.2.2⟩
def s_LinkIndex.con:Con:=⟨250,sh27,sh1,false,fun x=>s_LinkIndex (x.1,x.2.1) x.2.2.1 x.2.2.2⟩
def s_l9Has.con:Con:=⟨249,sh31,sh2,false,fun x=>s_l9Has x.1 x.2⟩
def s_l1In.con:Con:=⟨98,⟨[e2,e1,e5],[]⟩,sh2,false,fun x=>s_l1In x.1 x.2.1 x.2.2⟩
def s_ValidSet.con:Con:=⟨339,sh1,sh2,false,fun x=>s_ValidSet x⟩
def s_l4One.con:Con:=⟨340,sh1,sh2,false,fun x=>s_l4One x⟩
def s_AddElement.con:Con:=⟨251,sh6,sh1,false,fun x=>s_AddElement x.1 x.2⟩
def s_FailedInterfaces.con:Con:=⟨146,sh84,sh1,false,fun x=>s_FailedInterfaces (x.1,x.2.1) x.2.2.1 x.2.2.2⟩
def s_l3Ok.con:Con:=⟨331,sh1,sh2,false,fun x=>s_l3Ok x⟩
def s_ValidHop.con:Con:=⟨410,sh15,sh2,false,fun x=>s_ValidHop (x.1,x.2.1,x.2.2.1,x.2.2.2.1,x.2.2.2.2)⟩
def s_Encodable.con:Con:=⟨388,sh38,sh2,false,fun x=>s_Encodable (x.1,x.2.1,x.2.2)⟩
def s_EncodablePath.con:Con:=⟨330,sh8,sh2,false,fun x=>s_EncodablePath x⟩
def s_ValidPacket.con:Con:=⟨237,sh9,sh2,false,fun x=>s_ValidPacket (x.1,x.2.1,x.2.2.1,x.2.2.2.1,x.2.2.2.2.1,x.2.2.2.2.2.1,x.2.2.2.2.2.2.1,x.2.2.2.2.2.2.2.1,x.2.2.2.2.2.2.2.2.1,x.2.2.2.2.2.2.2.2.2)⟩
def s_l21Realms.con:Con:=⟨411,sh32,sh17,false,fun x=>s_l21Realms (x.1,x.2.1,x.2.2.1,x.2.2.2)⟩
def s_l5Realm.con:Con:=⟨196,sh22,sh2,false,fun x=>s_l5Realm (x.1,x.2.1) x.2.2⟩
def s_IsReversed.con:Con:=⟨334,sh1,sh2,false,fun x=>s_IsReversed x⟩
def s_PartEgress.con:Con:=⟨245,sh19,sh1,false,fun x=>s_PartEgress (x.1,x.2.1,x.2.2.1,x.2.2.2.1) x.2.2.2.2⟩
def s_RemoteEnd.con:Con:=⟨148,sh27,sh6,false,fun x=>s_RemoteEnd (x.1,x.2.1) x.2.2.1 x.2.2.2⟩
def s_PartIngress.con:Con:=⟨241,sh19,sh1,false,fun x=>s_PartIngress (x.1,x.2.1,x.2.2.1,x.2.2.2.1) x.2.2.2.2⟩
def s_ValidPart.con:Con:=⟨389,⟨[e8,(1,ag5)],[]⟩,sh2,false,fun x=>s_ValidPart (x.1,x.2.1) (x.2.2.1,x.2.2.2.1,x.2.2.2.2.1,x.2.2.2.2.2)⟩
def s_l22Rank.con:Con:=⟨390,sh1,sh1,false,fun x=>s_l22Rank x⟩
def s_WellFormedPath.con:Con:=⟨332,sh42,sh2,false,fun x=>s_WellFormedPath (x.1,x.2.1) x.2.2⟩
def s_PathSteps.con:Con:=⟨152,sh8,⟨[e6],[(0,ow16)]⟩,false,fun x=>s_PathSteps x⟩
def s_InterfacesUsed.con:Con:=⟨333,sh8,sh17,false,fun x=>s_InterfacesUsed x⟩
def s_SimplePath.con:Con:=⟨238,sh42,sh2,false,fun x=>s_SimplePath (x.1,x.2.1) x.2.2⟩
def s_CurrentAS.con:Con:=⟨239,sh9,sh1,false,fun x=>s_CurrentAS (x.1,x.2.1,x.2.2.1,x.2.2.2.1,x.2.2.2.2.1,x.2.2.2.2.2.1,x.2.2.2.2.2.2.1,x.2.2.2.2.2.2.2.1,x.2.2.2.2.2.2.2.2.1,x.2.2.2.2.2.2.2.2.2)⟩
def s_l28No.con:Con:=⟨240,⟨[e2,e20],[]⟩,sh55,false,fun x=>s_l28No x.1 (x.2.1,x.2.2.1,x.2.2.2.1,x.2.2.2.2.1,x.2.2.2.2.2.1,x.2.2.2.2.2.2.1,x.2.2.2.2.2.2.2.1,x.2.2.2.2.2.2.2.2.1,x.2.2.2.2.2.2.2.2.2.1,x.2.2.2.2.2.2.2.2.2.2)⟩
def s_SubMod.con:Con:=⟨384,sh6,sh1,false,fun x=>s_SubMod x.1 x.2⟩
def s_Mod.con:Con:=⟨448,sh6,sh1,false,fun x=>s_Mod x.1 x.2⟩
def s_Digest.con:Con:=⟨442,sh16,sh1,false,fun x=>s_Digest x⟩
def s_ComputeMAC.con:Con:=⟨428,⟨[e2,(1,vr4)],[]⟩,sh1,false,fun x=>s_ComputeMAC x.1 x.2⟩
def s_HopMAC.con:Con:=⟨412,sh85,sh1,false,fun x=>s_HopMAC x.1 x.2.1 x.2.2.1 (x.2.2.2.1,x.2.2.2.2.1,x.2.2.2.2.2.1,x.2.2.2.2.2.2.1,x.2.2.2.2.2.2.2)⟩
def s_VerifyHop.con:Con:=⟨391,sh86,sh2,false,fun x=>s_VerifyHop (x.1,x.2.1) x.2.2.1 x.2.2.2.1 (x.2.2.2.2.1,x.2.2.2.2.2.1,x.2.2.2.2.2.2.1,x.2.2.2.2.2.2.2.1,x.2.2.2.2.2.2.2.2)⟩
def s_AddMod.con:Con:=⟨385,sh6,sh1,false,fun x=>s_AddMod x.1 x.2⟩
def s_VerifyCurrentHop.con:Con:=⟨335,⟨[e8,e20],[]⟩,sh43,false,fun x=>s_VerifyCurrentHop (x.1,x.2.1) (x.2.2.1,x.2.2.2.1,x.2.2.2.2.1,x.2.2.2.2.2.1,x.2.2.2.2.2.2.1,x.2.2.2.2.2.2.2.1,x.2.2.2.2.2.2.2.2.1,x.2.2.2.2.2.2.2.2.2.1,x.2.2.2.2.2.2.2.2.2.2.1,x.2.2.2.2.2.2.2.2.2.2.2)⟩
def s_HopValidAt.con:Con:=⟨392,⟨[e14,e1],[]⟩,sh2,false,fun x=>s_HopValidAt (x.1,x.2.1,x.2.2.1,x.2.2.2.1,x.2.2.2.2.1) x.2.2.2.2.2⟩
def s_CurrentHopValid.con:Con:=⟨336,sh36,sh2,false,fun x=>s_CurrentHopValid (x.1,x.2.1,x.2.2.1,x.2.2.2.1,x.2.2.2.2.1,x.2.2.2.2.2.1,x.2.2.2.2.2.2.1,x.2.2.2.2.2.2.2.1,x.2.2.2.2.2.2.2.2.1,x.2.2.2.2.2.2.2.2.2.1) x.2.2.2.2.2.2.2.2.2.2⟩
def s_l28Check.con:Con:=⟨242,sh87,⟨[e15,e1],[o2,o6]⟩,false,fun x=>s_l28Check (x.1,x.2.1) x.2.2.1 (x.2.2.2.1,x.2.2.2.2.1,x.2.2.2.2.2.1,x.2.2.2.2.2.2.1,x.2.2.2.2.2.2.2.1,x.2.2.2.2.2.2.2.2.1,x.2.2.2.2.2.2.2.2.2.1,x.2.2.2.2.2.2.2.2.2.2.1,x.2.2.2.2.2.2.2.2.2.2.2.1,x.2.2.2.2.2.2.2.2.2.2.2.2)⟩
def s_AtLastHop.con:Con:=⟨244,sh9,sh2,false,fun x=>s_AtLastHop (x.1,x.2.1,x.2.2.1,x.2.2.2.1,x.2.2.2.2.1,x.2.2.2.2.2.1,x.2.2.2.2.2.2.1,x.2.2.2.2.2.2.2.1,x.2.2.2.2.2.2.2.2.1,x.2.2.2.2.2.2.2.2.2)⟩
def s_AdvanceHop.con:Con:=⟨243,sh9,sh11,false,fun x=>s_AdvanceHop (x.1,x.2.1,x.2.2.1,x.2.2.2.1,x.2.2.2.2.1,x.2.2.2.2.2.1,x.2.2.2.2.2.2.1,x.2.2.2.2.2.2.2.1,x.2.2.2.2.2.2.2.2.1,x.2.2.2.2.2.2.2.2.2)⟩
def s_InterfaceKind.con:Con:=⟨338,sh27,sh1,false,fun x=>s_InterfaceKind (x.1,x.2.1) x.2.2.1 x.2.2.2⟩
def s_TransitAllowed.con:Con:=⟨337,sh6,sh2,false,fun x=>s_TransitAllowed x.1 x.2⟩
def s_StepAllowed.con:Con:=⟨246,⟨[e8,e42],[]⟩,sh2,false,fun x=>s_StepAllowed (x.1,x.2.1) (x.2.2.1,x.2.2.2.1,x.2.2.2.2)⟩
def s_Contains.con:Con:=⟨247,sh6,sh2,false,fun x=>s_Contains x.1 x.2⟩
def s_Forward.con:Con:=⟨145,sh88,sh55,false,fun x=>s_Forward (x.1,x.2.1) x.2.2.1 x.2.2.2.1 x.2.2.2.2.1 x.2.2.2.2.2.1 (x.2.2.2.2.2.2.1,x.2.2.2.2.2.2.2.1,x.2.2.2.2.2.2.2.2.1,x.2.2.2.2.2.2.2.2.2.1,x.2.2.2.2.2.2.2.2.2.2.1,x.2.2.2.2.2.2.2.2.2.2.2.1,x.2.2.2.2.2.2.2.2.2.2.2.2.1,x.2.2.2.2.2.2.2.2.2.2.2.2.2.1,x.2.2.2.2.2.2.2.2.2.2.2.2.2.2.1,x.2.2.2.2.2.2.2.2.2.2.2.2.2.2.2)⟩
def s_FindInbox.con:Con:=⟨200,⟨[e39,e1,e5],[]⟩,sh1,false,fun x=>s_FindInbox x.1 x.2.1 x.2.2⟩
def s_l36For.con:Con:=⟨342,sh28,sh2,false,fun x=>s_l36For (x.1,x.2.1,x.2.2.1,x.2.2.2.1) (x.2.2.2.2.1,x.2.2.2.2.2.1,x.2.2.2.2.2.2.1,x.2.2.2.2.2.2.2.1,x.2.2.2.2.2.2.2.2.1,x.2.2.2.2.2.2.2.2.2.1,x.2.2.2.2.2.2.2.2.2.2.1,x.2.2.2.2.2.2.2.2.2.2.2.1,x.2.2.2.2.2.2.2.2.2.2.2.2.1,x.2.2.2.2.2.2.2.2.2.2.2.2.2)⟩
def s_HandleData.con:Con:=⟨252,sh28,sh35,false,fun x=>s_HandleData (x.1,x.2.1,x.2.2.1,x.2.2.2.1) (x.2.2.2.2.1,x.2.2.2.2.2.1,x.2.2.2.2.2.2.1,x.2.2.2.2.2.2.2.1,x.2.2.2.2.2.2.2.2.1,x.2.2.2.2.2.2.2.2.2.1,x.2.2.2.2.2.2.2.2.2.2.1,x.2.2.2.2.2.2.2.2.2.2.2.1,x.2.2.2.2.2.2.2.2.2.2.2.2.1,x.2.2.2.2.2.2.2.2.2.2.2.2.2)⟩
def s_ReverseKind.con:Con:=⟨320,sh1,sh1,false,fun x=>s_ReverseKind x⟩
def s_BetaAfter.con:Con:=⟨321,sh19,sh1,false,fun x=>s_BetaAfter (x.1,x.2.1,x.2.2.1,x.2.2.2.1) x.2.2.2.2⟩
def s_ReversePart.con:Con:=⟨213,sh32,sh40,false,fun x=>s_ReversePart (x.1,x.2.1,x.2.2.1,x.2.2.2)⟩
def s_ReversePath.con:Con:=⟨115,sh8,sh33,false,fun x=>s_ReversePath x⟩
def s_Endpoints.con:Con:=⟨318,sh8,sh6,false,fun x=>s_Endpoints x⟩
def s_NewPacket.con:Con:=⟨212,sh89,sh11,false,fun x=>s_NewPacket x.1 x.2.1 x.2.2.1 x.2.2.2.1 x.2.2.2.2⟩
def s_Reply.con:Con:=⟨343,sh90,sh11,false,fun x=>s_Reply (x.1,x.2.1,x.2.2.1,x.2.2.2.1,x.2.2.2.2.1,x.2.2.2.2.2.1,x.2.2.2.2.2.2.1,x.2.2.2.2.2.2.2.1,x.2.2.2.2.2.2.2.2.1,x.2.2.2.2.2.2.2.2.2.1) x.2.2.2.2.2.2.2.2.2.2.1 x.2.2.2.2.2.2.2.2.2.2.2.1 x.2.2.2.2.2.2.2.2.2.2.2.2⟩
def s_MakeAck.con:Con:=⟨253,sh28,sh43,false,fun x=>s_MakeAck (x.1,x.2.1,x.2.2.1,x.2.2.2.1) (x.2.2.2.2.1,x.2.2.2.2.2.1,x.2.2.2.2.2.2.1,x.2.2.2.2.2.2.2.1,x.2.2.2.2.2.2.2.2.1,x.2.2.2.2.2.2.2.2.2.1,x.2.2.2.2.2.2.2.2.2.2.1,x.2.2.2.2.2.2.2.2.2.2.2.1,x.2.2.2.2.2.2.2.2.2.2.2.2.1,x.2.2.2.2.2.2.2.2.2.2.2.2.2)⟩
def s_HandleAck.con:Con:=⟨254,⟨[e26,e20],[]⟩,sh20,false,fun x=>s_HandleAck (x.1,x.2.1,x.2.2.1,x.2.2.2.1,x.2.2.2.2.1,x.2.2.2.2.2.1,x.2.2.2.2.2.2.1,x.2.2.2.2.2.2.2.1,x.2.2.2.2.2.2.2.2.1) (x.2.2.2.2.2.2.2.2.2.1,x.2.2.2.2.2.2.2.2.2.2.1,x.2.2.2.2.2.2.2.2.2.2.2.1,x.2.2.2.2.2.2.2.2.2.2.2.2.1,x.2.2.2.2.2.2.2.2.2.2.2.2.2.1,x.2.2.2.2.2.2.2.2.2.2.2.2.2.2.1,x.2.2.2.2.2.2.2.2.2.2.2.2.2.2.2.1,x.2.2.2.2.2.2.2.2.2.2.2.2.2.2.2.2.1,x.2.2.2.2.2.2.2.2.2.2.2.2.2.2.2.2.2.1,x.2.2.2.2.2.2.2.2.2.2.2.2.2.2.2.2.2.2)⟩
def s_ReadVarint.con:Con:=⟨413,sh23,⟨[e2,e1,e16],[]⟩,false,fun x=>s_ReadVarint x.1 x.2⟩
def s_DecodeInts.con:Con:=⟨394,⟨[e12,e1,e5],[]⟩,sh91,false,fun x=>s_DecodeInts x.1 x.2.1 x.2.2⟩
def s_ValidRevocation.con:Con:=⟨301,sh25,sh2,false,fun x=>s_ValidRevocation (x.1,x.2.1,x.2.2)⟩
def s_DecodeRevocation.con:Con:=⟨347,sh18,⟨[e33,e36],[]⟩,false,fun x=>s_DecodeRevocation x⟩
def s_Affects.con:Con:=⟨348,⟨[e11,e42],[]⟩,sh2,false,fun x=>s_Affects x.1 (x.2.1,x.2.2.1,x.2.2.2)⟩
def s_l35Turn.con:Con:=⟨349,sh34,sh20,false,fun x=>s_l35Turn (x.1,x.2.1,x.2.2.1,x.2.2.2.1,x.2.2.2.2.1,x.2.2.2.2.2.1,x.2.2.2.2.2.2.1,x.2.2.2.2.2.2.2.1,x.2.2.2.2.2.2.2.2)⟩
def s_Max.con:Con:=⟨113,sh6,sh1,false,fun x=>s_Max x.1 x.2⟩
def s_AddRevocation.con:Con:=⟨350,⟨[e35,e42],[]⟩,sh60,false,fun x=>s_AddRevocation x.1 (x.2.1,x.2.2.1,x.2.2.2)⟩
def s_HandleRevocation.con:Con:=⟨262,⟨[e26,e20,e5],[]⟩,⟨[(0,.agg [.var ti,.var ti,.var ti,.var ti,.row 0,.row 1,.var ti,.var ti,.var (.sl tRv)])],[o7,o15]⟩,false,fun x=>s_HandleRevocation (x.1,x.2.1,x.2.2.1,x.2.2.2.1,x.2.2.2.2.1,x.2.2.2.2.2.1,x.2.2.2.2.2.2.1,x.2.2.2.2.2.2.2.1,x.2.2.2.2.2.2.2.2.1) (x.2.2.2.2.2.2.2.2.2.1,x.2.2.2.2.2.2.2.2.2.2.1,x.2.2.2.2.2.2.2.2.2.2.2.1,x.2.2.2.2.2.2.2.2.2.2.2.2.1,x.2.2.2.2.2.2.2.2.2.2.2.2.2.1,x.2.2.2.2.2.2.2.2.2.2.2.2.2.2.1,x.2.2.2.2.2.2.2.2.2.2.2.2.2.2.2.1,x.2.2.2.2.2.2.2.2.2.2.2.2.2.2.2.2.1,x.2.2.2.2.2.2.2.2.2.2.2.2.2.2.2.2.2.1,x.2.2.2.2.2.2.2.2.2.2.2.2.2.2.2.2.2.2.1) x.2.2.2.2.2.2.2.2.2.2.2.2.2.2.2.2.2.2.2⟩
def s_l37Tell.con:Con:=⟨154,sh44,sh12,false,fun x=>s_l37Tell ((x.2.2.2.2.2.2.2.2.2.2.2.1,x.2.2.2.2.2.2.2.2.2.2.2.2.1),(x.2.2.2.2.2.2.2.2.2.2.2.2.2.1,x.2.2.2.2.2.2.2.2.2.2.2.2.2.2.1),(x.2.2.2.2.2.2.2.2.2.2.2.2.2.2.2.1,x.2.2.2.2.2.2.2.2.2.2.2.2.2.2.2.2.1,x.2.2.2.2.2.2.2.2.2.2.2.2.2.2.2.2.2.1),x.2.2.2.2.2.2.2.2.2.2.2.2.2.2.2.2.2.2.1,x.2.2.2.2.2.2.2.2.2.2.2.2.2.2.2.2.2.2.2.1,x.2.2.2.2.2.2.2.2.2.2.2.2.2.2.2.2.2.2.2.2.2.1,x.2.2.2.2.2.2.2.2.2.2.2.2.2.2.2.2.2.2.2.2.2.2.1,x.2.2.2.2.2.2.2.2.2.2.2.2.2.2.2.2.2.2.2.2.2.2.2,x.2.2.2.2.2.2.2.2.2.2.2.2.2.2.2.2.2.2.2.2.1) x.1 (x.2.1,x.2.2.1,x.2.2.2.1,x.2.2.2.2.1,x.2.2.2.2.2.1,x.2.2.2.2.2.2.1,x.2.2.2.2.2.2.2.1,x.2.2.2.2.2.2.2.2.1,x.2.2.2.2.2.2.2.2.2.1,x.2.2.2.2.2.2.2.2.2.2.1)⟩
def s_l37Home'1.con:Con:=⟨147,sh44,sh12,false,fun x=>s_l37Home'1 ((x.2.2.2.2.2.2.2.2.2.2.2.1,x.2.2.2.2.2.2.2.2.2.2.2.2.1),(x.2.2.2.2.2.2.2.2.2.2.2.2.2.1,x.2.2.2.2.2.2.2.2.2.2.2.2.2.2.1),(x.2.2.2.2.2.2.2.2.2.2.2.2.2.2.2.1,x.2.2.2.2.2.2.2.2.2.2.2.2.2.2.2.2.1,x.2.2.2.2.2.2.2.2.2.2.2.2.2.2.2.2.2.1),x.2.2.2.2.2.2.2.2.2.2.2.2.2.2.2.2.2.2.1,x.2.2.2.2.2.2.2.2.2.2.2.2.2.2.2.2.2.2.2.1,x.2.2.2.2.2.2.2.2.2.2.2.2.2.2.2.2.2.2.2.2.2.1,x.2.2.2.2.2.2.2.2.2.2.2.2.2.2.2.2.2.2.2.2.2.2.1,x.2.2.2.2.2.2.2.2.2.2.2.2.2.2.2.2.2.2.2.2.2.2.2,x.2.2.2.2.2.2.2.2.2.2.2.2.2.2.2.2.2.2.2.2.1) x.1 (x.2.1,x.2.2.1,x.2.2.2.1,x.2.2.2.2.1,x.2.2.2.2.2.1,x.2.2.2.2.2.2.1,x.2.2.2.2.2.2.2.1,x.2.2.2.2.2.2.2.2.1,x.2.2.2.2.2.2.2.2.2.1,x.2.2.2.2.2.2.2.2.2.2.1)⟩
def s_l34Place.con:Con:=⟨300,⟨[(0,vr17),e1,e5,e9],[]⟩,sh1,false,fun x=>s_l34Place x.1 x.2.1 x.2.2.1 x.2.2.2⟩
def s_UsedCount.con:Con:=⟨255,sh45,sh1,false,fun x=>s_UsedCount (x.1,x.2.1,x.2.2.1) x.2.2.2.1 x.2.2.2.2.1 x.2.2.2.2.2⟩
def s_l32At.con:Con:=⟨344,⟨[e14,e1,e5,e9],[]⟩,sh2,false,fun x=>s_l32At (x.1,x.2.1,x.2.2.1,x.2.2.2.1,x.2.2.2.2.1) x.2.2.2.2.2.1 x.2.2.2.2.2.2.1 x.2.2.2.2.2.2.2⟩
def s_ReservationRate.con:Con:=⟨256,sh46,sh1,false,fun x=>s_ReservationRate x.1 x.2.1 x.2.2.1 x.2.2.2.1 x.2.2.2.2⟩
def s_l34More.con:Con:=⟨257,sh45,sh39,false,fun x=>s_l34More (x.1,x.2.1,x.2.2.1) x.2.2.2.1 x.2.2.2.2.1 x.2.2.2.2.2⟩
def s_ReservedRate.con:Con:=⟨345,sh92,sh1,false,fun x=>s_ReservedRate x.1 x.2.1 x.2.2.1 x.2.2.2⟩
def s_FreeRate.con:Con:=⟨258,sh46,sh1,false,fun x=>s_FreeRate x.1 x.2.1 x.2.2.1 x.2.2.2.1 x.2.2.2.2⟩
def s_Transmit.con:Con:=⟨149,sh65,sh93,false,fun x=>s_Transmit (x.1,x.2.1,x.2.2.1) x.2.2.2.1 x.2.2.2.2.1 x.2.2.2.2.2.1 x.2.2.2.2.2.2⟩
def s_l37Door.con:Con:=⟨151,sh9,sh1,false,fun x=>s_l37Door (x.1,x.2.1,x.2.2.1,x.2.2.2.1,x.2.2.2.2.1,x.2.2.2.2.2.1,x.2.2.2.2.2.2.1,x.2.2.2.2.2.2.2.1,x.2.2.2.2.2.2.2.2.1,x.2.2.2.2.2.2.2.2.2)⟩
def s_Min.con:Con:=⟨259,sh6,sh1,false,fun x=>s_Min x.1 x.2⟩
def s_TruncatePath.con:Con:=⟨153,sh9,sh8,false,fun x=>s_TruncatePath (x.1,x.2.1,x.2.2.1,x.2.2.2.1,x.2.2.2.2.1,x.2.2.2.2.2.1,x.2.2.2.2.2.2.1,x.2.2.2.2.2.2.2.1,x.2.2.2.2.2.2.2.2.1,x.2.2.2.2.2.2.2.2.2)⟩
def s_AppendVarint.con:Con:=⟨393,sh23,sh24,false,fun x=>s_AppendVarint x.1 x.2⟩
def s_EncodeInts.con:Con:=⟨346,sh16,sh24,false,fun x=>s_EncodeInts x⟩
def s_EncodeRevocation.con:Con:=⟨260,sh25,sh24,false,fun x=>s_EncodeRevocation (x.1,x.2.1,x.2.2)⟩
def s_MakeRevocation.con:Con:=⟨150,sh94,sh11,false,fun x=>s_MakeRevocation (x.1,x.2.1) x.2.2.1 x.2.2.2.1 x.2.2.2.2.1 (x.2.2.2.2.2.1,x.2.2.2.2.2.2.1,x.2.2.2.2.2.2.2.1,x.2.2.2.2.2.2.2.2.1,x.2.2.2.2.2.2.2.2.2.1,x.2.2.2.2.2.2.2.2.2.2.1,x.2.2.2.2.2.2.2.2.2.2.2.1,x.2.2.2.2.2.2.2.2.2.2.2.2.1,x.2.2.2.2.2.2.2.2.2.2.2.2.2.1,x.2.2.2.2.2.2.2.2.2.2.2.2.2.2)⟩
def s_l37Arrive'1.con:Con:=⟨74,sh26,sh12,false,fun x=>s_l37Arrive'1 ((x.2.2.2.2.2.2.2.2.2.2.2.2.1,x.2.2.2.2.2.2.2.2.2.2.2.2.2.1),(x.2.2.2.2.2.2.2.2.2.2.2.2.2.2.1,x.2.2.2.2.2.2.2.2.2.2.2.2.2.2.2.1),(x.2.2.2.2.2.2.2.2.2.2.2.2.2.2.2.2.1,x.2.2.2.2.2.2.2.2.2.2.2.2.2.2.2.2.2.1,x.2.2.2.2.2.2.2.2.2.2.2.2.2.2.2.2.2.2.1),x.2.2.2.2.2.2.2.2.2.2.2.2.2.2.2.2.2.2.2.1,x.2.2.2.2.2.2.2.2.2.2.2.2.2.2.2.2.2.2.2.2.1,x.2.2.2.2.2.2.2.2.2.2.2.2.2.2.2.2.2.2.2.2.2.2.1,x.2.2.2.2.2.2.2.2.2.2.2.2.2.2.2.2.2.2.2.2.2.2.2.1,x.2.2.2.2.2.2.2.2.2.2.2.2.2.2.2.2.2.2.2.2.2.2.2.2,x.2.2.2.2.2.2.2.2.2.2.2.2.2.2.2.2.2.2.2.2.2.1) x.1 x.2.1 (x.2.2.1,x.2.2.2.1,x.2.2.2.2.1,x.2.2.2.2.2.1,x.2.2.2.2.2.2.1,x.2.2.2.2.2.2.2.1,x.2.2.2.2.2.2.2.2.1,x.2.2.2.2.2.2.2.2.2.1,x.2.2.2.2.2.2.2.2.2.2.1,x.2.2.2.2.2.2.2.2.2.2.2.1)⟩
def s_l37Home.con:Con:=⟨147,sh44,sh12,false,fun x=>s_l37Home ((x.2.2.2.2.2.2.2.2.2.2.2.1,x.2.2.2.2.2.2.2.2.2.2.2.2.1),(x.2.2.2.2.2.2.2.2.2.2.2.2.2.1,x.2.2.2.2.2.2.2.2.2.2.2.2.2.2.1),(x.2.2.2.2.2.2.2.2.2.2.2.2.2.2.2.1,x.2.2.2.2.2.2.2.2.2.2.2.2.2.2.2.2.1,x.2.2.2.2.2.2.2.2.2.2.2.2.2.2.2.2.2.1),x.2.2.2.2.2.2.2.2.2.2.2.2.2.2.2.2.2.2.1,x.2.2.2.2.2.2.2.2.2.2.2.2.2.2.2.2.2.2.2.1,x.2.2.2.2.2.2.2.2.2.2.2.2.2.2.2.2.2.2.2.2.2.1,x.2.2.2.2.2.2.2.2.2.2.2.2.2.2.2.2.2.2.2.2.2.2.1,x.2.2.2.2.2.2.2.2.2.2.2.2.2.2.2.2.2.2.2.2.2.2.2,x.2.2.2.2.2.2.2.2.2.2.2.2.2.2.2.2.2.2.2.2.1) x.1 (x.2.1,x.2.2.1,x.2.2.2.1,x.2.2.2.2.1,x.2.2.2.2.2.1,x.2.2.2.2.2.2.1,x.2.2.2.2.2.2.2.1,x.2.2.2.2.2.2.2.2.1,x.2.2.2.2.2.2.2.2.2.1,x.2.2.2.2.2.2.2.2.2.2.1)⟩
def s_l37Arrive.con:Con:=⟨74,sh26,sh12,false,fun x=>s_l37Arrive ((x.2.2.2.2.2.2.2.2.2.2.2.2.1,x.2.2.2.2.2.2.2.2.2.2.2.2.2.1),(x.2.2.2.2.2.2.2.2.2.2.2.2.2.2.1,x.2.2.2.2.2.2.2.2.2.2.2.2.2.2.2.1),(x.2.2.2.2.2.2.2.2.2.2.2.2.2.2.2.2.1,x.2.2.2.2.2.2.2.2.2.2.2.2.2.2.2.2.2.1,x.2.2.2.2.2.2.2.2.2.2.2.2.2.2.2.2.2.2.1),x.2.2.2.2.2.2.2.2.2.2.2.2.2.2.2.2.2.2.2.1,x.2.2.2.2.2.2.2.2.2.2.2.2.2.2.2.2.2.2.2.2.1,x.2.2.2.2.2.2.2.2.2.2.2.2.2.2.2.2.2.2.2.2.2.2.1,x.2.2.2.2.2.2.2.2.2.2.2.2.2.2.2.2.2.2.2.2.2.2.2.1,x.2.2.2.2.2.2.2.2.2.2.2.2.2.2.2.2.2.2.2.2.2.2.2.2,x.2.2.2.2.2.2.2.2.2.2.2.2.2.2.2.2.2.2.2.2.2.1) x.1 x.2.1 (x.2.2.1,x.2.2.2.1,x.2.2.2.2.1,x.2.2.2.2.2.1,x.2.2.2.2.2.2.1,x.2.2.2.2.2.2.2.1,x.2.2.2.2.2.2.2.2.1,x.2.2.2.2.2.2.2.2.2.1,x.2.2.2.2.2.2.2.2.2.2.1,x.2.2.2.2.2.2.2.2.2.2.2.1)⟩
def s_ProcessPacket.con:Con:=⟨21,sh66,⟨[(0,.agg [.var (.sl tAS),.var (.sl tLk),.var (.sl tSg),.var (.sl tSg),.var ti,.var (.sl tRs),.var (.sl tUs),.var ti,.var (.sl ti),.row 0,.row 1,.row 2,.var ti])],[o3,o1,o4]⟩,false,fun x=>s_ProcessPacket ((x.1,x.2.1),(x.2.2.1,x.2.2.2.1),(x.2.2.2.2.1,x.2.2.2.2.2.1,x.2.2.2.2.2.2.1),x.2.2.2.2.2.2.2.1,x.2.2.2.2.2.2.2.2.1,x.2.2.2.2.2.2.2.2.2.1,x.2.2.2.2.2.2.2.2.2.2.1,x.2.2.2.2.2.2.2.2.2.2.2.1,x.2.2.2.2.2.2.2.2.2.2.2.2.1) x.2.2.2.2.2.2.2.2.2.2.2.2.2.1 x.2.2.2.2.2.2.2.2.2.2.2.2.2.2.1 (x.2.2.2.2.2.2.2.2.2.2.2.2.2.2.2.1,x.2.2.2.2.2.2.2.2.2.2.2.2.2.2.2.2.1,x.2.2.2.2.2.2.2.2.2.2.2.2.2.2.2.2.2.1,x.2.2.2.2.2.2.2.2.2.2.2.2.2.2.2.2.2.2.1,x.2.2.2.2.2.2.2.2.2.2.2.2.2.2.2.2.2.2.2.1,x.2.2.2.2.2.2.2.2.2.2.2.2.2.2.2.2.2.2.2.2.1,x.2.2.2.2.2.2.2.2.2.2.2.2.2.2.2.2.2.2.2.2.2.1,x.2.2.2.2.2.2.2.2.2.2.2.2.2.2.2.2.2.2.2.2.2.2.1,x.2.2.2.2.2.2.2.2.2.2.2.2.2.2.2.2.2.2.2.2.2.2.2.1,x.2.2.2.2.2.2.2.2.2.2.2.2.2.2.2.2.2.2.2.2.2.2.2.2)⟩
def i_copyTopology.con:Con:=⟨156,⟨[e8],[]⟩,sh49,false,fun x=>i_copyTopology (x.1,x.2)⟩
def i_copyHops.con:Con:=⟨326,sh37,sh50,false,fun x=>i_copyHops x⟩
def i_copySegment.con:Con:=⟨351,sh38,sh51,false,fun x=>i_copySegment (x.1,x.2.1,x.2.2)⟩
def i_copySegments.con:Con:=⟨264,sh52,sh53,false,fun x=>i_copySegments x⟩
def i_copyDatabase.con:Con:=⟨157,⟨[(0,ag15)],[]⟩,sh83,false,fun x=>i_copyDatabase (x.1,x.2)⟩
def i_copyReservations.con:Con:=⟨265,⟨[e25],[]⟩,⟨[e6],[o14]⟩,false,fun x=>i_copyReservations x⟩
def i_copyScheduler.con:Con:=⟨158,sh54,sh39,false,fun x=>i_copyScheduler (x.1,x.2.1,x.2.2)⟩
def i_copyInts.con:Con:=⟨159,sh16,sh17,false,fun x=>i_copyInts x⟩
def i_copyPath.con:Con:=⟨224,sh8,sh33,false,fun x=>i_copyPath x⟩
def i_copyBytes.con:Con:=⟨225,sh18,sh24,false,fun x=>i_copyBytes x⟩
def i_copyPacket.con:Con:=⟨160,sh9,sh11,false,fun x=>i_copyPacket (x.1,x.2.1,x.2.2.1,x.2.2.2.1,x.2.2.2.2.1,x.2.2.2.2.2.1,x.2.2.2.2.2.2.1,x.2.2.2.2.2.2.2.1,x.2.2.2.2.2.2.2.2.1,x.2.2.2.2.2.2.2.2.2)⟩
def i_copyMessages.con:Con:=⟨266,sh56,sh57,false,fun x=>i_copyMessages x⟩
def i_copyPaths.con:Con:=⟨267,sh58,sh59,false,fun x=>i_copyPaths x⟩
def i_copyRevocations.con:Con:=⟨268,sh60,sh61,false,fun x=>i_copyRevocations x⟩
def i_copyFlow.con:Con:=⟨161,sh34,sh20,false,fun x=>i_copyFlow (x.1,x.2.1,x.2.2.1,x.2.2.2.1,x.2.2.2.2.1,x.2.2.2.2.2.1,x.2.2.2.2.2.2.1,x.2.2.2.2.2.2.2.1,x.2.2.2.2.2.2.2.2)⟩
def i_copyInbox.con:Con:=⟨162,sh62,sh35,false,fun x=>i_copyInbox (x.1,x.2.1,x.2.2.1,x.2.2.2)⟩
def i_copyNetwork.con:Con:=⟨77,sh63,sh41,false,fun x=>i_copyNetwork ((x.1,x.2.1),(x.2.2.1,x.2.2.2.1),(x.2.2.2.2.1,x.2.2.2.2.2.1,x.2.2.2.2.2.2.1),x.2.2.2.2.2.2.2.1,x.2.2.2.2.2.2.2.2.1,x.2.2.2.2.2.2.2.2.2.1,x.2.2.2.2.2.2.2.2.2.2.1,x.2.2.2.2.2.2.2.2.2.2.2.1,x.2.2.2.2.2.2.2.2.2.2.2.2)⟩
def i_Network_process'0.con:Con:=⟨78,sh26,sh12,false,fun x=>i_Network_process'0 ((x.2.2.2.2.2.2.2.2.2.2.2.2.1,x.2.2.2.2.2.2.2.2.2.2.2.2.2.1),(x.2.2.2.2.2.2.2.2.2.2.2.2.2.2.1,x.2.2.2.2.2.2.2.2.2.2.2.2.2.2.2.1),(x.2.2.2.2.2.2.2.2.2.2.2.2.2.2.2.2.1,x.2.2.2.2.2.2.2.2.2.2.2.2.2.2.2.2.2.1,x.2.2.2.2.2.2.2.2.2.2.2.2.2.2.2.2.2.2.1),x.2.2.2.2.2.2.2.2.2.2.2.2.2.2.2.2.2.2.2.1,x.2.2.2.2.2.2.2.2.2.2.2.2.2.2.2.2.2.2.2.2.1,x.2.2.2.2.2.2.2.2.2.2.2.2.2.2.2.2.2.2.2.2.2.2.1,x.2.2.2.2.2.2.2.2.2.2.2.2.2.2.2.2.2.2.2.2.2.2.2.1,x.2.2.2.2.2.2.2.2.2.2.2.2.2.2.2.2.2.2.2.2.2.2.2.2,x.2.2.2.2.2.2.2.2.2.2.2.2.2.2.2.2.2.2.2.2.2.1) x.1 x.2.1 (x.2.2.1,x.2.2.2.1,x.2.2.2.2.1,x.2.2.2.2.2.1,x.2.2.2.2.2.2.1,x.2.2.2.2.2.2.2.1,x.2.2.2.2.2.2.2.2.1,x.2.2.2.2.2.2.2.2.2.1,x.2.2.2.2.2.2.2.2.2.2.1,x.2.2.2.2.2.2.2.2.2.2.2.1)⟩
def i_insertInt.con:Con:=⟨362,sh31,sh16,false,fun x=>i_insertInt x.1 x.2⟩
def i_Interfaces.con:Con:=⟨281,sh22,sh16,false,fun x=>i_Interfaces (x.1,x.2.1) x.2.2⟩
def i_usesInterface.con:Con:=⟨309,sh64,sh2,false,fun x=>i_usesInterface (x.1,x.2.1,x.2.2.1,x.2.2.2.1,x.2.2.2.2.1) x.2.2.2.2.2.1 x.2.2.2.2.2.2⟩
def i_LinkIndex.con:Con:=⟨283,sh27,sh1,false,fun x=>i_LinkIndex (x.1,x.2.1) x.2.2.1 x.2.2.2⟩
def i_hasInt.con:Con:=⟨282,sh31,sh2,false,fun x=>i_hasInt x.1 x.2⟩
def i_IR.con:Con:=⟨101,⟨[e2,e1,e5],[]⟩,sh2,false,fun x=>i_IR x.1 x.2.1 x.2.2⟩
def i_ValidSet.con:Con:=⟨361,sh1,sh2,false,fun x=>i_ValidSet x⟩
def i_AddElement.con:Con:=⟨284,sh6,sh1,false,fun x=>i_AddElement x.1 x.2⟩
def i_FailedInterfaces.con:Con:=⟨164,sh84,sh1,false,fun x=>i_FailedInterfaces (x.1,x.2.1) x.2.2.1 x.2.2.2⟩
def i_decide_1.con:Con:=⟨269,⟨[e2,(1,.one (.ptr 1000001 0))],[(1000001,ob3)]⟩,⟨[(0,ag23)],[o2,o6,(1000001,ob3)]⟩,false,fun x=>i_decide_1 x.1 (x.2.1,x.2.2.1,x.2.2.2.1,x.2.2.2.2.1,x.2.2.2.2.2.1,x.2.2.2.2.2.2.1,x.2.2.2.2.2.2.2.1,x.2.2.2.2.2.2.2.2.1,x.2.2.2.2.2.2.2.2.2.1,x.2.2.2.2.2.2.2.2.2.2)⟩
def i_isResidue.con:Con:=⟨353,sh1,sh2,false,fun x=>i_isResidue x⟩
def i_ValidHop.con:Con:=⟨414,sh15,sh2,false,fun x=>i_ValidHop (x.1,x.2.1,x.2.2.1,x.2.2.2.1,x.2.2.2.2)⟩
def i_hopsEncodable.con:Con:=⟨395,sh37,sh2,false,fun x=>i_hopsEncodable x⟩
def i_EncodablePath.con:Con:=⟨352,sh8,sh2,false,fun x=>i_EncodablePath x⟩
def i_hasHop.con:Con:=⟨356,sh9,sh2,false,fun x=>i_hasHop (x.1,x.2.1,x.2.2.1,x.2.2.2.1,x.2.2.2.2.1,x.2.2.2.2.2.1,x.2.2.2.2.2.2.1,x.2.2.2.2.2.2.2.1,x.2.2.2.2.2.2.2.2.1,x.2.2.2.2.2.2.2.2.2)⟩
def i_CurrentAS.con:Con:=⟨272,sh9,sh1,false,fun x=>i_CurrentAS (x.1,x.2.1,x.2.2.1,x.2.2.2.1,x.2.2.2.2.1,x.2.2.2.2.2.1,x.2.2.2.2.2.2.1,x.2.2.2.2.2.2.2.1,x.2.2.2.2.2.2.2.2.1,x.2.2.2.2.2.2.2.2.2)⟩
def i_ValidPacket.con:Con:=⟨270,sh9,sh2,false,fun x=>i_ValidPacket (x.1,x.2.1,x.2.2.1,x.2.2.2.1,x.2.2.2.2.1,x.2.2.2.2.2.1,x.2.2.2.2.2.2.1,x.2.2.2.2.2.2.2.1,x.2.2.2.2.2.2.2.2.1,x.2.2.2.2.2.2.2.2.2)⟩
def i_isAS.con:Con:=⟨204,sh22,sh2,false,fun x=>i_isAS (x.1,x.2.1) x.2.2⟩
def i_hopsOk.con:Con:=⟨415,⟨[e8,(1,vr12)],[]⟩,sh2,false,fun x=>i_hopsOk (x.1,x.2.1) x.2.2⟩
def i_IsReversed.con:Con:=⟨323,sh1,sh2,false,fun x=>i_IsReversed x⟩
def i_PartEgress.con:Con:=⟨278,sh19,sh1,false,fun x=>i_PartEgress (x.1,x.2.1,x.2.2.1,x.2.2.2.1) x.2.2.2.2⟩
def i_RemoteEnd.con:Con:=⟨223,sh27,sh6,false,fun x=>i_RemoteEnd (x.1,x.2.1) x.2.2.1 x.2.2.2⟩
def i_PartIngress.con:Con:=⟨273,sh19,sh1,false,fun x=>i_PartIngress (x.1,x.2.1,x.2.2.1,x.2.2.2.1) x.2.2.2.2⟩
def i_ValidPart.con:Con:=⟨396,⟨[e8,(1,ag5)],[]⟩,sh2,false,fun x=>i_ValidPart (x.1,x.2.1) (x.2.2.1,x.2.2.2.1,x.2.2.2.2.1,x.2.2.2.2.2)⟩
def i_placeOf.con:Con:=⟨397,sh1,sh1,false,fun x=>i_placeOf x⟩
def i_WellFormedPath.con:Con:=⟨354,sh42,sh2,false,fun x=>i_WellFormedPath (x.1,x.2.1) x.2.2⟩
def i_PathSteps.con:Con:=⟨292,sh8,⟨[e6],[(0,ow16)]⟩,false,fun x=>i_PathSteps x⟩
def i_numbered.con:Con:=⟨398,⟨[(0,.one (.var (.sl tStep)))],[]⟩,sh17,false,fun x=>i_numbered x⟩
def i_InterfacesUsed.con:Con:=⟨355,sh8,sh17,false,fun x=>i_InterfacesUsed x⟩
def i_SimplePath.con:Con:=⟨271,sh42,sh2,false,fun x=>i_SimplePath (x.1,x.2.1) x.2.2⟩
def i_AddMod.con:Con:=⟨325,sh6,sh1,false,fun x=>i_AddMod x.1 x.2⟩
def i_SubMod.con:Con:=⟨324,sh6,sh1,false,fun x=>i_SubMod x.1 x.2⟩
def i_Mod.con:Con:=⟨449,sh6,sh1,false,fun x=>i_Mod x.1 x.2⟩
def i_Digest.con:Con:=⟨443,sh16,sh1,false,fun x=>i_Digest x⟩
def i_ComputeMAC.con:Con:=⟨429,⟨[e2,(1,vr4)],[]⟩,sh1,false,fun x=>i_ComputeMAC x.1 x.2⟩
def i_HopMAC.con:Con:=⟨416,sh85,sh1,false,fun x=>i_HopMAC x.1 x.2.1 x.2.2.1 (x.2.2.2.1,x.2.2.2.2.1,x.2.2.2.2.2.1,x.2.2.2.2.2.2.1,x.2.2.2.2.2.2.2)⟩
def i_VerifyHop.con:Con:=⟨399,sh86,sh2,false,fun x=>i_VerifyHop (x.1,x.2.1) x.2.2.1 x.2.2.2.1 (x.2.2.2.2.1,x.2.2.2.2.2.1,x.2.2.2.2.2.2.1,x.2.2.2.2.2.2.2.1,x.2.2.2.2.2.2.2.2)⟩
def i_VerifyCurrentHop.con:Con:=⟨357,⟨[e8,e20],[]⟩,sh43,false,fun x=>i_VerifyCurrentHop (x.1,x.2.1) (x.2.2.1,x.2.2.2.1,x.2.2.2.2.1,x.2.2.2.2.2.1,x.2.2.2.2.2.2.1,x.2.2.2.2.2.2.2.1,x.2.2.2.2.2.2.2.2.1,x.2.2.2.2.2.2.2.2.2.1,x.2.2.2.2.2.2.2.2.2.2.1,x.2.2.2.2.2.2.2.2.2.2.2)⟩
def i_HopValidAt.con:Con:=⟨400,⟨[e14,e1],[]⟩,sh2,false,fun x=>i_HopValidAt (x.1,x.2.1,x.2.2.1,x.2.2.2.1,x.2.2.2.2.1) x.2.2.2.2.2⟩
def i_CurrentHopValid.con:Con:=⟨358,sh36,sh2,false,fun x=>i_CurrentHopValid (x.1,x.2.1,x.2.2.1,x.2.2.2.1,x.2.2.2.2.1,x.2.2.2.2.2.1,x.2.2.2.2.2.2.1,x.2.2.2.2.2.2.2.1,x.2.2.2.2.2.2.2.2.1,x.2.2.2.2.2.2.2.2.2.1) x.2.2.2.2.2.2.2.2.2.2⟩
def i_checkHop.con:Con:=⟨274,sh87,sh36,false,fun x=>i_checkHop (x.1,x.2.1) x.2.2.1 (x.2.2.2.1,x.2.2.2.2.1,x.2.2.2.2.2.1,x.2.2.2.2.2.2.1,x.2.2.2.2.2.2.2.1,x.2.2.2.2.2.2.2.2.1,x.2.2.2.2.2.2.2.2.2.1,x.2.2.2.2.2.2.2.2.2.2.1,x.2.2.2.2.2.2.2.2.2.2.2.1,x.2.2.2.2.2.2.2.2.2.2.2.2)⟩
def i_lastOfPart.con:Con:=⟨275,sh9,sh2,false,fun x=>i_lastOfPart (x.1,x.2.1,x.2.2.1,x.2.2.2.1,x.2.2.2.2.1,x.2.2.2.2.2.1,x.2.2.2.2.2.2.1,x.2.2.2.2.2.2.2.1,x.2.2.2.2.2.2.2.2.1,x.2.2.2.2.2.2.2.2.2)⟩
def i_AtLastHop.con:Con:=⟨276,sh9,sh2,false,fun x=>i_AtLastHop (x.1,x.2.1,x.2.2.1,x.2.2.2.1,x.2.2.2.2.1,x.2.2.2.2.2.1,x.2.2.2.2.2.2.1,x.2.2.2.2.2.2.2.1,x.2.2.2.2.2.2.2.2.1,x.2.2.2.2.2.2.2.2.2)⟩
def i_AdvanceHop.con:Con:=⟨277,sh9,sh11,false,fun x=>i_AdvanceHop (x.1,x.2.1,x.2.2.1,x.2.2.2.1,x.2.2.2.2.1,x.2.2.2.2.2.1,x.2.2.2.2.2.2.1,x.2.2.2.2.2.2.2.1,x.2.2.2.2.2.2.2.2.1,x.2.2.2.2.2.2.2.2.2)⟩
def i_InterfaceKind.con:Con:=⟨360,sh27,sh1,false,fun x=>i_InterfaceKind (x.1,x.2.1) x.2.2.1 x.2.2.2⟩
def i_TransitAllowed.con:Con:=⟨359,sh6,sh2,false,fun x=>i_TransitAllowed x.1 x.2⟩
def i_StepAllowed.con:Con:=⟨279,⟨[e8,e42],[]⟩,sh2,false,fun x=>i_StepAllowed (x.1,x.2.1) (x.2.2.1,x.2.2.2.1,x.2.2.2.2)⟩
def i_Contains.con:Con:=⟨280,sh6,sh2,false,fun x=>i_Contains x.1 x.2⟩
def i_decide.con:Con:=⟨163,sh88,sh80,false,fun x=>i_decide (x.1,x.2.1) x.2.2.1 x.2.2.2.1 x.2.2.2.2.1 x.2.2.2.2.2.1 (x.2.2.2.2.2.2.1,x.2.2.2.2.2.2.2.1,x.2.2.2.2.2.2.2.2.1,x.2.2.2.2.2.2.2.2.2.1,x.2.2.2.2.2.2.2.2.2.2.1,x.2.2.2.2.2.2.2.2.2.2.2.1,x.2.2.2.2.2.2.2.2.2.2.2.2.1,x.2.2.2.2.2.2.2.2.2.2.2.2.2.1,x.2.2.2.2.2.2.2.2.2.2.2.2.2.2.1,x.2.2.2.2.2.2.2.2.2.2.2.2.2.2.2)⟩
def i_usageAt.con:Con:=⟨311,sh45,sh1,false,fun x=>i_usageAt (x.1,x.2.1,x.2.2.1) x.2.2.2.1 x.2.2.2.2.1 x.2.2.2.2.2⟩
def i_UsedCount.con:Con:=⟨363,sh45,sh1,false,fun x=>i_UsedCount (x.1,x.2.1,x.2.2.1) x.2.2.2.1 x.2.2.2.2.1 x.2.2.2.2.2⟩
def i_Reservation_at.con:Con:=⟨378,sh64,sh2,false,fun x=>i_Reservation_at (x.1,x.2.1,x.2.2.1,x.2.2.2.1,x.2.2.2.2.1) x.2.2.2.2.2.1 x.2.2.2.2.2.2⟩
def i_ReservedRate.con:Con:=⟨377,sh92,sh1,false,fun x=>i_ReservedRate x.1 x.2.1 x.2.2.1 x.2.2.2⟩
def i_Max.con:Con:=⟨125,sh6,sh1,false,fun x=>i_Max x.1 x.2⟩
def i_FreeRate.con:Con:=⟨379,sh46,sh1,false,fun x=>i_FreeRate x.1 x.2.1 x.2.2.1 x.2.2.2.1 x.2.2.2.2⟩
def i_ReservationRate.con:Con:=⟨380,sh46,sh1,false,fun x=>i_ReservationRate x.1 x.2.1 x.2.2.1 x.2.2.2.1 x.2.2.2.2⟩
def i_rateOf.con:Con:=⟨312,sh65,sh1,false,fun x=>i_rateOf (x.1,x.2.1,x.2.2.1) x.2.2.2.1 x.2.2.2.2.1 x.2.2.2.2.2.1 x.2.2.2.2.2.2⟩
def i_Transmit.con:Con:=⟨285,sh65,sh93,false,fun x=>i_Transmit (x.1,x.2.1,x.2.2.1) x.2.2.2.1 x.2.2.2.2.1 x.2.2.2.2.2.1 x.2.2.2.2.2.2⟩
def i_Network_send.con:Con:=⟨165,⟨[e28,e1,(2,ag16)],[o5,o3,o1,o4]⟩,sh12,false,fun x=>i_Network_send ((x.2.2.2.2.2.2.2.2.2.2.2.2.2.1,x.2.2.2.2.2.2.2.2.2.2.2.2.2.2.1),(x.2.2.2.2.2.2.2.2.2.2.2.2.2.2.2.1,x.2.2.2.2.2.2.2.2.2.2.2.2.2.2.2.2.1),(x.2.2.2.2.2.2.2.2.2.2.2.2.2.2.2.2.2.1,x.2.2.2.2.2.2.2.2.2.2.2.2.2.2.2.2.2.2.1,x.2.2.2.2.2.2.2.2.2.2.2.2.2.2.2.2.2.2.2.1),x.2.2.2.2.2.2.2.2.2.2.2.2.2.2.2.2.2.2.2.2.1,x.2.2.2.2.2.2.2.2.2.2.2.2.2.2.2.2.2.2.2.2.2.1,x.2.2.2.2.2.2.2.2.2.2.2.2.2.2.2.2.2.2.2.2.2.2.2.1,x.2.2.2.2.2.2.2.2.2.2.2.2.2.2.2.2.2.2.2.2.2.2.2.2.1,x.2.2.2.2.2.2.2.2.2.2.2.2.2.2.2.2.2.2.2.2.2.2.2.2.2,x.2.2.2.2.2.2.2.2.2.2.2.2.2.2.2.2.2.2.2.2.2.2.1) x.1 (x.2.1,x.2.2.1,(x.2.2.2.1,x.2.2.2.2.1,x.2.2.2.2.2.1,x.2.2.2.2.2.2.1,x.2.2.2.2.2.2.2.1,x.2.2.2.2.2.2.2.2.1,x.2.2.2.2.2.2.2.2.2.1,x.2.2.2.2.2.2.2.2.2.2.1,x.2.2.2.2.2.2.2.2.2.2.2.1,x.2.2.2.2.2.2.2.2.2.2.2.2.1))⟩
def i_FindInbox.con:Con:=⟨166,⟨[e39,e1,e5],[]⟩,sh1,false,fun x=>i_FindInbox x.1 x.2.1 x.2.2⟩
def i_comesTo.con:Con:=⟨286,sh28,sh2,false,fun x=>i_comesTo (x.1,x.2.1,x.2.2.1,x.2.2.2.1) (x.2.2.2.2.1,x.2.2.2.2.2.1,x.2.2.2.2.2.2.1,x.2.2.2.2.2.2.2.1,x.2.2.2.2.2.2.2.2.1,x.2.2.2.2.2.2.2.2.2.1,x.2.2.2.2.2.2.2.2.2.2.1,x.2.2.2.2.2.2.2.2.2.2.2.1,x.2.2.2.2.2.2.2.2.2.2.2.2.1,x.2.2.2.2.2.2.2.2.2.2.2.2.2)⟩
def i_HandleData.con:Con:=⟨167,sh28,sh35,false,fun x=>i_HandleData (x.1,x.2.1,x.2.2.1,x.2.2.2.1) (x.2.2.2.2.1,x.2.2.2.2.2.1,x.2.2.2.2.2.2.1,x.2.2.2.2.2.2.2.1,x.2.2.2.2.2.2.2.2.1,x.2.2.2.2.2.2.2.2.2.1,x.2.2.2.2.2.2.2.2.2.2.1,x.2.2.2.2.2.2.2.2.2.2.2.1,x.2.2.2.2.2.2.2.2.2.2.2.2.1,x.2.2.2.2.2.2.2.2.2.2.2.2.2)⟩
def i_ReverseKind.con:Con:=⟨219,sh1,sh1,false,fun x=>i_ReverseKind x⟩
def i_BetaAfter.con:Con:=⟨220,sh19,sh1,false,fun x=>i_BetaAfter (x.1,x.2.1,x.2.2.1,x.2.2.2.1) x.2.2.2.2⟩
def i_reversedHops.con:Con:=⟨221,sh37,sh50,false,fun x=>i_reversedHops x⟩
def i_ReversePart.con:Con:=⟨126,sh32,sh40,false,fun x=>i_ReversePart (x.1,x.2.1,x.2.2.1,x.2.2.2)⟩
def i_ReversePath.con:Con:=⟨59,sh8,sh33,false,fun x=>i_ReversePath x⟩
def i_Endpoints.con:Con:=⟨226,sh8,sh6,false,fun x=>i_Endpoints x⟩
def i_NewPacket.con:Con:=⟨128,sh89,sh11,false,fun x=>i_NewPacket x.1 x.2.1 x.2.2.1 x.2.2.2.1 x.2.2.2.2⟩
def i_Reply.con:Con:=⟨287,sh90,sh11,false,fun x=>i_Reply (x.1,x.2.1,x.2.2.1,x.2.2.2.1,x.2.2.2.2.1,x.2.2.2.2.2.1,x.2.2.2.2.2.2.1,x.2.2.2.2.2.2.2.1,x.2.2.2.2.2.2.2.2.1,x.2.2.2.2.2.2.2.2.2.1) x.2.2.2.2.2.2.2.2.2.2.1 x.2.2.2.2.2.2.2.2.2.2.2.1 x.2.2.2.2.2.2.2.2.2.2.2.2⟩
def i_MakeAck.con:Con:=⟨168,sh28,sh43,false,fun x=>i_MakeAck (x.1,x.2.1,x.2.2.1,x.2.2.2.1) (x.2.2.2.2.1,x.2.2.2.2.2.1,x.2.2.2.2.2.2.1,x.2.2.2.2.2.2.2.1,x.2.2.2.2.2.2.2.2.1,x.2.2.2.2.2.2.2.2.2.1,x.2.2.2.2.2.2.2.2.2.2.1,x.2.2.2.2.2.2.2.2.2.2.2.1,x.2.2.2.2.2.2.2.2.2.2.2.2.1,x.2.2.2.2.2.2.2.2.2.2.2.2.2)⟩
def i_HandleAck.con:Con:=⟨288,⟨[e26,e20],[]⟩,sh20,false,fun x=>i_HandleAck (x.1,x.2.1,x.2.2.1,x.2.2.2.1,x.2.2.2.2.1,x.2.2.2.2.2.1,x.2.2.2.2.2.2.1,x.2.2.2.2.2.2.2.1,x.2.2.2.2.2.2.2.2.1) (x.2.2.2.2.2.2.2.2.2.1,x.2.2.2.2.2.2.2.2.2.2.1,x.2.2.2.2.2.2.2.2.2.2.2.1,x.2.2.2.2.2.2.2.2.2.2.2.2.1,x.2.2.2.2.2.2.2.2.2.2.2.2.2.1,x.2.2.2.2.2.2.2.2.2.2.2.2.2.2.1,x.2.2.2.2.2.2.2.2.2.2.2.2.2.2.2.1,x.2.2.2.2.2.2.2.2.2.2.2.2.2.2.2.2.1,x.2.2.2.2.2.2.2.2.2.2.2.2.2.2.2.2.2.1,x.2.2.2.2.2.2.2.2.2.2.2.2.2.2.2.2.2.2)⟩
def i_ReadVarint.con:Con:=⟨417,sh23,⟨[e2,e1,e16],[]⟩,false,fun x=>i_ReadVarint x.1 x.2⟩
def i_DecodeInts.con:Con:=⟨401,⟨[e12,e1,e5],[]⟩,sh91,false,fun x=>i_DecodeInts x.1 x.2.1 x.2.2⟩
def i_ValidRevocation.con:Con:=⟨313,sh25,sh2,false,fun x=>i_ValidRevocation (x.1,x.2.1,x.2.2)⟩
def i_DecodeRevocation.con:Con:=⟨364,sh18,⟨[e33,e36],[]⟩,false,fun x=>i_DecodeRevocation x⟩
def i_Affects.con:Con:=⟨365,⟨[e11,e42],[]⟩,sh2,false,fun x=>i_Affects x.1 (x.2.1,x.2.2.1,x.2.2.2)⟩
def i_nextPath.con:Con:=⟨366,sh34,sh1,false,fun x=>i_nextPath (x.1,x.2.1,x.2.2.1,x.2.2.2.1,x.2.2.2.2.1,x.2.2.2.2.2.1,x.2.2.2.2.2.2.1,x.2.2.2.2.2.2.2.1,x.2.2.2.2.2.2.2.2)⟩
def i_AddRevocation.con:Con:=⟨367,⟨[e35,e42],[]⟩,sh61,false,fun x=>i_AddRevocation x.1 (x.2.1,x.2.2.1,x.2.2.2)⟩
def i_HandleRevocation.con:Con:=⟨289,⟨[e26,e20,e5],[]⟩,sh20,false,fun x=>i_HandleRevocation (x.1,x.2.1,x.2.2.1,x.2.2.2.1,x.2.2.2.2.1,x.2.2.2.2.2.1,x.2.2.2.2.2.2.1,x.2.2.2.2.2.2.2.1,x.2.2.2.2.2.2.2.2.1) (x.2.2.2.2.2.2.2.2.2.1,x.2.2.2.2.2.2.2.2.2.2.1,x.2.2.2.2.2.2.2.2.2.2.2.1,x.2.2.2.2.2.2.2.2.2.2.2.2.1,x.2.2.2.2.2.2.2.2.2.2.2.2.2.1,x.2.2.2.2.2.2.2.2.2.2.2.2.2.2.1,x.2.2.2.2.2.2.2.2.2.2.2.2.2.2.2.1,x.2.2.2.2.2.2.2.2.2.2.2.2.2.2.2.2.1,x.2.2.2.2.2.2.2.2.2.2.2.2.2.2.2.2.2.1,x.2.2.2.2.2.2.2.2.2.2.2.2.2.2.2.2.2.2.1) x.2.2.2.2.2.2.2.2.2.2.2.2.2.2.2.2.2.2.2⟩
def i_Network_tell.con:Con:=⟨169,sh44,sh12,false,fun x=>i_Network_tell ((x.2.2.2.2.2.2.2.2.2.2.2.1,x.2.2.2.2.2.2.2.2.2.2.2.2.1),(x.2.2.2.2.2.2.2.2.2.2.2.2.2.1,x.2.2.2.2.2.2.2.2.2.2.2.2.2.2.1),(x.2.2.2.2.2.2.2.2.2.2.2.2.2.2.2.1,x.2.2.2.2.2.2.2.2.2.2.2.2.2.2.2.2.1,x.2.2.2.2.2.2.2.2.2.2.2.2.2.2.2.2.2.1),x.2.2.2.2.2.2.2.2.2.2.2.2.2.2.2.2.2.2.1,x.2.2.2.2.2.2.2.2.2.2.2.2.2.2.2.2.2.2.2.1,x.2.2.2.2.2.2.2.2.2.2.2.2.2.2.2.2.2.2.2.2.2.1,x.2.2.2.2.2.2.2.2.2.2.2.2.2.2.2.2.2.2.2.2.2.2.1,x.2.2.2.2.2.2.2.2.2.2.2.2.2.2.2.2.2.2.2.2.2.2.2,x.2.2.2.2.2.2.2.2.2.2.2.2.2.2.2.2.2.2.2.2.1) x.1 (x.2.1,x.2.2.1,x.2.2.2.1,x.2.2.2.2.1,x.2.2.2.2.2.1,x.2.2.2.2.2.2.1,x.2.2.2.2.2.2.2.1,x.2.2.2.2.2.2.2.2.1,x.2.2.2.2.2.2.2.2.2.1,x.2.2.2.2.2.2.2.2.2.2.1)⟩
def i_Min.con:Con:=⟨290,sh6,sh1,false,fun x=>i_Min x.1 x.2⟩
def i_TruncatePath.con:Con:=⟨172,sh9,sh8,false,fun x=>i_TruncatePath (x.1,x.2.1,x.2.2.1,x.2.2.2.1,x.2.2.2.2.1,x.2.2.2.2.2.1,x.2.2.2.2.2.2.1,x.2.2.2.2.2.2.2.1,x.2.2.2.2.2.2.2.2.1,x.2.2.2.2.2.2.2.2.2)⟩
def i_AppendVarint.con:Con:=⟨418,sh23,sh24,false,fun x=>i_AppendVarint x.1 x.2⟩
def i_appendInts.con:Con:=⟨402,⟨[e12,(1,vr4)],[]⟩,sh18,false,fun x=>i_appendInts x.1 x.2⟩
def i_EncodeInts.con:Con:=⟨368,sh16,sh18,false,fun x=>i_EncodeInts x⟩
def i_EncodeRevocation.con:Con:=⟨291,sh25,sh18,false,fun x=>i_EncodeRevocation (x.1,x.2.1,x.2.2)⟩
def i_MakeRevocation.con:Con:=⟨170,sh94,sh11,false,fun x=>i_MakeRevocation (x.1,x.2.1) x.2.2.1 x.2.2.2.1 x.2.2.2.2.1 (x.2.2.2.2.2.1,x.2.2.2.2.2.2.1,x.2.2.2.2.2.2.2.1,x.2.2.2.2.2.2.2.2.1,x.2.2.2.2.2.2.2.2.2.1,x.2.2.2.2.2.2.2.2.2.2.1,x.2.2.2.2.2.2.2.2.2.2.2.1,x.2.2.2.2.2.2.2.2.2.2.2.2.1,x.2.2.2.2.2.2.2.2.2.2.2.2.2.1,x.2.2.2.2.2.2.2.2.2.2.2.2.2.2)⟩
def i_PathLength.con:Con:=⟨171,sh8,sh1,false,fun x=>i_PathLength x⟩
def i_Network_process'1.con:Con:=⟨78,sh26,sh12,false,fun x=>i_Network_process'1 ((x.2.2.2.2.2.2.2.2.2.2.2.2.1,x.2.2.2.2.2.2.2.2.2.2.2.2.2.1),(x.2.2.2.2.2.2.2.2.2.2.2.2.2.2.1,x.2.2.2.2.2.2.2.2.2.2.2.2.2.2.2.1),(x.2.2.2.2.2.2.2.2.2.2.2.2.2.2.2.2.1,x.2.2.2.2.2.2.2.2.2.2.2.2.2.2.2.2.2.1,x.2.2.2.2.2.2.2.2.2.2.2.2.2.2.2.2.2.2.1),x.2.2.2.2.2.2.2.2.2.2.2.2.2.2.2.2.2.2.2.1,x.2.2.2.2.2.2.2.2.2.2.2.2.2.2.2.2.2.2.2.2.1,x.2.2.2.2.2.2.2.2.2.2.2.2.2.2.2.2.2.2.2.2.2.2.1,x.2.2.2.2.2.2.2.2.2.2.2.2.2.2.2.2.2.2.2.2.2.2.2.1,x.2.2.2.2.2.2.2.2.2.2.2.2.2.2.2.2.2.2.2.2.2.2.2.2,x.2.2.2.2.2.2.2.2.2.2.2.2.2.2.2.2.2.2.2.2.2.1) x.1 x.2.1 (x.2.2.1,x.2.2.2.1,x.2.2.2.2.1,x.2.2.2.2.2.1,x.2.2.2.2.2.2.1,x.2.2.2.2.2.2.2.1,x.2.2.2.2.2.2.2.2.1,x.2.2.2.2.2.2.2.2.2.1,x.2.2.2.2.2.2.2.2.2.2.1,x.2.2.2.2.2.2.2.2.2.2.2.1)⟩
def i_Network_process.con:Con:=⟨78,sh26,sh12,false,fun x=>i_Network_process ((x.2.2.2.2.2.2.2.2.2.2.2.2.1,x.2.2.2.2.2.2.2.2.2.2.2.2.2.1),(x.2.2.2.2.2.2.2.2.2.2.2.2.2.2.1,x.2.2.2.2.2.2.2.2.2.2.2.2.2.2.2.1),(x.2.2.2.2.2.2.2.2.2.2.2.2.2.2.2.2.1,x.2.2.2.2.2.2.2.2.2.2.2.2.2.2.2.2.2.1,x.2.2.2.2.2.2.2.2.2.2.2.2.2.2.2.2.2.2.1),x.2.2.2.2.2.2.2.2.2.2.2.2.2.2.2.2.2.2.2.1,x.2.2.2.2.2.2.2.2.2.2.2.2.2.2.2.2.2.2.2.2.1,x.2.2.2.2.2.2.2.2.2.2.2.2.2.2.2.2.2.2.2.2.2.2.1,x.2.2.2.2.2.2.2.2.2.2.2.2.2.2.2.2.2.2.2.2.2.2.2.1,x.2.2.2.2.2.2.2.2.2.2.2.2.2.2.2.2.2.2.2.2.2.2.2.2,x.2.2.2.2.2.2.2.2.2.2.2.2.2.2.2.2.2.2.2.2.2.1) x.1 x.2.1 (x.2.2.1,x.2.2.2.1,x.2.2.2.2.1,x.2.2.2.2.2.1,x.2.2.2.2.2.2.1,x.2.2.2.2.2.2.2.1,x.2.2.2.2.2.2.2.2.1,x.2.2.2.2.2.2.2.2.2.1,x.2.2.2.2.2.2.2.2.2.2.1,x.2.2.2.2.2.2.2.2.2.2.2.1)⟩
def i_ProcessPacket.con:Con:=⟨23,sh66,sh41,false,fun x=>i_ProcessPacket ((x.1,x.2.1),(x.2.2.1,x.2.2.2.1),(x.2.2.2.2.1,x.2.2.2.2.2.1,x.2.2.2.2.2.2.1),x.2.2.2.2.2.2.2.1,x.2.2.2.2.2.2.2.2.1,x.2.2.2.2.2.2.2.2.2.1,x.2.2.2.2.2.2.2.2.2.2.1,x.2.2.2.2.2.2.2.2.2.2.2.1,x.2.2.2.2.2.2.2.2.2.2.2.2.1) x.2.2.2.2.2.2.2.2.2.2.2.2.2.1 x.2.2.2.2.2.2.2.2.2.2.2.2.2.2.1 (x.2.2.2.2.2.2.2.2.2.2.2.2.2.2.2.1,x.2.2.2.2.2.2.2.2.2.2.2.2.2.2.2.2.1,x.2.2.2.2.2.2.2.2.2.2.2.2.2.2.2.2.2.1,x.2.2.2.2.2.2.2.2.2.2.2.2.2.2.2.2.2.2.1,x.2.2.2.2.2.2.2.2.2.2.2.2.2.2.2.2.2.2.2.1,x.2.2.2.2.2.2.2.2.2.2.2.2.2.2.2.2.2.2.2.2.1,x.2.2.2.2.2.2.2.2.2.2.2.2.2.2.2.2.2.2.2.2.2.1,x.2.2.2.2.2.2.2.2.2.2.2.2.2.2.2.2.2.2.2.2.2.2.1,x.2.2.2.2.2.2.2.2.2.2.2.2.2.2.2.2.2.2.2.2.2.2.2.1,x.2.2.2.2.2.2.2.2.2.2.2.2.2.2.2.2.2.2.2.2.2.2.2.2)⟩
def l_eqAS.con:Con:=⟨227,⟨[(0,ag21),(1,ag21)],[]⟩,sh2,false,fun x=>l_eqAS (x.1,x.2.1,x.2.2.1) (x.2.2.2.1,x.2.2.2.2.1,x.2.2.2.2.2)⟩
def l_eqASS.con:Con:=⟨129,⟨[(0,vr21),(1,vr21)],[]⟩,sh2,false,fun x=>l_eqASS x.1 x.2⟩
def l_eqLink.con:Con:=⟨228,sh67,sh2,false,fun x=>l_eqLink (x.1,x.2.1,x.2.2.1,x.2.2.2.1,x.2.2.2.2.1) (x.2.2.2.2.2.1,x.2.2.2.2.2.2.1,x.2.2.2.2.2.2.2.1,x.2.2.2.2.2.2.2.2.1,x.2.2.2.2.2.2.2.2.2)⟩
def l_eqLinkS.con:Con:=⟨130,⟨[(0,vr22),(1,vr22)],[]⟩,sh2,false,fun x=>l_eqLinkS x.1 x.2⟩
def l_eqTopology.con:Con:=⟨61,⟨[e8,(1,ag2)],[]⟩,sh2,false,fun x=>l_eqTopology (x.1,x.2.1) (x.2.2.1,x.2.2.2)⟩
def l_eqHop.con:Con:=⟨387,sh67,sh2,false,fun x=>l_eqHop (x.1,x.2.1,x.2.2.1,x.2.2.2.1,x.2.2.2.2.1) (x.2.2.2.2.2.1,x.2.2.2.2.2.2.1,x.2.2.2.2.2.2.2.1,x.2.2.2.2.2.2.2.2.1,x.2.2.2.2.2.2.2.2.2)⟩
def l_eqHopS.con:Con:=⟨327,⟨[e38,(1,vr12)],[]⟩,sh2,false,fun x=>l_eqHopS x.1 x.2⟩
def l_eqSegment.con:Con:=⟨229,⟨[e46,(1,ag13)],[]⟩,sh2,false,fun x=>l_eqSegment (x.1,x.2.1,x.2.2.1) (x.2.2.2.1,x.2.2.2.2.1,x.2.2.2.2.2)⟩
def l_eqSegmentS.con:Con:=⟨131,⟨[e47,(1,vr14)],[]⟩,sh2,false,fun x=>l_eqSegmentS x.1 x.2⟩
def l_eqSegmentDatabase.con:Con:=⟨62,⟨[(0,ag15),(1,ag15)],[]⟩,sh2,false,fun x=>l_eqSegmentDatabase (x.1,x.2.1) (x.2.2.1,x.2.2.2)⟩
def l_eqReservation.con:Con:=⟨230,sh67,sh2,false,fun x=>l_eqReservation (x.1,x.2.1,x.2.2.1,x.2.2.2.1,x.2.2.2.2.1) (x.2.2.2.2.2.1,x.2.2.2.2.2.2.1,x.2.2.2.2.2.2.2.1,x.2.2.2.2.2.2.2.2.1,x.2.2.2.2.2.2.2.2.2)⟩
def l_eqReservationS.con:Con:=⟨132,⟨[e25,(1,vr9)],[]⟩,sh2,false,fun x=>l_eqReservationS x.1 x.2⟩
def l_eqUsage.con:Con:=⟨231,⟨[(0,ag22),(1,ag22)],[]⟩,sh2,false,fun x=>l_eqUsage (x.1,x.2.1,x.2.2.1,x.2.2.2.1) (x.2.2.2.2.1,x.2.2.2.2.2.1,x.2.2.2.2.2.2.1,x.2.2.2.2.2.2.2)⟩
def l_eqUsageS.con:Con:=⟨133,⟨[(0,vr17),(1,vr17)],[]⟩,sh2,false,fun x=>l_eqUsageS x.1 x.2⟩
def l_eqScheduler.con:Con:=⟨63,⟨[e23,(1,ag8)],[]⟩,sh2,false,fun x=>l_eqScheduler (x.1,x.2.1,x.2.2.1) (x.2.2.2.1,x.2.2.2.2.1,x.2.2.2.2.2)⟩
def l_eqIntS.con:Con:=⟨64,⟨[e19,(1,vr4)],[]⟩,sh2,false,fun x=>l_eqIntS x.1 x.2⟩
def l_eqPathPart.con:Con:=⟨293,⟨[e24,(1,ag5)],[]⟩,sh2,false,fun x=>l_eqPathPart (x.1,x.2.1,x.2.2.1,x.2.2.2.1) (x.2.2.2.2.1,x.2.2.2.2.2.1,x.2.2.2.2.2.2.1,x.2.2.2.2.2.2.2)⟩
def l_eqPathPartS.con:Con:=⟨173,⟨[(0,vr23),(1,vr23)],[]⟩,sh2,false,fun x=>l_eqPathPartS x.1 x.2⟩
def l_eqPath.con:Con:=⟨79,⟨[e11,e41],[]⟩,sh2,false,fun x=>l_eqPath x.1 x.2⟩
def l_eqByteS.con:Con:=⟨80,⟨[e12,(1,vr6)],[]⟩,sh2,false,fun x=>l_eqByteS x.1 x.2⟩
def l_eqPacket.con:Con:=⟨24,⟨[e10,e20],[]⟩,sh2,false,fun x=>l_eqPacket (x.1,x.2.1,x.2.2.1,x.2.2.2.1,x.2.2.2.2.1,x.2.2.2.2.2.1,x.2.2.2.2.2.2.1,x.2.2.2.2.2.2.2.1,x.2.2.2.2.2.2.2.2.1,x.2.2.2.2.2.2.2.2.2.1) (x.2.2.2.2.2.2.2.2.2.2.1,x.2.2.2.2.2.2.2.2.2.2.2.1,x.2.2.2.2.2.2.2.2.2.2.2.2.1,x.2.2.2.2.2.2.2.2.2.2.2.2.2.1,x.2.2.2.2.2.2.2.2.2.2.2.2.2.2.1,x.2.2.2.2.2.2.2.2.2.2.2.2.2.2.2.1,x.2.2.2.2.2.2.2.2.2.2.2.2.2.2.2.2.1,x.2.2.2.2.2.2.2.2.2.2.2.2.2.2.2.2.2.1,x.2.2.2.2.2.2.2.2.2.2.2.2.2.2.2.2.2.2.1,x.2.2.2.2.2.2.2.2.2.2.2.2.2.2.2.2.2.2.2)⟩
def l_eqPacketInFlight.con:Con:=⟨134,⟨[(0,ag16),(1,ag16)],[]⟩,sh2,false,fun x=>l_eqPacketInFlight (x.1,x.2.1,(x.2.2.1,x.2.2.2.1,x.2.2.2.2.1,x.2.2.2.2.2.1,x.2.2.2.2.2.2.1,x.2.2.2.2.2.2.2.1,x.2.2.2.2.2.2.2.2.1,x.2.2.2.2.2.2.2.2.2.1,x.2.2.2.2.2.2.2.2.2.2.1,x.2.2.2.2.2.2.2.2.2.2.2.1)) (x.2.2.2.2.2.2.2.2.2.2.2.2.1,x.2.2.2.2.2.2.2.2.2.2.2.2.2.1,(x.2.2.2.2.2.2.2.2.2.2.2.2.2.2.1,x.2.2.2.2.2.2.2.2.2.2.2.2.2.2.2.1,x.2.2.2.2.2.2.2.2.2.2.2.2.2.2.2.2.1,x.2.2.2.2.2.2.2.2.2.2.2.2.2.2.2.2.2.1,x.2.2.2.2.2.2.2.2.2.2.2.2.2.2.2.2.2.2.1,x.2.2.2.2.2.2.2.2.2.2.2.2.2.2.2.2.2.2.2.1,x.2.2.2.2.2.2.2.2.2.2.2.2.2.2.2.2.2.2.2.2.1,x.2.2.2.2.2.2.2.2.2.2.2.2.2.2.2.2.2.2.2.2.2.1,x.2.2.2.2.2.2.2.2.2.2.2.2.2.2.2.2.2.2.2.2.2.2.1,x.2.2.2.2.2.2.2.2.2.2.2.2.2.2.2.2.2.2.2.2.2.2.2))⟩
def l_eqPacketInFlightS.con:Con:=⟨65,⟨[(0,vr18),(1,vr18)],[]⟩,sh2,false,fun x=>l_eqPacketInFlightS x.1 x.2⟩
def l_eqMessage.con:Con:=⟨136,⟨[(0,ag20),(1,ag20)],[]⟩,sh2,false,fun x=>l_eqMessage x.1 x.2⟩
def l_eqMessageS.con:Con:=⟨68,⟨[e48,(1,vr15)],[]⟩,sh2,false,fun x=>l_eqMessageS x.1 x.2⟩
def l_eqPathS.con:Con:=⟨69,⟨[e49,(1,vr16)],[]⟩,sh2,false,fun x=>l_eqPathS x.1 x.2⟩
def l_eqRevocation.con:Con:=⟨137,⟨[e33,e42],[]⟩,sh2,false,fun x=>l_eqRevocation (x.1,x.2.1,x.2.2.1) (x.2.2.2.1,x.2.2.2.2.1,x.2.2.2.2.2)⟩
def l_eqRevocationS.con:Con:=⟨70,⟨[e35,(1,vr11)],[]⟩,sh2,false,fun x=>l_eqRevocationS x.1 x.2⟩
def l_eqFlow.con:Con:=⟨17,⟨[e26,(1,ag9)],[]⟩,sh2,false,fun x=>l_eqFlow (x.1,x.2.1,x.2.2.1,x.2.2.2.1,x.2.2.2.2.1,x.2.2.2.2.2.1,x.2.2.2.2.2.2.1,x.2.2.2.2.2.2.2.1,x.2.2.2.2.2.2.2.2.1) (x.2.2.2.2.2.2.2.2.2.1,x.2.2.2.2.2.2.2.2.2.2.1,x.2.2.2.2.2.2.2.2.2.2.2.1,x.2.2.2.2.2.2.2.2.2.2.2.2.1,x.2.2.2.2.2.2.2.2.2.2.2.2.2.1,x.2.2.2.2.2.2.2.2.2.2.2.2.2.2.1,x.2.2.2.2.2.2.2.2.2.2.2.2.2.2.2.1,x.2.2.2.2.2.2.2.2.2.2.2.2.2.2.2.2.1,x.2.2.2.2.2.2.2.2.2.2.2.2.2.2.2.2.2)⟩
def l_eqFlowS.con:Con:=⟨66,⟨[(0,vr19),(1,vr19)],[]⟩,sh2,false,fun x=>l_eqFlowS x.1 x.2⟩
def l_eqInbox.con:Con:=⟨135,⟨[e27,(1,ag10)],[]⟩,sh2,false,fun x=>l_eqInbox (x.1,x.2.1,x.2.2.1,x.2.2.2.1) (x.2.2.2.2.1,x.2.2.2.2.2.1,x.2.2.2.2.2.2.1,x.2.2.2.2.2.2.2)⟩
def l_eqInboxS.con:Con:=⟨67,⟨[e39,(1,vr13)],[]⟩,sh2,false,fun x=>l_eqInboxS x.1 x.2⟩
def l_eqNetwork.con:Con:=⟨16,⟨[e31,(1,ag11)],[]⟩,sh2,false,fun x=>l_eqNetwork ((x.1,x.2.1),(x.2.2.1,x.2.2.2.1),(x.2.2.2.2.1,x.2.2.2.2.2.1,x.2.2.2.2.2.2.1),x.2.2.2.2.2.2.2.1,x.2.2.2.2.2.2.2.2.1,x.2.2.2.2.2.2.2.2.2.1,x.2.2.2.2.2.2.2.2.2.2.1,x.2.2.2.2.2.2.2.2.2.2.2.1,x.2.2.2.2.2.2.2.2.2.2.2.2.1) ((x.2.2.2.2.2.2.2.2.2.2.2.2.2.1,x.2.2.2.2.2.2.2.2.2.2.2.2.2.2.1),(x.2.2.2.2.2.2.2.2.2.2.2.2.2.2.2.1,x.2.2.2.2.2.2.2.2.2.2.2.2.2.2.2.2.1),(x.2.2.2.2.2.2.2.2.2.2.2.2.2.2.2.2.2.1,x.2.2.2.2.2.2.2.2.2.2.2.2.2.2.2.2.2.2.1,x.2.2.2.2.2.2.2.2.2.2.2.2.2.2.2.2.2.2.2.1),x.2.2.2.2.2.2.2.2.2.2.2.2.2.2.2.2.2.2.2.2.1,x.2.2.2.2.2.2.2.2.2.2.2.2.2.2.2.2.2.2.2.2.2.1,x.2.2.2.2.2.2.2.2.2.2.2.2.2.2.2.2.2.2.2.2.2.2.1,x.2.2.2.2.2.2.2.2.2.2.2.2.2.2.2.2.2.2.2.2.2.2.2.1,x.2.2.2.2.2.2.2.2.2.2.2.2.2.2.2.2.2.2.2.2.2.2.2.2.1,x.2.2.2.2.2.2.2.2.2.2.2.2.2.2.2.2.2.2.2.2.2.2.2.2.2)⟩
def l_markASS.con:Con:=⟨174,⟨[e17,e1],[(1000000,.win 3 tAS)]⟩,⟨[e2],[(1000000,.win 3 tAS)]⟩,false,fun x=>l_markASS x.2 x.1⟩
def l_markLinkS.con:Con:=⟨175,⟨[e17,e1],[(1000000,.win 5 tLk)]⟩,⟨[e2],[(1000000,.win 5 tLk)]⟩,false,fun x=>l_markLinkS x.2 x.1⟩
def l_markTopology.con:Con:=⟨81,⟨[(0,ag26),e1],[(1000000,.win 3 tAS),(1000001,.win 5 tLk)]⟩,⟨[e2],[(1000000,.win 3 tAS),(1000001,.win 5 tLk)]⟩,false,fun x=>l_markTopology (x.2.1,x.2.2) x.1⟩
def l_markHopS.con:Con:=⟨294,⟨[e17,e1],[(1000000,.win 5 tHop)]⟩,⟨[e2],[(1000000,.win 5 tHop)]⟩,false,fun x=>l_markHopS x.2 x.1⟩
def l_markSegmentS.con:Con:=⟨176,⟨[e17,e1],[(1000000,.win 3 tSg)]⟩,⟨[e2],[(1000000,.win 3 tSg)]⟩,false,fun x=>l_markSegmentS x.2 x.1⟩
def l_markSegmentDatabase.con:Con:=⟨82,⟨[(0,ag26),e1],[(1000000,.win 3 tSg),(1000001,.win 3 tSg)]⟩,⟨[e2],[(1000000,.win 3 tSg),(1000001,.win 3 tSg)]⟩,false,fun x=>l_markSegmentDatabase (x.2.1,x.2.2) x.1⟩
def l_markReservationS.con:Con:=⟨177,⟨[e17,e1],[(1000000,.win 5 tRs)]⟩,⟨[e2],[(1000000,.win 5 tRs)]⟩,false,fun x=>l_markReservationS x.2 x.1⟩
def l_markUsageS.con:Con:=⟨178,⟨[e17,e1],[(1000000,.win 4 tUs)]⟩,⟨[e2],[(1000000,.win 4 tUs)]⟩,false,fun x=>l_markUsageS x.2 x.1⟩
def l_markScheduler.con:Con:=⟨83,⟨[(0,.agg [.var ti,.row 1000000,.row 1000001]),e1],[(1000000,.win 5 tRs),(1000001,.win 4 tUs)]⟩,⟨[e2],[(1000000,.win 5 tRs),(1000001,.win 4 tUs)]⟩,false,fun x=>l_markScheduler (x.1,x.2.2.1,x.2.2.2) x.2.1⟩
def l_markIntS.con:Con:=⟨84,⟨[e17,e1],[(1000000,.win 1 ti)]⟩,⟨[e2],[(1000000,.win 1 ti)]⟩,false,fun x=>l_markIntS x.2 x.1⟩
def l_markPathPartS.con:Con:=⟨179,⟨[e17,e1],[(1000000,.win 4 tPp)]⟩,sh95,false,fun x=>l_markPathPartS x.2 x.1⟩
def l_markByteS.con:Con:=⟨89,⟨[e17,e1],[(1000000,.win 1 tb)]⟩,⟨[e2],[(1000000,.win 1 tb)]⟩,false,fun x=>l_markByteS x.2 x.1⟩
def l_markPacketInFlightS.con:Con:=⟨85,⟨[e17,e1],[(1000000,.win 12 tFy)]⟩,⟨[e2],[(1000000,.win 12 tFy)]⟩,false,fun x=>l_markPacketInFlightS x.2 x.1⟩
def l_markMessageS.con:Con:=⟨180,⟨[e17,e1],[(1000000,.win 1 tMs)]⟩,⟨[e2],[(1000000,.win 1 tMs)]⟩,false,fun x=>l_markMessageS x.2 x.1⟩
def l_markPathS.con:Con:=⟨181,⟨[e17,e1],[(1000000,.win 1 tPt)]⟩,⟨[e2],[(1000000,.win 1 tPt)]⟩,false,fun x=>l_markPathS x.2 x.1⟩
def l_markRevocationS.con:Con:=⟨182,⟨[e17,e1],[(1000000,.win 3 tRv)]⟩,⟨[e2],[(1000000,.win 3 tRv)]⟩,false,fun x=>l_markRevocationS x.2 x.1⟩
def l_markFlowS.con:Con:=⟨86,⟨[e17,e1],[(1000000,.win 9 tFl)]⟩,⟨[e2],[(1000000,.win 9 tFl)]⟩,false,fun x=>l_markFlowS x.2 x.1⟩
def l_markInboxS.con:Con:=⟨87,⟨[e17,e1],[(1000000,.win 4 tIb)]⟩,⟨[e2],[(1000000,.win 4 tIb)]⟩,false,fun x=>l_markInboxS x.2 x.1⟩
def l_markNetwork.con:Con:=⟨25,⟨[(0,.agg [.row 1000000,.row 1000001,.row 1000002,.row 1000003,.var ti,.row 1000004,.row 1000005,.var ti,.row 1000006,.row 1000007,.row 1000008,.row 1000009,.var ti]),e1],[(1000000,.win 3 tAS),(1000001,.win 5 tLk),(1000002,.win 3 tSg),(1000003,.win 3 tSg),(1000004,.win 5 tRs),(1000005,.win 4 tUs),(1000006,.win 1 ti),(1000007,.win 12 tFy),(1000008,.win 9 tFl),(1000009,.win 4 tIb)]⟩,⟨[e2],[(1000000,.win 3 tAS),(1000001,.win 5 tLk),(1000002,.win 3 tSg),(1000003,.win 3 tSg),(1000004,.win 5 tRs),(1000005,.win 4 tUs),(1000006,.win 1 ti),(1000007,.win 12 tFy),(1000008,.win 9 tFl),(1000009,.win 4 tIb)]⟩,false,fun x=>l_markNetwork ((x.2.2.2.2.1,x.2.2.2.2.2.1),(x.2.2.2.2.2.2.1,x.2.2.2.2.2.2.2.1),(x.1,x.2.2.2.2.2.2.2.2.1,x.2.2.2.2.2.2.2.2.2.1),x.2.1,x.2.2.2.2.2.2.2.2.2.2.1,x.2.2.2.2.2.2.2.2.2.2.2.1,x.2.2.2.2.2.2.2.2.2.2.2.2.1,x.2.2.2.2.2.2.2.2.2.2.2.2.2,x.2.2.1) x.2.2.2.1⟩
def l_markPath.con:Con:=⟨88,⟨[(0,.agg [.row 1000000]),e1],[(1000000,.win 4 tPp)]⟩,sh95,false,fun x=>l_markPath x.2 x.1⟩
def l_markPacket.con:Con:=⟨26,⟨[(0,.agg [.var ti,.var ti,.var ti,.row 1000000,.var ti,.var ti,.var ti,.var ti,.var ti,.row 1000001]),e1],[(1000000,.win 4 tPp),(1000001,.win 1 tb)]⟩,⟨[e2],[(1000000,.win 4 tPp),(1000001,.win 1 tb)]⟩,false,fun x=>l_markPacket (x.1,x.2.1,x.2.2.1,x.2.2.2.2.2.2.2.2.2.1,x.2.2.2.1,x.2.2.2.2.1,x.2.2.2.2.2.1,x.2.2.2.2.2.2.1,x.2.2.2.2.2.2.2.1,x.2.2.2.2.2.2.2.2.2.2) x.2.2.2.2.2.2.2.2.1⟩
def l_heldASS.con:Con:=⟨183,sh75,sh1,false,fun x=>l_heldASS x.1 x.2⟩
def l_heldLinkS.con:Con:=⟨184,sh76,sh1,false,fun x=>l_heldLinkS x.1 x.2⟩
def l_heldTopology.con:Con:=⟨90,sh22,sh1,false,fun x=>l_heldTopology (x.1,x.2.1) x.2.2⟩
def l_heldHopS.con:Con:=⟨295,⟨[e38,e1],[]⟩,sh1,false,fun x=>l_heldHopS x.1 x.2⟩
def l_heldSegmentS.con:Con:=⟨185,⟨[e47,e1],[]⟩,sh1,false,fun x=>l_heldSegmentS x.1 x.2⟩
def l_heldSegmentDatabase.con:Con:=⟨91,sh77,sh1,false,fun x=>l_heldSegmentDatabase (x.1,x.2.1) x.2.2⟩
def l_heldReservationS.con:Con:=⟨186,⟨[e25,e1],[]⟩,sh1,false,fun x=>l_heldReservationS x.1 x.2⟩
def l_heldUsageS.con:Con:=⟨187,sh78,sh1,false,fun x=>l_heldUsageS x.1 x.2⟩
def l_heldScheduler.con:Con:=⟨92,⟨[e23,e1],[]⟩,sh1,false,fun x=>l_heldScheduler (x.1,x.2.1,x.2.2.1) x.2.2.2⟩
def l_heldIntS.con:Con:=⟨93,sh31,sh1,false,fun x=>l_heldIntS x.1 x.2⟩
def l_heldPathPartS.con:Con:=⟨188,sh79,sh1,false,fun x=>l_heldPathPartS x.1 x.2⟩
def l_heldByteS.con:Con:=⟨189,sh23,sh1,false,fun x=>l_heldByteS x.1 x.2⟩
def l_heldPacketInFlightS.con:Con:=⟨94,sh81,sh1,false,fun x=>l_heldPacketInFlightS x.1 x.2⟩
def l_heldMessageS.con:Con:=⟨190,⟨[e48,e1],[]⟩,sh1,false,fun x=>l_heldMessageS x.1 x.2⟩
def l_heldPathS.con:Con:=⟨191,⟨[e49,e1],[]⟩,sh1,false,fun x=>l_heldPathS x.1 x.2⟩
def l_heldRevocationS.con:Con:=⟨192,⟨[e35,e1],[]⟩,sh1,false,fun x=>l_heldRevocationS x.1 x.2⟩
def l_heldFlowS.con:Con:=⟨95,sh82,sh1,false,fun x=>l_heldFlowS x.1 x.2⟩
def l_heldInboxS.con:Con:=⟨96,⟨[e39,e1],[]⟩,sh1,false,fun x=>l_heldInboxS x.1 x.2⟩
def l_heldNetwork.con:Con:=⟨27,⟨[e31,e1],[]⟩,sh1,false,fun x=>l_heldNetwork ((x.1,x.2.1),(x.2.2.1,x.2.2.2.1),(x.2.2.2.2.1,x.2.2.2.2.2.1,x.2.2.2.2.2.2.1),x.2.2.2.2.2.2.2.1,x.2.2.2.2.2.2.2.2.1,x.2.2.2.2.2.2.2.2.2.1,x.2.2.2.2.2.2.2.2.2.2.1,x.2.2.2.2.2.2.2.2.2.2.2.1,x.2.2.2.2.2.2.2.2.2.2.2.2.1) x.2.2.2.2.2.2.2.2.2.2.2.2.2⟩
def l_FnExactProcessPacket.con:Con:=⟨5,sh66,sh2,false,fun x=>l_FnExactProcessPacket ((x.1,x.2.1),(x.2.2.1,x.2.2.2.1),(x.2.2.2.2.1,x.2.2.2.2.2.1,x.2.2.2.2.2.2.1),x.2.2.2.2.2.2.2.1,x.2.2.2.2.2.2.2.2.1,x.2.2.2.2.2.2.2.2.2.1,x.2.2.2.2.2.2.2.2.2.2.1,x.2.2.2.2.2.2.2.2.2.2.2.1,x.2.2.2.2.2.2.2.2.2.2.2.2.1) x.2.2.2.2.2.2.2.2.2.2.2.2.2.1 x.2.2.2.2.2.2.2.2.2.2.2.2.2.2.1 (x.2.2.2.2.2.2.2.2.2.2.2.2.2.2.2.1,x.2.2.2.2.2.2.2.2.2.2.2.2.2.2.2.2.1,x.2.2.2.2.2.2.2.2.2.2.2.2.2.2.2.2.2.1,x.2.2.2.2.2.2.2.2.2.2.2.2.2.2.2.2.2.2.1,x.2.2.2.2.2.2.2.2.2.2.2.2.2.2.2.2.2.2.2.1,x.2.2.2.2.2.2.2.2.2.2.2.2.2.2.2.2.2.2.2.2.1,x.2.2.2.2.2.2.2.2.2.2.2.2.2.2.2.2.2.2.2.2.2.1,x.2.2.2.2.2.2.2.2.2.2.2.2.2.2.2.2.2.2.2.2.2.2.1,x.2.2.2.2.2.2.2.2.2.2.2.2.2.2.2.2.2.2.2.2.2.2.2.1,x.2.2.2.2.2.2.2.2.2.2.2.2.2.2.2.2.2.2.2.2.2.2.2.2)⟩
end

end Go.Proofs.YtejfajiolkojlaaGreat
