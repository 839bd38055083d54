/-
  Contracts of the functions of the program. Conditions: none.
-/
import Derived.Test.YtcppmcbkokgfcaaGreatT0FnSettling
import Derived.Test.YtcppmcbkokgfcaaGreatProg
import Derived.KernelRfl
set_option linter.unusedVariables false
set_option linter.unusedSimpArgs false
set_option maxRecDepth 100000
namespace Go.Proofs.YtcppmcbkokgfcaaGreat
open Go.Ab Go.V
noncomputable section
theorem follows:Tryz.prog.follows .mixedOrders=true:=by kernel_rfl
theorem _root_.Go.V.Con.Ok.c {P:Program} {c:Con} {E:List Con} (h:c.Ok P) (k:aF8 P E):aF8 P (c::E):=⟨h,k⟩
theorem fk {E:List Con} {c:Con} {fn:Func} (hf:Tryz.prog.funcs[c.f]? =some fn) (k:aF8 Tryz.prog E) (pl:Plan) (e: ∀ x,bPm Tryz.prog E fn pl c.pre c.post x=c.sem x:=by intro x;kernel_rfl) (hn:(fn.name=="runtime.NumGoroutine")=false:=by rfl):c.Ok Tryz.prog:=bYp hf hn follows (aF8.mem k) fun x y h=>(e x).trans h
theorem nok:aF8 Tryz.prog []:=trivial
abbrev _root_.Go.V.Plan.q (p:Plan):Plan:= .seq .z p
def ow1:OT:= .row 48 9 tFl false
def ow2:OT:= .row 70 12 tFy false
def ow3:OT:= .row 108 4 tIb false
def ow4:OT:= .row 203 4 tPp true
def ow5:OT:= .row 3 1 ti true
def ow6:OT:= .row 5 1 tb true
def ow7:OT:= .row 66 1 tPt true
def ow8:OT:= .row 151 3 tSg true
def ow9:OT:= .row 238 5 tRs true
def aLz:OT:= .row 144 3 tAS true
def aEc:OT:= .row 165 1 tMs true
def aHf:OT:= .row 146 5 tLk true
def aDr:OT:= .row 186 4 tUs true
def aLy:OT:= .row 221 5 cM true
def aFp:OT:= .row 171 3 tRv true
def aMn:OT:= .row 236 3 aAt true
def aFn:OT:= .row 70 12 tFy true
def aIr:OT:= .row 108 4 tIb true
def aLt:OT:= .row 48 9 tFl true
def aTp:OT:= .row 66 1 tPt false
def bAj:OT:= .row 203 4 tPp false
def bO7:OT:= .row 72 15 kR false
def ob1:OT:= .box [.var (.sl tb),.var ti,.var ti]
def ob2:OT:= .box [.var (.sl tAS),.var (.sl tLk),.var (.sl tSg),.var (.sl tSg),.var ti,.var (.sl tRs),.var (.sl tUs),.var ti,.var (.sl ti),.row 0,.row 1,.row 2,.var ti]
def ob3:OT:= .box [.var (.sl tAS),.var (.sl tLk),.var (.sl tSg),.var (.sl tSg),.var ti,.var (.sl tRs),.var (.sl tUs),.var ti,.var (.sl ti),.row 300001,.row 300002,.row 300003,.var ti]
def ob4:OT:= .box [.row 300001]
def ob5:OT:= .box [.row 300001,.row 300003]
def ob6:OT:= .box [.var (.sl tAS),.var (.sl tLk)]
def ob7:OT:= .box [.var ti,.var ti,.var ti,.var (.sl tPp),.var ti,.var ti,.var ti,.var ti,.var ti,.var (.sl tb)]
def ob8:OT:= .box [.var ti,.var ti,.var ti,.row 300001]
def ob9:OT:= .box [.var ti,.var ti,.row 300003]
def bF0:OT:= .box [.row 300005]
def bPg:OT:= .box [.row 300001,.nil]
def bN0:OT:= .box [.var ti,.var ti,.row 300004]
def bXc:OT:= .box [.var ti,.var ti,.var ti,.var ti,.row 1144,.row 1145,.var ti,.var ti,.row 1146]
def bU6:OT:= .box [.var ti,.var ti,.var ti,.var ti,.var ti,.row 1560,.var ti,.var ti,.var ti,.var ti,.var ti,.row 1561]
def bPk:OT:= .box [.var ti,.var ti,.var ti,.var ti,.var (.sl tMs),.var (.sl tPt),.var ti,.var ti,.var (.sl tRv)]
def bOg:OT:= .box [.row 1208,.row 1209,.row 1272,.row 1273,.var ti,.row 1336,.row 1337,.var ti,.row 1400,.row 300001,.nil,.nil,.var ti]
def bLy:OT:= .box [.row 1208,.row 1209,.row 1272,.row 1273,.var ti,.row 1336,.row 1337,.var ti,.row 1400,.row 300001,.row 300002,.nil,.var ti]
def bXp:OT:= .box [.var ti,.var ti,.var ti,.var ti,.var ti,.var (.sl tPp),.var ti,.var ti,.var ti,.var ti,.var ti,.var (.sl tb)]
def bVq:OT:= .box [.var ti,.var ti,.row 300001]
def bWo:OT:= .box [.var ti,.var ti,.var ti,.var ti,.var ti]
def bWu:OT:= .box [.row 1160,.row 1208]
def bXj:OT:= .box [.var ti,.var ti,.var ti,.nil]
def bVn:OT:= .box [.var ti,.var ti,.var ti]
def bX5:OT:= .box [.row 300001,.row 300002]
def bYb:OT:= .box [.row 300007,.row 300008,.row 300009,.row 300010,.var ti,.row 300006,.row 300011,.var ti,.row 300012,.row 300013,.row 300014,.row 300015,.var ti]
def bX3:OT:= .box [.var ti,.var ti,.var ti,.var ti,.row 300003,.row 300004,.var ti,.var ti,.row 300005]
def bWd:OT:= .box [.var (.sl tPp)]
def bV3:OT:= .box [.var ti,.var ti,.var ti,.var (.sl tPp),.var ti,.var ti,.var ti,.var ti,.var ti,.row 1161]
def cA5:OT:= .box [.var ti,.var ti,.var ti,.row 1192,.var ti,.var ti,.var ti,.var ti,.var ti,.row 1193]
def bV2:OT:= .box [.var ti,.var ti,.var ti,.row 300001,.var ti,.var ti,.var ti,.var ti,.var ti,.row 300002]
def cAk:OT:= .box [.var ti,.var ti,.var ti,.row 1112]
def cAf:OT:= .box [.var ti,.var ti,.var ti,.var ti,.row 1112,.row 1113,.var ti,.var ti,.row 1114]
def cBb:OT:= .box [.var ti,.var ti,.var ti,.row 1544]
def cA9:OT:= .box [.var ti,.var ti,.var ti,.var ti,.row 2312,.row 2313,.var ti,.var ti,.row 2314]
def cAe:OT:= .box [.var ti,.row 2152,.row 2153]
def cAu:OT:= .box [.var (.sl tAS),.var (.sl tLk),.var (.sl tSg),.var (.sl tSg),.var ti,.row 2152,.row 2153,.var ti,.var (.sl ti),.row 0,.row 1,.row 2,.var ti]
def cAg:OT:= .box [.var ti,.var ti,.var ti,.row 2904,.var ti,.var ti,.var ti,.var ti,.var ti,.row 2905]
def cAi:OT:= .box [.var (.sl tAS),.var (.sl tLk),.var (.sl tSg),.var (.sl tSg),.var ti,.var (.sl tRs),.var (.sl tUs),.var ti,.var (.sl ti),.row 14,.row 1,.row 2,.var ti]
def bVc:OT:= .box [.var ti,.var ti,.nil,.var ti,.var ti,.var ti,.var ti,.var ti,.var (.sl tPp),.var ti,.var ti,.var ti,.var ti,.var ti,.row 300001]
def bX2:OT:= .box [.var ti,.row 300001,.row 1177]
def bV8:OT:= .box [.var ti,.row 300001,.row 300002]
def cAn:OT:= .box [.var (.sl tAS),.var (.sl tLk),.var (.sl tSg),.var (.sl tSg),.var ti,.var (.sl tRs),.var (.sl tUs),.var ti,.var (.sl ti),.row 1129,.row 1130,.row 1131,.var ti]
def bVf:OT:= .box [.row 1208,.row 1209,.row 1272,.row 1273,.var ti,.row 1336,.row 1337,.var ti,.row 1400,.row 300001,.row 300002,.row 300003,.var ti]
def bW0:OT:= .box [.var ti,.var .bool,.var ti]
def cAq:OT:= .box [.var ti,.var ti,.var ti,.row 2584,.var ti,.var ti,.var ti,.var ti,.var ti,.row 2585]
def cAx:OT:= .box [.var ti,.var ti,.var ti,.row 3176,.var ti,.var ti,.var ti,.var ti,.var ti,.row 3177]
def bXs:OT:= .box [.var ti,.row 300001,.var ti,.var ti,.var ti,.row 300002,.var ti,.var ti,.var ti,.var ti,.var ti,.row 300003]
def ag1:ST:= .agg [.var (.sl tAS),.var (.sl tLk)]
def ag2:ST:= .agg [.var ti,.var ti,.var ti,.var (.sl tPp),.var ti,.var ti,.var ti,.var ti,.var ti,.var (.sl tb)]
def ag3:ST:= .agg [.var (.sl tPp)]
def ag4:ST:= .agg [.var ti,.var ti,.var (.sl cM)]
def ag5:ST:= .agg [.var ti,.var ti,.var ti,.var ti,.var (.sl tMs),.var (.sl tPt),.var ti,.var ti,.var (.sl tRv)]
def ag6:ST:= .agg [.var (.sl tAS),.var (.sl tLk),.var (.sl tSg),.var (.sl tSg),.var ti,.var (.sl tRs),.var (.sl tUs),.var ti,.var (.sl ti),.var (.sl tFy),.var (.sl tFl),.var (.sl tIb),.var ti]
def ag7:ST:= .agg [.var ti,.var ti,.var ti,.var ti,.var ti]
def ag8:ST:= .agg [.var ti,.var ti,.var ti,.var (.sl cM)]
def ag9:ST:= .agg [.var ti,.var ti,.var ti,.row 0,.var ti,.var ti,.var ti,.var ti,.var ti,.row 1]
def bW5:ST:= .agg [.var ti,.var (.sl tRs),.var (.sl tUs)]
def bMe:ST:= .agg [.var ti,.var ti,.var ti,.var (.sl tMs)]
def bWr:ST:= .agg [.var (.sl tSg),.var (.sl tSg)]
def bXg:ST:= .agg [.var ti,.var ti,.var ti]
def cBa:ST:= .agg [.var (.sl tAS),.var (.sl tLk),.var (.sl tSg),.var (.sl tSg),.var ti,.var (.sl tRs),.var (.sl tUs),.var ti,.var (.sl ti),.row 0,.row 1,.row 2,.var ti]
def cAs:ST:= .agg [.var ti,.row 0,.row 1]
def cAl:ST:= .agg [.row 0,.row 1,.row 2,.row 3,.var ti,.row 4,.row 5,.var ti,.row 6,.row 7,.row 8,.row 9,.var ti]
def cAb:ST:= .agg [.var ti,.var ti,.var ti,.var ti,.row 0,.row 1,.var ti,.var ti,.row 2]
def bVv:ST:= .agg [.row 0]
def cA1:ST:= .agg [.var ti,.var ti,.var ti,.row 0]
def cAr:ST:= .agg [.row 0,.row 1]
def bHk:ST:= .agg [.var ti,.var ti,.var ti,.var ti,.var ti,.var (.sl tPp),.var ti,.var ti,.var ti,.var ti,.var ti,.var (.sl tb)]
def bXn:ST:= .agg [.var ti,.var ti,.row 0]
def bYa:ST:= .agg [.var ti,.var ti,.var (.sl tb),.var ti,.var ti,.var ti,.var ti,.var ti,.var (.sl tPp),.var ti,.var ti,.var ti,.var ti,.var ti,.var (.sl tb)]
def bXm:ST:= .agg [.var ti,.var ti,.var ti,.var ti,.var ti,.row 0,.var ti,.var ti,.var ti,.var ti,.var ti,.row 1]
def cAw:ST:= .agg [.var ti,.var ti,.var ti,.row 3,.var ti,.var ti,.var ti,.var ti,.var ti,.row 4]
def cAv:ST:= .agg [.var (.sl tAS),.var (.sl tLk),.var (.sl tSg),.var (.sl tSg),.var ti,.var (.sl tRs),.var (.sl tUs),.var ti,.var (.sl ti),.row 1001109,.row 1001110,.row 1001111,.var ti]
def vr1:ST:= .one (.var ti)
def vr2:ST:= .one (.var .bool)
def vr3:ST:= .one (.ptr 1000000 0)
def vr4:ST:= .one (.row 0)
def vr5:ST:= .one (.var (.sl tb))
def vr6:ST:= .one (.row 300001)
def vr7:ST:= .one (.var (.sl ti))
def vr8:ST:= .one (.row 7)
def vr9:ST:= .one (.row 6)
def bYd:ST:= .one (.var (.sl tRs))
def aSk:ST:= .one (.row 10)
def cAp:ST:= .one (.row 1624)
def bFg:ST:= .one (.var (.sl tPt))
def bPe:ST:= .one (.var (.sl tRv))
def bAd:ST:= .one (.row 15)
def bFl:ST:= .one (.var (.sl cM))
def bEu:ST:= .one (.var (.sl tMs))
def cAy:ST:= .one (.row 5)
def cA3:ST:= .one (.ptr 7 0)
def cA7:ST:= .one (.ptr 11 0)
def cAj:ST:= .one (.ptr 13 0)
def bAi:ST:= .one (.var (.sl tSg))
def aY8:ST:= .one (.row 14)
def bWz:ST:= .one (.ptr 8 0)
def bDs:ST:= .one (.row 16)
def bWx:ST:= .one (.var (.sl tIb))
def bL6:ST:= .one (.row 127)
def bN5:ST:= .one (.ptr 6 0)
def e1:Nat×ST:=(1,vr1)
def e2:Nat×ST:=(0,vr2)
def e3:Nat×ST:=(0,vr1)
def e4:Nat×ST:=(2,vr1)
def e5:Nat×ST:=(0,ag1)
def e6:Nat×ST:=(3,vr1)
def e7:Nat×ST:=(5,vr1)
def e8:Nat×ST:=(0,vr3)
def e9:Nat×ST:=(0,vr4)
def e10:Nat×ST:=(4,vr2)
def e11:Nat×ST:=(4,vr1)
def e12:Nat×ST:=(0,vr5)
def e13:Nat×ST:=(6,vr1)
def e14:Nat×ST:=(2,vr2)
def e15:Nat×ST:=(0,ag3)
def e16:Nat×ST:=(0,ag2)
def e17:Nat×ST:=(0,ag6)
def e18:Nat×ST:=(9,vr1)
def e19:Nat×ST:=(3,vr6)
def e20:Nat×ST:=(0,ag5)
def e21:Nat×ST:=(7,vr1)
def e22:Nat×ST:=(3,vr9)
def e23:Nat×ST:=(0,ag9)
def e24:Nat×ST:=(8,vr1)
def e25:Nat×ST:=(0,ag4)
def e26:Nat×ST:=(5,vr8)
def e27:Nat×ST:=(1,ag3)
def e28:Nat×ST:=(0,bYd)
def e29:Nat×ST:=(1,ag2)
def e30:Nat×ST:=(1,vr2)
def e31:Nat×ST:=(0,bW5)
def e32:Nat×ST:=(10,vr1)
def e33:Nat×ST:=(0,ag7)
def e34:Nat×ST:=(1,ag4)
def e35:Nat×ST:=(0,ag8)
def e36:Nat×ST:=(9,cAp)
def e37:Nat×ST:=(0,vr7)
def e38:Nat×ST:=(0,bMe)
def e39:Nat×ST:=(0,cBa)
def e40:Nat×ST:=(12,vr2)
def e41:Nat×ST:=(0,cAs)
def e42:Nat×ST:=(0,cAl)
def e43:Nat×ST:=(0,cAb)
def e44:Nat×ST:=(0,cA1)
def e45:Nat×ST:=(0,bVv)
def e46:Nat×ST:=(6,vr2)
def e47:Nat×ST:=(13,vr1)
def e48:Nat×ST:=(7,aSk)
def e49:Nat×ST:=(12,vr1)
def e50:Nat×ST:=(34,vr2)
def e51:Nat×ST:=(1,vr7)
def e52:Nat×ST:=(0,bPe)
def e53:Nat×ST:=(3,ag2)
def e54:Nat×ST:=(5,vr6)
def e55:Nat×ST:=(5,vr7)
def e56:Nat×ST:=(0,bWr)
def e57:Nat×ST:=(0,bFg)
def e58:Nat×ST:=(0,cAr)
def e59:Nat×ST:=(1,bWr)
def e60:Nat×ST:=(0,bXg)
def e61:Nat×ST:=(1,bXg)
def e62:Nat×ST:=(31,vr2)
def e63:Nat×ST:=(3,cAy)
def e64:Nat×ST:=(7,cA3)
def e65:Nat×ST:=(7,bAd)
def e66:Nat×ST:=(15,vr1)
def e67:Nat×ST:=(11,cA7)
def e68:Nat×ST:=(13,cAj)
def e69:Nat×ST:=(7,.one (.row 18))
def e70:Nat×ST:=(7,.one (.row 9))
def e71:Nat×ST:=(7,.one (.row 29))
def o1:Nat×OT:=(1000000,ob1)
def o2:Nat×OT:=(1,ow1)
def o3:Nat×OT:=(0,ow2)
def o4:Nat×OT:=(2,ow3)
def o5:Nat×OT:=(1000000,ob2)
def o6:Nat×OT:=(0,ow4)
def o7:Nat×OT:=(300002,ow1)
def o8:Nat×OT:=(1,ow6)
def o9:Nat×OT:=(300001,ow2)
def o10:Nat×OT:=(300003,ow3)
def o11:Nat×OT:=(0,aEc)
def o12:Nat×OT:=(0,ow9)
def o13:Nat×OT:=(0,aLz)
def o14:Nat×OT:=(1,aHf)
def o15:Nat×OT:=(6,ow5)
def o16:Nat×OT:=(300001,ow4)
def o17:Nat×OT:=(300001,aLz)
def o18:Nat×OT:=(1624,ow7)
def o19:Nat×OT:=(1000000,ob3)
def o20:Nat×OT:=(0,ow5)
def o21:Nat×OT:=(1,ow7)
def o22:Nat×OT:=(3,ob4)
def o23:Nat×OT:=(0,aLy)
def o24:Nat×OT:=(1,aDr)
def o25:Nat×OT:=(2,ow8)
def o26:Nat×OT:=(3,ow8)
def o27:Nat×OT:=(4,ow9)
def o28:Nat×OT:=(5,aDr)
def o29:Nat×OT:=(7,aFn)
def o30:Nat×OT:=(9,aIr)
def o31:Nat×OT:=(2,aFp)
def o32:Nat×OT:=(300001,ow5)
def o33:Nat×OT:=(15,ow7)
def o34:Nat×OT:=(0,ow6)
def o35:Nat×OT:=(300003,aHf)
def o36:Nat×OT:=(300001,ow9)
def o37:Nat×OT:=(300001,aMn)
def o38:Nat×OT:=(3,ob5)
def o39:Nat×OT:=(300001,aLy)
def o40:Nat×OT:=(8,aLt)
def o41:Nat×OT:=(10,aMn)
def o42:Nat×OT:=(10,ow7)
def o43:Nat×OT:=(1001109,ow2)
def o44:Nat×OT:=(1001110,ow1)
def o45:Nat×OT:=(1001111,ow3)
def o46:Nat×OT:=(300001,ow8)
def o47:Nat×OT:=(300003,aLy)
def o48:Nat×OT:=(0,.row 144 3 tAS false)
def o49:Nat×OT:=(1,.row 146 5 tLk false)
def k0:Nat×ST:=(0,.keep)
def k1:Nat×ST:=(1,.keep)
def k2:Nat×ST:=(2,.keep)
def k3:Nat×ST:=(3,.keep)
def k4:Nat×ST:=(4,.keep)
def k5:Nat×ST:=(5,.keep)
def k6:Nat×ST:=(6,.keep)
def k7:Nat×ST:=(7,.keep)
def k8:Nat×ST:=(8,.keep)
def k9:Nat×ST:=(9,.keep)
def k10:Nat×ST:=(10,.keep)
def k11:Nat×ST:=(11,.keep)
def k12:Nat×ST:=(12,.keep)
def k13:Nat×ST:=(13,.keep)
def k14:Nat×ST:=(14,.keep)
def k15:Nat×ST:=(15,.keep)
def k16:Nat×ST:=(16,.keep)
def k17:Nat×ST:=(17,.keep)
def k18:Nat×ST:=(18,.keep)
def k19:Nat×ST:=(19,.keep)
def k20:Nat×ST:=(20,.keep)
def k21:Nat×ST:=(21,.keep)
def k22:Nat×ST:=(22,.keep)
def k23:Nat×ST:=(23,.keep)
def k30:Nat×ST:=(30,.keep)
def k31:Nat×ST:=(31,.keep)
def k32:Nat×ST:=(32,.keep)
def k33:Nat×ST:=(33,.keep)
def k35:Nat×ST:=(35,.keep)
def k36:Nat×ST:=(36,.keep)
def k37:Nat×ST:=(37,.keep)
def k38:Nat×ST:=(38,.keep)
def k39:Nat×ST:=(39,.keep)
def k49:Nat×ST:=(49,.keep)
def k50:Nat×ST:=(50,.keep)
def k51:Nat×ST:=(51,.keep)
def k52:Nat×ST:=(52,.keep)
def k53:Nat×ST:=(53,.keep)
def k56:Nat×ST:=(56,.keep)
def k57:Nat×ST:=(57,.keep)
def k58:Nat×ST:=(58,.keep)
def k64:Nat×ST:=(64,.keep)
def k65:Nat×ST:=(65,.keep)
def k66:Nat×ST:=(66,.keep)
def k67:Nat×ST:=(67,.keep)
def k87:Nat×ST:=(87,.keep)
def k88:Nat×ST:=(88,.keep)
def aZa:Nat×ST:=(101,.keep)
def aZh:Nat×ST:=(102,.keep)
def bD6:Nat×ST:=(103,.keep)
def bVk:Nat×ST:=(149,.keep)
def bWh:Nat×ST:=(150,.keep)
def cAm:Nat×ST:=(151,.keep)
def j0:Nat×OT:=(0,.keep)
def j1:Nat×OT:=(1,.keep)
def j2:Nat×OT:=(2,.keep)
def j3:Nat×OT:=(3,.keep)
def j4:Nat×OT:=(4,.keep)
def j5:Nat×OT:=(5,.keep)
def j6:Nat×OT:=(6,.keep)
def j7:Nat×OT:=(7,.keep)
def j8:Nat×OT:=(8,.keep)
def j9:Nat×OT:=(9,.keep)
def j10:Nat×OT:=(10,.keep)
def j11:Nat×OT:=(11,.keep)
def j12:Nat×OT:=(12,.keep)
def j13:Nat×OT:=(13,.keep)
def j14:Nat×OT:=(14,.keep)
def j15:Nat×OT:=(15,.keep)
def j16:Nat×OT:=(16,.keep)
def j19:Nat×OT:=(19,.keep)
def j26:Nat×OT:=(26,.keep)
def j29:Nat×OT:=(29,.keep)
def j30:Nat×OT:=(30,.keep)
def aW4:Nat×OT:=(1080,.keep)
def aWc:Nat×OT:=(1081,.keep)
def bZ1:Nat×OT:=(1082,.keep)
def aNu:Nat×OT:=(1112,.keep)
def aWp:Nat×OT:=(1113,.keep)
def aWe:Nat×OT:=(1114,.keep)
def bZe:Nat×OT:=(1115,.keep)
def bZg:Nat×OT:=(1116,.keep)
def bY9:Nat×OT:=(1117,.keep)
def bZ2:Nat×OT:=(1118,.keep)
def bZ5:Nat×OT:=(1119,.keep)
def bZr:Nat×OT:=(1120,.keep)
def bYr:Nat×OT:=(1121,.keep)
def aDk:Nat×OT:=(1128,.keep)
def aQp:Nat×OT:=(1129,.keep)
def aQk:Nat×OT:=(1130,.keep)
def aQm:Nat×OT:=(1131,.keep)
def aWb:Nat×OT:=(1132,.keep)
def aXi:Nat×OT:=(1133,.keep)
def aW5:Nat×OT:=(1134,.keep)
def aW6:Nat×OT:=(1135,.keep)
def bFb:Nat×OT:=(1136,.keep)
def aXa:Nat×OT:=(1137,.keep)
def bGf:Nat×OT:=(1144,.keep)
def bGp:Nat×OT:=(1145,.keep)
def bE3:Nat×OT:=(1146,.keep)
def aIf:Nat×OT:=(1160,.keep)
def bQn:Nat×OT:=(1161,.keep)
def aWo:Nat×OT:=(1176,.keep)
def aN7:Nat×OT:=(1177,.keep)
def bFc:Nat×OT:=(1178,.keep)
def aLi:Nat×OT:=(1192,.keep)
def bRl:Nat×OT:=(1193,.keep)
def xX:Nat×OT:=(1208,.keep)
def aCh:Nat×OT:=(1209,.keep)
def aWi:Nat×OT:=(1210,.keep)
def aXb:Nat×OT:=(1211,.keep)
def aXf:Nat×OT:=(1212,.keep)
def aWg:Nat×OT:=(1213,.keep)
def aW0:Nat×OT:=(1214,.keep)
def aWw:Nat×OT:=(1215,.keep)
def aWm:Nat×OT:=(1216,.keep)
def aW2:Nat×OT:=(1217,.keep)
def bY7:Nat×OT:=(1224,.keep)
def aDw:Nat×OT:=(1272,.keep)
def aEx:Nat×OT:=(1273,.keep)
def bD4:Nat×OT:=(1288,.keep)
def aNg:Nat×OT:=(1304,.keep)
def bYu:Nat×OT:=(1305,.keep)
def bY4:Nat×OT:=(1306,.keep)
def bZ3:Nat×OT:=(1307,.keep)
def bZ7:Nat×OT:=(1308,.keep)
def bZl:Nat×OT:=(1309,.keep)
def bZj:Nat×OT:=(1310,.keep)
def bZu:Nat×OT:=(1311,.keep)
def bZc:Nat×OT:=(1312,.keep)
def bZv:Nat×OT:=(1313,.keep)
def aHz:Nat×OT:=(1320,.keep)
def aIe:Nat×OT:=(1336,.keep)
def aH1:Nat×OT:=(1337,.keep)
def bZ0:Nat×OT:=(1368,.keep)
def aDs:Nat×OT:=(1400,.keep)
def bZq:Nat×OT:=(1401,.keep)
def bP9:Nat×OT:=(1416,.keep)
def bYw:Nat×OT:=(1528,.keep)
def bZs:Nat×OT:=(1529,.keep)
def bYv:Nat×OT:=(1530,.keep)
def bP4:Nat×OT:=(1560,.keep)
def bSa:Nat×OT:=(1561,.keep)
def bY3:Nat×OT:=(1592,.keep)
def bZh:Nat×OT:=(1593,.keep)
def bZt:Nat×OT:=(1608,.keep)
def bZ9:Nat×OT:=(1609,.keep)
def aWu:Nat×OT:=(1624,.keep)
def zL:Nat×OT:=(1672,.keep)
def aAb:Nat×OT:=(1720,.keep)
def bQw:Nat×OT:=(1736,.keep)
def bZf:Nat×OT:=(1755,.keep)
def bYo:Nat×OT:=(1756,.keep)
def bZi:Nat×OT:=(1787,.keep)
def bZ8:Nat×OT:=(1788,.keep)
def bZw:Nat×OT:=(1944,.keep)
def bQi:Nat×OT:=(2152,.keep)
def bRm:Nat×OT:=(2153,.keep)
def bFj:Nat×OT:=(2312,.keep)
def bF1:Nat×OT:=(2313,.keep)
def bGh:Nat×OT:=(2314,.keep)
def bFa:Nat×OT:=(2315,.keep)
def bEm:Nat×OT:=(2316,.keep)
def bEr:Nat×OT:=(2317,.keep)
def bG4:Nat×OT:=(2318,.keep)
def bFi:Nat×OT:=(2319,.keep)
def bRy:Nat×OT:=(2320,.keep)
def bD3:Nat×OT:=(2321,.keep)
def dF:Nat×OT:=(300001,.keep)
def yB:Nat×OT:=(300002,.keep)
def qG:Nat×OT:=(300003,.keep)
def aGj:Nat×OT:=(300004,.keep)
def bUi:Nat×OT:=(300005,.keep)
def aSg:Nat×OT:=(300006,.keep)
def aS3:Nat×OT:=(300007,.keep)
def aSs:Nat×OT:=(300008,.keep)
def aSw:Nat×OT:=(300009,.keep)
def aT0:Nat×OT:=(300010,.keep)
def aT6:Nat×OT:=(300011,.keep)
def aTz:Nat×OT:=(300012,.keep)
def aUb:Nat×OT:=(300013,.keep)
def aT4:Nat×OT:=(300014,.keep)
def aUg:Nat×OT:=(300015,.keep)
def bB:Nat×OT:=(1000000,.keep)
def aCs:Nat×OT:=(1001109,.keep)
def aCw:Nat×OT:=(1001110,.keep)
def aCv:Nat×OT:=(1001111,.keep)
def sh1:Sh:=⟨[e2],[]⟩
def sh2:Sh:=⟨[e3],[]⟩
def sh3:Sh:=⟨[],[]⟩
def sh4:Sh:=⟨[e10],[]⟩
def sh5:Sh:=⟨[e3,e1],[]⟩
def sh6:Sh:=⟨[e12],[]⟩
def sh7:Sh:=⟨[e15],[]⟩
def sh8:Sh:=⟨[e14],[]⟩
def sh9:Sh:=⟨[e16],[]⟩
def aCp:Sh:=⟨[],[o3,o2,o4,o5]⟩
def aDq:Sh:=⟨[e8],[o1]⟩
def aEr:Sh:=⟨[k1],[j1]⟩
def aFu:Sh:=⟨[k0,k1,e7],[]⟩
def aHh:Sh:=⟨[e17],[]⟩
def aHc:Sh:=⟨[k2,k3,e7],[j2,j3]⟩
def aIp:Sh:=⟨[e9],[o20]⟩
def aI1:Sh:=⟨[e20],[]⟩
def aIv:Sh:=⟨[e23],[o6,o8]⟩
def aJ9:Sh:=⟨[k1,e6],[j1]⟩
def aL1:Sh:=⟨[e46],[]⟩
def aO5:Sh:=⟨[e5,e1,e4],[]⟩
def aPv:Sh:=⟨[e25],[]⟩
def aP3:Sh:=⟨[e37],[]⟩
def aO4:Sh:=⟨[e43],[o11,o21,o31]⟩
def aPw:Sh:=⟨[e45],[o6]⟩
def aP4:Sh:=⟨[e35,e1],[]⟩
def aSo:Sh:=⟨[e8,e1],[o1]⟩
def aT7:Sh:=⟨[e41],[o12,o24]⟩
def aTu:Sh:=⟨[e42],[o13,o14,o25,o26,o27,o28,o15,o29,o40,o30]⟩
def aSm:Sh:=⟨[e9],[(0,ow7)]⟩
def aTq:Sh:=⟨[e23,e30],[o6,o8]⟩
def aSu:Sh:=⟨[e8,e1,e4,e53],[o5,o3,o2,o4]⟩
def aSh:Sh:=⟨[e38,e29],[]⟩
def aSp:Sh:=⟨[e39],[o3,o2,o4]⟩
def aTb:Sh:=⟨[k0,k1,e40],[]⟩
def aY2:Sh:=⟨[e3],[o1]⟩
def bAh:Sh:=⟨[e33],[]⟩
def aYv:Sh:=⟨[e5,e34],[]⟩
def aZx:Sh:=⟨[e57],[]⟩
def aZi:Sh:=⟨[e44],[o11]⟩
def aZ5:Sh:=⟨[e5,e27],[]⟩
def aX8:Sh:=⟨[e12,e1],[]⟩
def bAw:Sh:=⟨[e9],[o34]⟩
def aY5:Sh:=⟨[e2],[o3,o2,o4,o5]⟩
def aYm:Sh:=⟨[e6],[]⟩
def bGm:Sh:=⟨[e5,e1],[]⟩
def bFm:Sh:=⟨[e9],[(0,ow8)]⟩
def bGz:Sh:=⟨[e25,e34],[]⟩
def bF6:Sh:=⟨[e5],[]⟩
def bGy:Sh:=⟨[e35],[]⟩
def bFy:Sh:=⟨[e44],[o23]⟩
def bGa:Sh:=⟨[e60],[]⟩
def bF5:Sh:=⟨[e38],[]⟩
def bHj:Sh:=⟨[e9],[o12]⟩
def bEl:Sh:=⟨[e31,e1],[]⟩
def bE4:Sh:=⟨[e8,e1,(2,ag2)],[o5,o3,o2,o4]⟩
def bF3:Sh:=⟨[e31,e1,e4,e6],[]⟩
def bHh:Sh:=⟨[e28,e1,e4,e6,e11],[]⟩
def bGg:Sh:=⟨[e8],[o5,o3,o2,o4]⟩
def bGt:Sh:=⟨[e8,e1],[o5,o3,o2,o4]⟩
def bGw:Sh:=⟨[e17,e1],[]⟩
def bF8:Sh:=⟨[k2,k3],[j2,o22,o16]⟩
def bEe:Sh:=⟨[k0],[o9,o7,o10,o19]⟩
def bDz:Sh:=⟨[k4,k5],[j4,(5,ob3),o9,o7,o10]⟩
def bNk:Sh:=⟨[e3,e1,e4],[]⟩
def bOb:Sh:=⟨[e33,e1,e4],[]⟩
def bMf:Sh:=⟨[e37,e1],[]⟩
def bO2:Sh:=⟨[e25,e1],[]⟩
def bMr:Sh:=⟨[e3,e51],[]⟩
def bOt:Sh:=⟨[e3,e1,e4,(3,ag7)],[]⟩
def bNo:Sh:=⟨[(0,bXn)],[o23]⟩
def bOx:Sh:=⟨[e5,(1,ag8)],[]⟩
def bNi:Sh:=⟨[e9],[(0,aMn)]⟩
def bOu:Sh:=⟨[e15,e27],[]⟩
def bOv:Sh:=⟨[e9],[(0,aFp)]⟩
def bNm:Sh:=⟨[e17,(1,ag5)],[]⟩
def bPv:Sh:=⟨[e12,(1,vr5)],[]⟩
def bNh:Sh:=⟨[e16,e1],[]⟩
def bOz:Sh:=⟨[e5,e1,e4,e6,e11,(5,ag2)],[]⟩
def bOw:Sh:=⟨[e31,e1,e4,e6,e11],[]⟩
def bN2:Sh:=⟨[(0,bFl)],[]⟩
def bOy:Sh:=⟨[(8,vr2)],[]⟩
def bOa:Sh:=⟨[k0,k1,k5,(25,vr2)],[]⟩
def bPt:Sh:=⟨[k1,k2,k3,e11],[j1,j2,o22,o16]⟩
def bOh:Sh:=⟨[k2,k3],[j2,j3]⟩
def bX8:Sh:=⟨[e58],[o13,o14,o1]⟩
def bWm:Sh:=⟨[e5,e1,e4,(3,ag7)],[]⟩
def bWs:Sh:=⟨[(0,bFl),(1,bFl)],[]⟩
def bV7:Sh:=⟨[e58],[(0,ow8),(1,ow8)]⟩
def bX0:Sh:=⟨[e5,e59,e4,e6],[]⟩
def bXt:Sh:=⟨[(0,bWx),e1,e4],[]⟩
def bU9:Sh:=⟨[e35,(1,ag8)],[]⟩
def bXo:Sh:=⟨[e28,e1,e4,e6],[]⟩
def bV1:Sh:=⟨[e3,e27,e4,e6,(4,vr5)],[]⟩
def bW9:Sh:=⟨[e43,(1,cAw),e14],[o11,o21,o31,(3,ow4),(4,ow6)]⟩
def bWv:Sh:=⟨[(0,bXm)],[o6,o8]⟩
def bWq:Sh:=⟨[e5,e1,(2,ag2)],[]⟩
def bVs:Sh:=⟨[e16,e1,e4,(3,vr5)],[]⟩
def bYk:Sh:=⟨[e9,e1,e14],[o20]⟩
def bQe:Sh:=⟨[e41,e30],[o12,o24]⟩
def bQm:Sh:=⟨[e5,e1,e4,e6,(4,ag2)],[]⟩
def bP1:Sh:=⟨[(0,bHk)],[o3,o2,o4,o5]⟩
def bQx:Sh:=⟨[e8,(1,bYa)],[o5,o3,o2,o4]⟩
def bRx:Sh:=⟨[e8,(1,cAv)],[o1,o43,o44,o45]⟩
def bSf:Sh:=⟨[e39],[o3,o2,o4,o1]⟩
def bQ1:Sh:=⟨[e41],[o12,o24,o1]⟩
def bP3:Sh:=⟨[e39,e1],[o3,o2,o4]⟩
def bSk:Sh:=⟨[e20,(1,bMe)],[]⟩
def bRq:Sh:=⟨[(0,bEu),(1,bEu)],[]⟩
def bQ2:Sh:=⟨[e5,e1,(2,vr7),e53],[]⟩
def bRg:Sh:=⟨[e5,e1,(2,vr7),(3,ag3)],[]⟩
def bSi:Sh:=⟨[k1,k2,e54,k6],[j2,o32]⟩
def bP5:Sh:=⟨[k2,k3,(37,vr2)],[j2,j3]⟩
def bRi:Sh:=⟨[k0,k2,k3,k4,k8],[j2,o38,o17,o35,o1]⟩
def bRd:Sh:=⟨[k1,k2,k3,e21],[j3]⟩
def bQg:Sh:=⟨[k9,(30,vr2)],[j9]⟩
def bQo:Sh:=⟨[k1,e63,e11],[j1,(5,ow5)]⟩
def bQs:Sh:=⟨[k2,k3,(22,vr2)],[j2,j3]⟩
def bP7:Sh:=⟨[k2,k3,e55,e13],[j2,j3]⟩
def bSe:Sh:=⟨[k2,k3,k5,k6],[j2,j3]⟩
def bR1:Sh:=⟨[k2],[(2,.box [.row 3,.row 7]),(3,aLz),(7,aHf)]⟩
def bP6:Sh:=⟨[k0,k1,k2,e21],[]⟩
def bSg:Sh:=⟨[k1,k2,k3,e65],[j3,o33]⟩
def bPy:Sh:=⟨[k2,k3,e62],[j2,j3]⟩
def bR2:Sh:=⟨[e22,k4,k5],[o15,aDk]⟩
def bRe:Sh:=⟨[k0,k3,k4,e7],[dF]⟩
def bSd:Sh:=⟨[k1,k2,(21,vr2)],[j1,j2]⟩
def bQ9:Sh:=⟨[k2,k3,e10],[(2,bXc),(3,cA5),bGf,bGp,bE3,aLi,bRl]⟩
def bRk:Sh:=⟨[k4,k5],[j4,(5,cAk),(1112,aEc)]⟩
def bSb:Sh:=⟨[k3,k4,(16,vr2)],[j3,j4]⟩
def bQr:Sh:=⟨[k4,k5],[j4,(5,cAf),aNu,aWp,aWe]⟩
def bQj:Sh:=⟨[k2,k4,(21,vr2)],[j2,aIf]⟩
def bQ7:Sh:=⟨[k3,k6,k7,k8,(24,vr2)],[j3,j6,j7,j8,aWo,aN7,bFc]⟩
def bQp:Sh:=⟨[k3,k6,k7,k8,(42,vr2)],[j3,j6,j7,j8,aWo,aN7,bFc]⟩
def bRj:Sh:=⟨[k0,k1,k5,k6,e64],[j0,j1,j2,j5,(7,cBb),(1544,aEc),bB]⟩
def bQ4:Sh:=⟨[k0,k1,k5,e32],[j0,o2,j2,j5,bB]⟩
def bPz:Sh:=⟨[k0,k1,k5,k10],[j0,o2,j2,j5,bB]⟩
def bR8:Sh:=⟨[k0,k1,k5,k10,e67],[j0,j1,j2,j5,(11,cA9),(2312,aEc),(2313,ow7),(2314,aFp),bB]⟩
def bQ8:Sh:=⟨[e1,(5,vr9)],[(6,ow6)]⟩
def bQ3:Sh:=⟨[k0,k1,k7,(8,bWz)],[j0,j1,j2,j7,(8,bU6),(1560,ow4),(1561,ow6),bB]⟩
def bRh:Sh:=⟨[k0,k8,k9,k10,e67,e40],[j0,j1,j2,j8,(11,cAe),bP4,bSa,(2152,ow9),(2153,aDr),bB]⟩
def bSh:Sh:=⟨[k0,k8,k9,k10,k11,(83,vr2)],[j0,j1,j2,j8,j11,bP4,bSa,bQi,bRm,bB]⟩
def bSm:Sh:=⟨[],[o3,j1,j2,bQi,bRm,(1000000,cAu)]⟩
def bQl:Sh:=⟨[k0,k1,k7,e68],[j0,j1,j2,j7,(13,cAg),(2904,ow4),(2905,ow6),bB]⟩
def bP2:Sh:=⟨[],[o9,o7,o10,o19]⟩
def bPx:Sh:=⟨[k4,k5],[j1,j2,j4,j5,(14,ow2),(1000000,cAi)]⟩
def bRw:Sh:=⟨[],[o3,j1,j2,o5]⟩
def bR0:Sh:=⟨[k2,e6],[(2,cAn),aQp,aQk,aQm]⟩
def bQ0:Sh:=⟨[k1,(54,vr2)],[j1]⟩
def bQv:Sh:=⟨[k0,k1,e11],[o9,o7,o10,o19]⟩
def bRa:Sh:=⟨[k1,k4,k5,e13],[j4,(5,ob3),o9,o7,o10]⟩
def bRu:Sh:=⟨[e1,(5,.one (.row 1112))],[(1112,ow6)]⟩
def bQz:Sh:=⟨[k0,k1,k7,(8,bWz),e18],[j0,j1,j2,j7,(8,bXp),bB]⟩
def bP0:Sh:=⟨[k0,k1,k7,k8,k9,(54,vr2)],[j0,j1,j2,j7,j8,bB]⟩
def bQu:Sh:=⟨[k0,k1,e67,e40],[j0,j1,j2,(11,cAq),(2584,ow4),(2585,ow6),bB]⟩
def bR3:Sh:=⟨[k0,k1,k7,k9,(116,vr2)],[j0,j1,j2,j7,bB]⟩
def bRc:Sh:=⟨[k0,k1,k7,e68],[j0,j1,j2,j7,(13,cAx),(3176,ow4),(3177,ow6),bB]⟩
def bRn:Sh:=⟨[k1,k4,k5,(13,vr2)],[j4,j5,aNu,aWp,aWe,bZe,bZg,bY9,bZ2,bZ5,bZr,bYr]⟩
def bQa:Sh:=⟨[k2,k3,e13],[j2,j3]⟩
def aH5.con:Con:=⟨6,sh6,sh1,false,fun x=>aH5 x⟩
def vL.con:Con:=⟨54,sh6,⟨[(0,.one (.ptr 0 0))],[(0,ob1)]⟩,false,fun x=>vL x⟩
def qH.con:Con:=⟨169,aDq,aY2,false,fun (x0,x1,x2)=>qH (x0,x1,x2)⟩
def aB.con:Con:=⟨86,aSo,aY2,false,fun (x0,x1,x2,x3)=>aB (x1,x2,x3) x0⟩
def wA.con:Con:=⟨406,⟨[e9,e1],[(0,.row 3 1 ti false)]⟩,aIp,false,fun (x0,x1)=>wA x1 x0⟩
def iL.con:Con:=⟨320,bGm,aIp,false,fun (x0,x1,x2)=>iL (x0,x1) x2⟩
def vK.con:Con:=⟨221,⟨[e8,e1,e4,e6],[(1000000,.box [.row 0,.row 1]),o48,o49]⟩,⟨[],[o48,o49,(1000000,.box [.row 0,.row 1])]⟩,false,fun (x0,x1,x2,x3,x4)=>vK (x3,x4) x0 x1 x2⟩
def dL.con:Con:=⟨56,aSo,⟨[e2],[o1]⟩,false,fun (x0,x1,x2,x3)=>dL (x1,x2,x3) x0⟩
def aJ.con:Con:=⟨92,bNk,sh1,false,fun (x0,x1,x2)=>aJ x0 x1 x2⟩
def dD.con:Con:=⟨78,bGm,sh1,false,fun (x0,x1,x2)=>dD (x0,x1) x2⟩
def rB.con:Con:=⟨177,⟨[e5,(1,ag7)],[]⟩,sh1,false,fun (x0,x1,x2,x3,x4,x5,x6)=>rB (x0,x1) (x2,x3,x4,x5,x6)⟩
def tC.con:Con:=⟨132,aDq,bX8,false,fun (x0,x1,x2)=>tC (x0,x1,x2)⟩
def vC.con:Con:=⟨178,bOb,sh1,false,fun (x0,x1,x2,x3,x4,x5,x6)=>vC (x0,x1,x2,x3,x4) x5 x6⟩
def lW.con:Con:=⟨329,aO5,sh2,false,fun (x0,x1,x2,x3)=>lW (x0,x1) x2 x3⟩
def eK.con:Con:=⟨325,aO5,sh2,false,fun (x0,x1,x2,x3)=>eK (x0,x1) x2 x3⟩
def iX.con:Con:=⟨229,aO5,aIp,false,fun (x0,x1,x2,x3)=>iX (x0,x1) x2 x3⟩
def eN.con:Con:=⟨230,aO5,sh5,false,fun (x0,x1,x2,x3)=>eN (x0,x1) x2 x3⟩
def dJ.con:Con:=⟨232,aPv,aIp,false,fun (x0,x1,x2)=>dJ (x0,x1,x2)⟩
def fZ.con:Con:=⟨231,bMf,sh1,false,fun (x0,x1)=>fZ x0 x1⟩
def wN.con:Con:=⟨328,bO2,aIp,false,fun (x0,x1,x2,x3)=>wN (x0,x1,x2) x3⟩
def mO.con:Con:=⟨218,sh2,sh1,false,fun x=>mO x⟩
def sZ.con:Con:=⟨410,sh5,sh2,false,fun (x0,x1)=>sZ x0 x1⟩
def wU.con:Con:=⟨327,bMr,sh2,false,fun (x0,x1)=>wU x0 x1⟩
def iK.con:Con:=⟨228,bO2,sh2,false,fun (x0,x1,x2,x3)=>iK (x0,x1,x2) x3⟩
def aH9.con:Con:=⟨448,sh5,sh2,false,fun (x0,x1)=>aH9 x0 x1⟩
def xC.con:Con:=⟨420,aP3,sh2,false,fun x=>xC x⟩
def vA.con:Con:=⟨409,bMr,sh2,false,fun (x0,x1)=>vA x0 x1⟩
def xO.con:Con:=⟨326,bOt,sh2,false,fun (x0,x1,x2,x3,x4,x5,x6,x7)=>xO x0 x1 x2 (x3,x4,x5,x6,x7)⟩
def fP.con:Con:=⟨227,bOt,bAh,false,fun (x0,x1,x2,x3,x4,x5,x6,x7)=>fP x0 x1 x2 (x3,x4,x5,x6,x7)⟩
def kI.con:Con:=⟨139,⟨[e8,(1,ag1),e4],[o1]⟩,⟨[(0,bXn)],[o23,o1]⟩,false,fun (x0,x1,x2,x3,x4,x5)=>kI (x3,x4,x5) (x0,x1) x2⟩
def gQ.con:Con:=⟨179,aPv,bNo,false,fun (x0,x1,x2)=>gQ (x0,x1,x2)⟩
def wS.con:Con:=⟨138,aYv,bNo,false,fun (x0,x1,x2,x3,x4)=>wS (x0,x1) (x2,x3,x4)⟩
def fU.con:Con:=⟨94,⟨[(0,bAi)],[]⟩,bFm,false,fun x=>fU x⟩
def kO.con:Con:=⟨404,bAh,sh1,false,fun (x0,x1,x2,x3,x4)=>kO (x0,x1,x2,x3,x4)⟩
def jQ.con:Con:=⟨322,aYv,sh1,false,fun (x0,x1,x2,x3,x4)=>jQ (x0,x1) (x2,x3,x4)⟩
def gR.con:Con:=⟨407,bWm,sh1,false,fun (x0,x1,x2,x3,x4,x5,x6,x7,x8)=>gR (x0,x1) x2 x3 (x4,x5,x6,x7,x8)⟩
def hU.con:Con:=⟨323,aYv,sh2,false,fun (x0,x1,x2,x3,x4)=>hU (x0,x1) (x2,x3,x4)⟩
def cR.con:Con:=⟨263,aPv,sh2,false,fun (x0,x1,x2)=>cR (x0,x1,x2)⟩
def iC.con:Con:=⟨226,aYv,sh2,false,fun (x0,x1,x2,x3,x4)=>iC (x0,x1) (x2,x3,x4)⟩
def mL.con:Con:=⟨223,aYv,sh1,false,fun (x0,x1,x2,x3,x4)=>mL (x0,x1) (x2,x3,x4)⟩
def mF.con:Con:=⟨224,aPv,sh1,false,fun (x0,x1,x2)=>mF (x0,x1,x2)⟩
def jR.con:Con:=⟨405,bWs,sh1,false,fun (x0,x1)=>jR x0 x1⟩
def kN.con:Con:=⟨408,bGz,sh1,false,fun (x0,x1,x2,x3,x4,x5)=>kN (x0,x1,x2) (x3,x4,x5)⟩
def uZ.con:Con:=⟨324,⟨[(0,bAi),e34],[]⟩,sh1,false,fun (x0,x1,x2,x3)=>uZ x0 (x1,x2,x3)⟩
def pG.con:Con:=⟨225,⟨[e56,e34],[]⟩,sh1,false,fun (x0,x1,x2,x3,x4)=>pG (x0,x1) (x2,x3,x4)⟩
def pH.con:Con:=⟨137,⟨[e5,e59,(2,ag4)],[]⟩,bV7,false,fun (x0,x1,x2,x3,x4,x5,x6)=>pH (x0,x1) (x2,x3) (x4,x5,x6)⟩
def wV.con:Con:=⟨176,sh2,sh1,false,fun x=>wV x⟩
def iQ.con:Con:=⟨91,bF6,sh1,false,fun (x0,x1)=>iQ (x0,x1)⟩
def sH.con:Con:=⟨93,bF6,⟨[e58],[o13,o14]⟩,false,fun (x0,x1)=>sH (x0,x1)⟩
def fV.con:Con:=⟨95,sh2,aT7,false,fun x=>fV x⟩
def sD.con:Con:=⟨16,bX0,aTu,false,fun (x0,x1,x2,x3,x4,x5)=>sD (x0,x1) (x2,x3) x4 x5⟩
def eW.con:Con:=⟨143,aPv,sh2,false,fun (x0,x1,x2)=>eW (x0,x1,x2)⟩
def yR.con:Con:=⟨66,⟨[e8,e59],[o1]⟩,⟨[e3,e1],[o1]⟩,false,fun (x0,x1,x2,x3,x4)=>yR (x2,x3,x4) (x0,x1)⟩
def dO.con:Con:=⟨58,⟨[e8,e51],[o1]⟩,aY2,false,fun (x0,x1,x2,x3)=>dO (x1,x2,x3) x0⟩
def tY.con:Con:=⟨67,bNk,aO4,false,fun (x0,x1,x2)=>tY x0 x1 x2⟩
def eF.con:Con:=⟨140,aSo,⟨[e9],[o34,o1]⟩,false,fun (x0,x1,x2,x3)=>eF (x1,x2,x3) x0⟩
def qM.con:Con:=⟨235,⟨[(0,bEu)],[]⟩,⟨[e9],[o11]⟩,false,fun x=>qM x⟩
def pW.con:Con:=⟨345,bGy,bFy,false,fun (x0,x1,x2,x3)=>pW (x0,x1,x2,x3)⟩
def iZ.con:Con:=⟨257,sh7,aPw,false,fun x=>iZ x⟩
def yU.con:Con:=⟨236,aZx,aSm,false,fun x=>yU x⟩
def fA.con:Con:=⟨144,aI1,aO4,false,fun (x0,x1,x2,x3,x4,x5,x6,x7,x8)=>fA (x0,x1,x2,x3,x4,x5,x6,x7,x8)⟩
def aAy.con:Con:=⟨120,sh5,sh2,false,fun (x0,x1)=>aAy x0 x1⟩
def bY.con:Con:=⟨161,bGa,sh1,false,fun (x0,x1,x2)=>bY (x0,x1,x2)⟩
def jX.con:Con:=⟨77,aI1,sh1,false,fun (x0,x1,x2,x3,x4,x5,x6,x7,x8)=>jX (x0,x1,x2,x3,x4,x5,x6,x7,x8)⟩
def sL.con:Con:=⟨68,⟨[e20,(1,vr5)],[]⟩,⟨[e43,e30],[o11,o21,o31]⟩,false,fun (x0,x1,x2,x3,x4,x5,x6,x7,x8,x9)=>sL (x0,x1,x2,x3,x4,x5,x6,x7,x8) x9⟩
def jH.con:Con:=⟨157,⟨[e31],[]⟩,aT7,false,fun (x0,x1,x2)=>jH (x0,x1,x2)⟩
def eY.con:Con:=⟨210,sh9,aIv,false,fun (x0,x1,x2,x3,x4,x5,x6,x7,x8,x9)=>eY (x0,x1,x2,x3,x4,x5,x6,x7,x8,x9)⟩
def vB.con:Con:=⟨158,⟨[(0,.one (.var (.sl tFy)))],[]⟩,⟨[e9],[(0,aFn)]⟩,false,fun x=>vB x⟩
def oS.con:Con:=⟨159,⟨[(0,.one (.var (.sl tFl)))],[]⟩,⟨[e9],[(0,aLt)]⟩,false,fun x=>oS x⟩
def uH.con:Con:=⟨255,bF5,aZi,false,fun (x0,x1,x2,x3)=>uH (x0,x1,x2,x3)⟩
def oT.con:Con:=⟨160,⟨[(0,bWx)],[]⟩,⟨[e9],[(0,aIr)]⟩,false,fun x=>oT x⟩
def jF.con:Con:=⟨76,aHh,aTu,false,fun (x0,x1,x2,x3,x4,x5,x6,x7,x8,x9,x10,x11,x12)=>jF ((x0,x1),(x2,x3),(x4,x5,x6),x7,x8,x9,x10,x11,x12)⟩
def jW.con:Con:=⟨79,bXt,sh2,false,fun (x0,x1,x2)=>jW x0 x1 x2⟩
def eA.con:Con:=⟨260,⟨[e56,e1],[]⟩,bFm,false,fun (x0,x1,x2)=>eA (x0,x1) x2⟩
def pD.con:Con:=⟨349,bO2,sh2,false,fun (x0,x1,x2,x3)=>pD (x0,x1,x2) x3⟩
def dX.con:Con:=⟨402,sh2,sh1,false,fun x=>dX x⟩
def bW.con:Con:=⟨314,⟨[e25,e1,e4],[]⟩,bFy,false,fun (x0,x1,x2,x3,x4)=>bW (x0,x1,x2) x3 x4⟩
def oV.con:Con:=⟨350,⟨[e56,e1,e4],[]⟩,bFm,false,fun (x0,x1,x2,x3)=>oV (x0,x1) x2 x3⟩
def nO.con:Con:=⟨351,⟨[e25,e34,e14,(3,ag4)],[]⟩,aPw,false,fun (x0,x1,x2,x3,x4,x5,x6,x7,x8,x9)=>nO (x0,x1,x2) (x3,x4,x5) x6 (x7,x8,x9)⟩
def jL.con:Con:=⟨262,⟨[e56,e34,e4,e6,(4,ag4)],[]⟩,aSm,false,fun (x0,x1,x2,x3,x4,x5,x6,x7,x8,x9)=>jL (x0,x1) (x2,x3,x4) x5 x6 (x7,x8,x9)⟩
def xA.con:Con:=⟨259,⟨[e56,e1,e4],[]⟩,aSm,false,fun (x0,x1,x2,x3)=>xA (x0,x1) x2 x3⟩
def jZ.con:Con:=⟨313,bGz,aPw,false,fun (x0,x1,x2,x3,x4,x5)=>jZ (x0,x1,x2) (x3,x4,x5)⟩
def jO.con:Con:=⟨261,bGz,aPw,false,fun (x0,x1,x2,x3,x4,x5)=>jO (x0,x1,x2) (x3,x4,x5)⟩
def oK.con:Con:=⟨164,bX0,aSm,false,fun (x0,x1,x2,x3,x4,x5)=>oK (x0,x1) (x2,x3) x4 x5⟩
def tZ.con:Con:=⟨449,bGy,aIp,false,fun (x0,x1,x2,x3)=>tZ (x0,x1,x2,x3)⟩
def dY.con:Con:=⟨391,aP4,sh2,false,fun (x0,x1,x2,x3,x4)=>dY (x0,x1,x2,x3) x4⟩
def fH.con:Con:=⟨387,aP4,sh2,false,fun (x0,x1,x2,x3,x4)=>fH (x0,x1,x2,x3) x4⟩
def uG.con:Con:=⟨421,bOx,sh1,false,fun (x0,x1,x2,x3,x4,x5)=>uG (x0,x1) (x2,x3,x4,x5)⟩
def wE.con:Con:=⟨422,sh2,sh2,false,fun x=>wE x⟩
def lE.con:Con:=⟨352,aZ5,sh1,false,fun (x0,x1,x2)=>lE (x0,x1) x2⟩
def fC.con:Con:=⟨310,sh7,bNi,false,fun x=>fC x⟩
def gN.con:Con:=⟨353,sh7,aIp,false,fun x=>gN x⟩
def nF.con:Con:=⟨264,aZ5,sh1,false,fun (x0,x1,x2)=>nF (x0,x1) x2⟩
def xN.con:Con:=⟨434,sh5,sh2,false,fun (x0,x1)=>xN x0 x1⟩
def iO.con:Con:=⟨381,aP4,sh2,false,fun (x0,x1,x2,x3,x4)=>iO (x0,x1,x2,x3) x4⟩
def yQ.con:Con:=⟨423,aP4,sh2,false,fun (x0,x1,x2,x3,x4)=>yQ (x0,x1,x2,x3) x4⟩
def pI.con:Con:=⟨354,bOx,sh1,false,fun (x0,x1,x2,x3,x4,x5)=>pI (x0,x1) (x2,x3,x4,x5)⟩
def rU.con:Con:=⟨265,aZ5,sh1,false,fun (x0,x1,x2)=>rU (x0,x1) x2⟩
def nH.con:Con:=⟨266,⟨[e33,e1],[]⟩,sh1,false,fun (x0,x1,x2,x3,x4,x5)=>nH (x0,x1,x2,x3,x4) x5⟩
def rV.con:Con:=⟨165,⟨[e5,e27,e4],[]⟩,sh1,false,fun (x0,x1,x2,x3)=>rV (x0,x1) x2 x3⟩
def lJ.con:Con:=⟨318,bU9,sh1,false,fun (x0,x1,x2,x3,x4,x5,x6,x7)=>lJ (x0,x1,x2,x3) (x4,x5,x6,x7)⟩
def jP.con:Con:=⟨219,bOu,sh1,false,fun (x0,x1)=>jP x0 x1⟩
def yL.con:Con:=⟨166,⟨[e57,e27],[]⟩,sh1,false,fun (x0,x1)=>yL x0 x1⟩
def lY.con:Con:=⟨81,⟨[e5,e59,e4,e6,e11],[]⟩,aZx,false,fun (x0,x1,x2,x3,x4,x5,x6)=>lY (x0,x1) (x2,x3) x4 x5 x6⟩
def nJ.con:Con:=⟨346,sh7,sh2,false,fun x=>nJ x⟩
def lB.con:Con:=⟨347,sh7,sh2,false,fun x=>lB x⟩
def oP.con:Con:=⟨348,sh7,sh2,false,fun x=>oP x⟩
def sC.con:Con:=⟨258,bOu,sh1,false,fun (x0,x1)=>sC x0 x1⟩
def uD.con:Con:=⟨163,aZx,aZx,false,fun x=>uD x⟩
def gZ.con:Con:=⟨343,⟨[e52,e1],[]⟩,bOv,false,fun (x0,x1)=>gZ x0 x1⟩
def rI.con:Con:=⟨344,⟨[e15,e61],[]⟩,sh1,false,fun (x0,x1,x2,x3)=>rI x0 (x1,x2,x3)⟩
def vT.con:Con:=⟨256,⟨[e52,e27,e4],[]⟩,sh1,false,fun (x0,x1,x2)=>vT x0 x1 x2⟩
def kD.con:Con:=⟨162,⟨[e52,(1,bFg),e4],[]⟩,aSm,false,fun (x0,x1,x2)=>kD x0 x1 x2⟩
def aAv.con:Con:=⟨141,sh5,sh2,false,fun (x0,x1)=>aAv x0 x1⟩
def qU.con:Con:=⟨80,⟨[e20,(1,bFg),e4],[]⟩,⟨[(0,.agg [.var ti,.var ti,.var ti,.var ti,.row 0,.var (.sl tPt),.var ti,.var ti,.row 1])],[o11,(1,aFp)]⟩,false,fun (x0,x1,x2,x3,x4,x5,x6,x7,x8,x9,x10)=>qU (x0,x1,x2,x3,x4,x5,x6,x7,x8) x9 x10⟩
def tT.con:Con:=⟨82,sh5,aZi,false,fun (x0,x1)=>tT x0 x1⟩
def yY.con:Con:=⟨11,bNm,⟨[e42,e30],[o13,o14,o25,o26,o27,o28,o15,o29,(8,ow1),o30]⟩,false,fun (x0,x1,x2,x3,x4,x5,x6,x7,x8,x9,x10,x11,x12,x13,x14,x15,x16,x17,x18,x19,x20,x21)=>yY ((x0,x1),(x2,x3),(x4,x5,x6),x7,x8,x9,x10,x11,x12) (x13,x14,x15,x16,x17,x18,x19,x20,x21)⟩
def pT.con:Con:=⟨233,sh7,bNi,false,fun x=>pT x⟩
def nS.con:Con:=⟨275,⟨[e28,(1,ag7)],[]⟩,bHj,false,fun (x0,x1,x2,x3,x4,x5)=>nS x0 (x1,x2,x3,x4,x5)⟩
def fE.con:Con:=⟨274,bAh,sh1,false,fun (x0,x1,x2,x3,x4)=>fE (x0,x1,x2,x3,x4)⟩
def aAd.con:Con:=⟨277,⟨[e33,e1,e4,e6],[]⟩,sh1,false,fun (x0,x1,x2,x3,x4,x5,x6,x7)=>aAd (x0,x1,x2,x3,x4) x5 x6 x7⟩
def fW.con:Con:=⟨276,bXo,sh2,false,fun (x0,x1,x2,x3)=>fW x0 x1 x2 x3⟩
def aAh.con:Con:=⟨234,⟨[e28,(1,ag7),e4,e6],[]⟩,⟨[e9,e30],[o12]⟩,false,fun (x0,x1,x2,x3,x4,x5,x6,x7)=>aAh x0 (x1,x2,x3,x4,x5) x6 x7⟩
def dS.con:Con:=⟨142,⟨[e28,e1,(2,ag3),e6,e11,e7,e13],[]⟩,⟨[e9,e30],[o12]⟩,false,fun (x0,x1,x2,x3,x4,x5,x6)=>dS x0 x1 x2 x3 x4 x5 x6⟩
def xK.con:Con:=⟨65,aDq,⟨[e42],[o13,o14,o25,o26,o27,o28,o15,o29,(8,ow1),o30,o1]⟩,false,fun (x0,x1,x2)=>xK (x0,x1,x2)⟩
def vR.con:Con:=⟨20,sh6,⟨[e42,e1],[o13,o14,o25,o26,o27,o28,o15,o29,(8,ow1),o30]⟩,false,fun x=>vR x⟩
def uI.con:Con:=⟨213,aDq,⟨[e5,(1,bVv)],[o6,o1]⟩,false,fun (x0,x1,x2)=>uI (x0,x1,x2)⟩
def uS.con:Con:=⟨299,sh7,sh5,false,fun x=>uS x⟩
def cL.con:Con:=⟨202,bV1,aIv,false,fun (x0,x1,x2,x3,x4)=>cL x0 x1 x2 x3 x4⟩
def yW.con:Con:=⟨124,aDq,⟨[e5,(1,ag9)],[o6,o8,o1]⟩,false,fun (x0,x1,x2)=>yW (x0,x1,x2)⟩
def nZ.con:Con:=⟨301,aDq,aY2,false,fun (x0,x1,x2)=>nZ (x0,x1,x2)⟩
def aBc.con:Con:=⟨382,aDq,⟨[(0,.agg [.any,.any]),e27],[o1]⟩,false,fun (x0,x1,x2)=>aBc (x0,x1,x2)⟩
def aA1.con:Con:=⟨300,aDq,⟨[e5,(1,.agg [.var ti,.var ti,.var ti,.var (.sl tPp),.var ti,.var ti,.var ti,.var ti,.var ti,.row 0])],[o34,o1]⟩,false,fun (x0,x1,x2)=>aA1 (x0,x1,x2)⟩
def uF.con:Con:=⟨317,aPv,sh1,false,fun (x0,x1,x2)=>uF (x0,x1,x2)⟩
def mR.con:Con:=⟨217,sh7,sh1,false,fun x=>mR x⟩
def jN.con:Con:=⟨126,sh9,sh1,false,fun (x0,x1,x2,x3,x4,x5,x6,x7,x8,x9)=>jN (x0,x1,x2,x3,x4,x5,x6,x7,x8,x9)⟩
def oX.con:Con:=⟨127,⟨[e17,e1,e4],[]⟩,sh1,false,fun (x0,x1,x2,x3,x4,x5,x6,x7,x8,x9,x10,x11,x12,x13,x14)=>oX ((x0,x1),(x2,x3),(x4,x5,x6),x7,x8,x9,x10,x11,x12) x13 x14⟩
def nN.con:Con:=⟨188,bPv,sh1,false,fun (x0,x1)=>nN x0 x1⟩
def mK.con:Con:=⟨128,⟨[e16,e29],[]⟩,sh1,false,fun (x0,x1,x2,x3,x4,x5,x6,x7,x8,x9,x10,x11,x12,x13,x14,x15,x16,x17,x18,x19)=>mK (x0,x1,x2,x3,x4,x5,x6,x7,x8,x9) (x10,x11,x12,x13,x14,x15,x16,x17,x18,x19)⟩
def qP.con:Con:=⟨46,⟨[e17,(1,bYa)],[]⟩,sh1,false,fun (x0,x1,x2,x3,x4,x5,x6,x7,x8,x9,x10,x11,x12,x13,x14,x15,x16,x17,x18,x19,x20,x21,x22,x23,x24,x25,x26,x27)=>qP ((x0,x1),(x2,x3),(x4,x5,x6),x7,x8,x9,x10,x11,x12) (x13,x14,x15,(x16,x17,(x18,x19,x20,x21,x22,x23,x24,x25,x26,x27)))⟩
def gH.con:Con:=⟨383,⟨[e28,e1],[]⟩,bHj,false,fun (x0,x1)=>gH x0 x1⟩
def xE.con:Con:=⟨302,bEl,aT7,false,fun (x0,x1,x2,x3)=>xE (x0,x1,x2) x3⟩
def dR.con:Con:=⟨118,aI1,aTq,false,fun (x0,x1,x2,x3,x4,x5,x6,x7,x8)=>dR (x0,x1,x2,x3,x4,x5,x6,x7,x8)⟩
def uR.con:Con:=⟨384,aI1,aO4,false,fun (x0,x1,x2,x3,x4,x5,x6,x7,x8)=>uR (x0,x1,x2,x3,x4,x5,x6,x7,x8)⟩
def vZ.con:Con:=⟨303,aI1,bW9,false,fun (x0,x1,x2,x3,x4,x5,x6,x7,x8)=>vZ (x0,x1,x2,x3,x4,x5,x6,x7,x8)⟩
def pX.con:Con:=⟨209,aSu,aCp,false,fun (x0,x1,x2,x3,x4,x5,x6,x7,x8,x9,x10,x11,x12,x13,x14,x15,x16,x17,x18,x19,x20,x21,x22,x23,x24)=>pX ((x12,x13),(x14,x15),(x16,x17,x18),x19,x20,x22,x23,x24,x21) x0 x1 (x2,x3,x4,x5,x6,x7,x8,x9,x10,x11)⟩
def rE.con:Con:=⟨438,sh2,sh1,false,fun x=>rE x⟩
def aAi.con:Con:=⟨439,sh2,sh1,false,fun x=>aAi x⟩
def rS.con:Con:=⟨394,sh5,sh2,false,fun (x0,x1)=>rS x0 x1⟩
def cO.con:Con:=⟨305,⟨[e5,e51,e4],[]⟩,sh2,false,fun (x0,x1,x2,x3)=>cO (x0,x1) x2 x3⟩
def eM.con:Con:=⟨385,sh9,sh2,false,fun (x0,x1,x2,x3,x4,x5,x6,x7,x8,x9)=>eM (x0,x1,x2,x3,x4,x5,x6,x7,x8,x9)⟩
def uU.con:Con:=⟨386,⟨[e3,e29],[]⟩,bWv,false,fun (x0,x1,x2,x3,x4,x5,x6,x7,x8,x9,x10)=>uU x0 (x1,x2,x3,x4,x5,x6,x7,x8,x9,x10)⟩
def jB.con:Con:=⟨435,⟨[e5,e29],[]⟩,aTq,false,fun (x0,x1,x2,x3,x4,x5,x6,x7,x8,x9,x10,x11)=>jB (x0,x1) (x2,x3,x4,x5,x6,x7,x8,x9,x10,x11)⟩
def kB.con:Con:=⟨436,bNh,sh1,false,fun (x0,x1,x2,x3,x4,x5,x6,x7,x8,x9,x10)=>kB (x0,x1,x2,x3,x4,x5,x6,x7,x8,x9) x10⟩
def pJ.con:Con:=⟨388,bWq,⟨[e23,e1],[o6,o8]⟩,false,fun (x0,x1,x2,x3,x4,x5,x6,x7,x8,x9,x10,x11,x12)=>pJ (x0,x1) x2 (x3,x4,x5,x6,x7,x8,x9,x10,x11,x12)⟩
def nM.con:Con:=⟨390,sh9,sh1,false,fun (x0,x1,x2,x3,x4,x5,x6,x7,x8,x9)=>nM (x0,x1,x2,x3,x4,x5,x6,x7,x8,x9)⟩
def iD.con:Con:=⟨389,sh9,aIv,false,fun (x0,x1,x2,x3,x4,x5,x6,x7,x8,x9)=>iD (x0,x1,x2,x3,x4,x5,x6,x7,x8,x9)⟩
def lG.con:Con:=⟨437,sh5,sh1,false,fun (x0,x1)=>lG x0 x1⟩
def pZ.con:Con:=⟨392,⟨[e5,e61],[]⟩,sh1,false,fun (x0,x1,x2,x3,x4)=>pZ (x0,x1) (x2,x3,x4)⟩
def vU.con:Con:=⟨393,sh5,sh1,false,fun (x0,x1)=>vU x0 x1⟩
def kC.con:Con:=⟨304,bOz,bWv,false,fun (x0,x1,x2,x3,x4,x5,x6,x7,x8,x9,x10,x11,x12,x13,x14,x15)=>kC (x0,x1) x2 x3 x4 x5 (x6,x7,x8,x9,x10,x11,x12,x13,x14,x15)⟩
def xF.con:Con:=⟨440,aSh,sh1,false,fun (x0,x1,x2,x3,x4,x5,x6,x7,x8,x9,x10,x11,x12,x13)=>xF (x0,x1,x2,x3) (x4,x5,x6,x7,x8,x9,x10,x11,x12,x13)⟩
def oU.con:Con:=⟨395,aSh,aZi,false,fun (x0,x1,x2,x3,x4,x5,x6,x7,x8,x9,x10,x11,x12,x13)=>oU (x0,x1,x2,x3) (x4,x5,x6,x7,x8,x9,x10,x11,x12,x13)⟩
def nX.con:Con:=⟨380,sh2,sh2,false,fun x=>nX x⟩
def pV.con:Con:=⟨298,bGy,bFy,false,fun (x0,x1,x2,x3)=>pV (x0,x1,x2,x3)⟩
def iA.con:Con:=⟨201,sh7,aPw,false,fun x=>iA x⟩
def aC5.con:Con:=⟨441,bVs,aIv,false,fun (x0,x1,x2,x3,x4,x5,x6,x7,x8,x9,x10,x11,x12)=>aC5 (x0,x1,x2,x3,x4,x5,x6,x7,x8,x9) x10 x11 x12⟩
def wJ.con:Con:=⟨396,aSh,aTq,false,fun (x0,x1,x2,x3,x4,x5,x6,x7,x8,x9,x10,x11,x12,x13)=>wJ (x0,x1,x2,x3) (x4,x5,x6,x7,x8,x9,x10,x11,x12,x13)⟩
def qS.con:Con:=⟨397,⟨[e20,e29],[]⟩,aO4,false,fun (x0,x1,x2,x3,x4,x5,x6,x7,x8,x9,x10,x11,x12,x13,x14,x15,x16,x17,x18)=>qS (x0,x1,x2,x3,x4,x5,x6,x7,x8) (x9,x10,x11,x12,x13,x14,x15,x16,x17,x18)⟩
def sF.con:Con:=⟨458,aX8,⟨[e3,e1,e14],[]⟩,false,fun (x0,x1)=>sF x0 x1⟩
def sG.con:Con:=⟨454,⟨[e12,e1,e4],[]⟩,bYk,false,fun (x0,x1,x2)=>sG x0 x1 x2⟩
def iW.con:Con:=⟨443,sh6,⟨[e60,e30],[]⟩,false,fun x=>iW x⟩
def mX.con:Con:=⟨444,⟨[e52,e61],[]⟩,⟨[e52],[]⟩,false,fun (x0,x1,x2,x3)=>mX x0 (x1,x2,x3)⟩
def iY.con:Con:=⟨401,⟨[e20,e29,e4],[]⟩,⟨[(0,.agg [.var ti,.var ti,.var ti,.var ti,.row 0,.row 1,.var ti,.var ti,.var (.sl tRv)])],[o11,o21]⟩,false,fun (x0,x1,x2,x3,x4,x5,x6,x7,x8,x9,x10,x11,x12,x13,x14,x15,x16,x17,x18,x19)=>iY (x0,x1,x2,x3,x4,x5,x6,x7,x8) (x9,x10,x11,x12,x13,x14,x15,x16,x17,x18) x19⟩
def oA.con:Con:=⟨312,bE4,aCp,false,fun (x0,x1,x2,x3,x4,x5,x6,x7,x8,x9,x10,x11,x12,x13,x14,x15,x16,x17,x18,x19,x20,x21,x22,x23)=>oA ((x11,x12),(x13,x14),(x15,x16,x17),x18,x19,x21,x22,x23,x20) x0 (x1,x2,x3,x4,x5,x6,x7,x8,x9,x10)⟩
def uL.con:Con:=⟨306,bE4,aCp,false,fun (x0,x1,x2,x3,x4,x5,x6,x7,x8,x9,x10,x11,x12,x13,x14,x15,x16,x17,x18,x19,x20,x21,x22,x23)=>uL ((x11,x12),(x13,x14),(x15,x16,x17),x18,x19,x21,x22,x23,x20) x0 (x1,x2,x3,x4,x5,x6,x7,x8,x9,x10)⟩
def nV.con:Con:=⟨187,⟨[(0,.one (.var (.sl tUs))),e1,e4,e6],[]⟩,sh2,false,fun (x0,x1,x2,x3)=>nV x0 x1 x2 x3⟩
def rF.con:Con:=⟨398,bF3,sh2,false,fun (x0,x1,x2,x3,x4,x5)=>rF (x0,x1,x2) x3 x4 x5⟩
def fQ.con:Con:=⟨185,bHh,sh2,false,fun (x0,x1,x2,x3,x4)=>fQ x0 x1 x2 x3 x4⟩
def wL.con:Con:=⟨399,bF3,aT7,false,fun (x0,x1,x2,x3,x4,x5)=>wL (x0,x1,x2) x3 x4 x5⟩
def qR.con:Con:=⟨186,bHh,sh2,false,fun (x0,x1,x2,x3,x4)=>qR x0 x1 x2 x3 x4⟩
def mM.con:Con:=⟨307,bOw,bQe,false,fun (x0,x1,x2,x3,x4,x5,x6)=>mM (x0,x1,x2) x3 x4 x5 x6⟩
def uN.con:Con:=⟨309,sh9,sh2,false,fun (x0,x1,x2,x3,x4,x5,x6,x7,x8,x9)=>uN (x0,x1,x2,x3,x4,x5,x6,x7,x8,x9)⟩
def iF.con:Con:=⟨311,sh9,⟨[e45],[(0,bAj)]⟩,false,fun (x0,x1,x2,x3,x4,x5,x6,x7,x8,x9)=>iF (x0,x1,x2,x3,x4,x5,x6,x7,x8,x9)⟩
def oC.con:Con:=⟨453,aX8,bAw,false,fun (x0,x1)=>oC x0 x1⟩
def rZ.con:Con:=⟨442,aP3,bAw,false,fun x=>rZ x⟩
def jE.con:Con:=⟨400,bGa,bAw,false,fun (x0,x1,x2)=>jE (x0,x1,x2)⟩
def gL.con:Con:=⟨308,bQm,aIv,false,fun (x0,x1,x2,x3,x4,x5,x6,x7,x8,x9,x10,x11,x12,x13,x14)=>gL (x0,x1) x2 x3 x4 (x5,x6,x7,x8,x9,x10,x11,x12,x13,x14)⟩
def hZ.con:Con:=⟨209,aSu,aCp,false,fun (x0,x1,x2,x3,x4,x5,x6,x7,x8,x9,x10,x11,x12,x13,x14,x15,x16,x17,x18,x19,x20,x21,x22,x23,x24)=>hZ ((x12,x13),(x14,x15),(x16,x17,x18),x19,x20,x22,x23,x24,x21) x0 x1 (x2,x3,x4,x5,x6,x7,x8,x9,x10,x11)⟩
def kG.con:Con:=⟨306,bE4,aCp,false,fun (x0,x1,x2,x3,x4,x5,x6,x7,x8,x9,x10,x11,x12,x13,x14,x15,x16,x17,x18,x19,x20,x21,x22,x23)=>kG ((x11,x12),(x13,x14),(x15,x16,x17),x18,x19,x21,x22,x23,x20) x0 (x1,x2,x3,x4,x5,x6,x7,x8,x9,x10)⟩
def eD.con:Con:=⟨209,aSu,aCp,false,fun (x0,x1,x2,x3,x4,x5,x6,x7,x8,x9,x10,x11,x12,x13,x14,x15,x16,x17,x18,x19,x20,x21,x22,x23,x24)=>eD ((x12,x13),(x14,x15),(x16,x17,x18),x19,x20,x22,x23,x24,x21) x0 x1 (x2,x3,x4,x5,x6,x7,x8,x9,x10,x11)⟩
def wD.con:Con:=⟨207,bGg,aY5,false,fun (x0,x1,x2,x3,x4,x5,x6,x7,x8,x9,x10,x11,x12)=>wD ((x0,x1),(x2,x3),(x4,x5,x6),x7,x8,x10,x11,x12,x9)⟩
def oJ.con:Con:=⟨208,bGt,bP1,false,fun (x0,x1,x2,x3,x4,x5,x6,x7,x8,x9,x10,x11,x12,x13)=>oJ ((x1,x2),(x3,x4),(x5,x6,x7),x8,x9,x11,x12,x13,x10) x0⟩
def yN.con:Con:=⟨211,⟨[e8,e1,e14],[o5,o3,o2,o4]⟩,aY5,false,fun (x0,x1,x2,x3,x4,x5,x6,x7,x8,x9,x10,x11,x12,x13,x14)=>yN ((x2,x3),(x4,x5),(x6,x7,x8),x9,x10,x12,x13,x14,x11) x0 x1⟩
def aBf.con:Con:=⟨212,bQx,aY5,false,fun (x0,x1,x2,x3,x4,x5,x6,x7,x8,x9,x10,x11,x12,x13,x14,x15,x16,x17,x18,x19,x20,x21,x22,x23,x24,x25,x26,x27)=>aBf ((x15,x16),(x17,x18),(x19,x20,x21),x22,x23,x25,x26,x27,x24) (x0,x1,x2,(x3,x4,(x5,x6,x7,x8,x9,x10,x11,x12,x13,x14)))⟩
def oD.con:Con:=⟨123,bQx,aY5,false,fun (x0,x1,x2,x3,x4,x5,x6,x7,x8,x9,x10,x11,x12,x13,x14,x15,x16,x17,x18,x19,x20,x21,x22,x23,x24,x25,x26,x27)=>oD ((x15,x16),(x17,x18),(x19,x20,x21),x22,x23,x25,x26,x27,x24) (x0,x1,x2,(x3,x4,(x5,x6,x7,x8,x9,x10,x11,x12,x13,x14)))⟩
def pE.con:Con:=⟨203,bRx,⟨[(0,.agg [.var ti,.var ti,.row 1,.var ti,.var ti,.var ti,.var ti,.var ti,.var (.sl tPp),.var ti,.var ti,.var ti,.var ti,.var ti,.row 0])],[o34,o8,o1,o43,o44,o45]⟩,false,fun (x0,x1,x2,x3,x4,x5,x6,x7,x8,x9,x10,x11,x12,x13,x14,x15)=>pE (x10,x11,x12) ((x0,x1),(x2,x3),(x4,x5,x6),x7,x8,x13,x14,x15,x9)⟩
def tX.con:Con:=⟨121,bRx,⟨[(0,.agg [.var ti,.var ti,.row 0,.var ti,.var ti,.var ti,.var ti,.var ti,.var (.sl tPp),.var ti,.var ti,.var ti,.var ti,.var ti,.row 1])],[o34,o8,o1,o43,o44,o45]⟩,false,fun (x0,x1,x2,x3,x4,x5,x6,x7,x8,x9,x10,x11,x12,x13,x14,x15)=>tX (x10,x11,x12) ((x0,x1),(x2,x3),(x4,x5,x6),x7,x8,x13,x14,x15,x9)⟩
def aA8.con:Con:=⟨168,aSo,⟨[e42,(1,.one (.var (.sl kR))),(2,.agg [.var (.sl tAS),.var (.sl tLk),.var (.sl tSg),.var (.sl tSg),.var ti,.var (.sl tRs),.var (.sl tUs),.var ti,.var (.sl ti),.row 10,.row 11,.row 12,.var ti])],[o13,o14,o25,o26,o27,o28,o15,o29,(8,ow1),o30,(10,ow2),(11,ow1),(12,ow3),o1]⟩,false,fun (x0,x1,x2,x3)=>aA8 (x1,x2,x3) x0⟩
def pF.con:Con:=⟨84,aSo,bSf,false,fun (x0,x1,x2,x3)=>pF (x1,x2,x3) x0⟩
def aC3.con:Con:=⟨57,aDq,bX8,false,fun (x0,x1,x2)=>aC3 (x0,x1,x2)⟩
def aBn.con:Con:=⟨59,aDq,aY2,false,fun (x0,x1,x2)=>aBn (x0,x1,x2)⟩
def rC.con:Con:=⟨424,aDq,⟨[e33],[o1]⟩,false,fun (x0,x1,x2)=>rC (x0,x1,x2)⟩
def yO.con:Con:=⟨355,aDq,bQ1,false,fun (x0,x1,x2)=>yO (x0,x1,x2)⟩
def aBi.con:Con:=⟨356,aDq,⟨[e33],[o1]⟩,false,fun (x0,x1,x2)=>aBi (x0,x1,x2)⟩
def aBm.con:Con:=⟨267,aDq,bQ1,false,fun (x0,x1,x2)=>aBm (x0,x1,x2)⟩
def aBb.con:Con:=⟨167,aSo,bSf,false,fun (x0,x1,x2,x3)=>aBb (x1,x2,x3) x0⟩
def eZ.con:Con:=⟨83,aX8,⟨[(0,.one (.ptr 0 0)),(1,.agg [.var (.sl tAS),.var (.sl tLk),.var (.sl tSg),.var (.sl tSg),.var ti,.var (.sl tRs),.var (.sl tUs),.var ti,.var (.sl ti),.row 1,.row 2,.row 3,.var ti])],[(0,ob1),(1,ow2),(2,ow1),(3,ow3)]⟩,false,fun (x0,x1)=>eZ x0 x1⟩
def gA.con:Con:=⟨21,sh6,bP3,false,fun x=>gA x⟩
def oI.con:Con:=⟨22,sh6,aSp,false,fun x=>oI x⟩
def mV.con:Con:=⟨23,sh6,bP3,false,fun x=>mV x⟩
def kF.con:Con:=⟨24,sh6,⟨[e39,(1,ag5)],[o3,o2,o4]⟩,false,fun x=>kF x⟩
def gX.con:Con:=⟨184,⟨[e28,e1,e4],[]⟩,sh1,false,fun (x0,x1,x2)=>gX x0 x1 x2⟩
def lP.con:Con:=⟨99,bEl,sh1,false,fun (x0,x1,x2,x3)=>lP (x0,x1,x2) x3⟩
def yS.con:Con:=⟨100,aHh,sh1,false,fun (x0,x1,x2,x3,x4,x5,x6,x7,x8,x9,x10,x11,x12)=>yS ((x0,x1),(x2,x3),(x4,x5,x6),x7,x8,x9,x10,x11,x12)⟩
def rL.con:Con:=⟨101,bF5,sh1,false,fun (x0,x1,x2,x3)=>rL (x0,x1,x2,x3)⟩
def lO.con:Con:=⟨102,bSk,sh1,false,fun (x0,x1,x2,x3,x4,x5,x6,x7,x8,x9,x10,x11,x12)=>lO (x0,x1,x2,x3,x4,x5,x6,x7,x8) (x9,x10,x11,x12)⟩
def fX.con:Con:=⟨18,aHh,sh1,false,fun (x0,x1,x2,x3,x4,x5,x6,x7,x8,x9,x10,x11,x12)=>fX ((x0,x1),(x2,x3),(x4,x5,x6),x7,x8,x9,x10,x11,x12)⟩
def sW.con:Con:=⟨111,bGt,aCp,false,fun (x0,x1,x2,x3,x4,x5,x6,x7,x8,x9,x10,x11,x12,x13)=>sW ((x1,x2),(x3,x4),(x5,x6,x7),x8,x9,x11,x12,x13,x10) x0⟩
def nY.con:Con:=⟨112,bGg,aCp,false,fun (x0,x1,x2,x3,x4,x5,x6,x7,x8,x9,x10,x11,x12)=>nY ((x0,x1),(x2,x3),(x4,x5,x6),x7,x8,x10,x11,x12,x9)⟩
def nP.con:Con:=⟨32,bGw,aSp,false,fun (x0,x1,x2,x3,x4,x5,x6,x7,x8,x9,x10,x11,x12,x13)=>nP ((x0,x1),(x2,x3),(x4,x5,x6),x7,x8,x9,x10,x11,x12) x13⟩
def sE.con:Con:=⟨25,sh6,aSp,false,fun x=>sE x⟩
def gJ.con:Con:=⟨26,sh6,aSp,false,fun x=>gJ x⟩
def oH.con:Con:=⟨62,bF6,⟨[e58],[o13,o14]⟩,false,fun (x0,x1)=>oH (x0,x1)⟩
def qY.con:Con:=⟨321,bN2,⟨[e9],[o23]⟩,false,fun x=>qY x⟩
def pY.con:Con:=⟨222,aPv,bNo,false,fun (x0,x1,x2)=>pY (x0,x1,x2)⟩
def mI.con:Con:=⟨136,⟨[(0,bAi)],[]⟩,bFm,false,fun x=>mI x⟩
def qL.con:Con:=⟨63,⟨[e56],[]⟩,bV7,false,fun (x0,x1)=>qL (x0,x1)⟩
def fB.con:Con:=⟨237,⟨[e28],[]⟩,bHj,false,fun x=>fB x⟩
def fF.con:Con:=⟨145,⟨[e31],[]⟩,aT7,false,fun (x0,x1,x2)=>fF (x0,x1,x2)⟩
def qX.con:Con:=⟨146,aP3,aIp,false,fun x=>qX x⟩
def kQ.con:Con:=⟨238,sh7,aPw,false,fun x=>kQ x⟩
def fO.con:Con:=⟨239,sh6,bAw,false,fun x=>fO x⟩
def dN.con:Con:=⟨147,sh9,aIv,false,fun (x0,x1,x2,x3,x4,x5,x6,x7,x8,x9)=>dN (x0,x1,x2,x3,x4,x5,x6,x7,x8,x9)⟩
def jT.con:Con:=⟨240,⟨[(0,bEu)],[]⟩,⟨[e9],[o11]⟩,false,fun x=>jT x⟩
def uM.con:Con:=⟨241,aZx,aSm,false,fun x=>uM x⟩
def eU.con:Con:=⟨242,⟨[e52],[]⟩,bOv,false,fun x=>eU x⟩
def kM.con:Con:=⟨148,aI1,aO4,false,fun (x0,x1,x2,x3,x4,x5,x6,x7,x8)=>kM (x0,x1,x2,x3,x4,x5,x6,x7,x8)⟩
def oN.con:Con:=⟨149,bF5,aZi,false,fun (x0,x1,x2,x3)=>oN (x0,x1,x2,x3)⟩
def fG.con:Con:=⟨69,aHh,aTu,false,fun (x0,x1,x2,x3,x4,x5,x6,x7,x8,x9,x10,x11,x12)=>fG ((x0,x1),(x2,x3),(x4,x5,x6),x7,x8,x9,x10,x11,x12)⟩
def bO.con:Con:=⟨61,bNk,sh1,false,fun (x0,x1,x2)=>bO x0 x1 x2⟩
def wY.con:Con:=⟨133,sh2,sh1,false,fun x=>wY x⟩
def rH.con:Con:=⟨71,bGm,sh1,false,fun (x0,x1,x2)=>rH (x0,x1) x2⟩
def aA0.con:Con:=⟨134,⟨[e5,(1,ag7)],[]⟩,sh1,false,fun (x0,x1,x2,x3,x4,x5,x6)=>aA0 (x0,x1) (x2,x3,x4,x5,x6)⟩
def gC.con:Con:=⟨135,bOb,sh1,false,fun (x0,x1,x2,x3,x4,x5,x6)=>gC (x0,x1,x2,x3,x4) x5 x6⟩
def nA.con:Con:=⟨60,bF6,sh1,false,fun (x0,x1)=>nA (x0,x1)⟩
def bZ.con:Con:=⟨150,bGa,sh1,false,fun (x0,x1,x2)=>bZ (x0,x1,x2)⟩
def iV.con:Con:=⟨269,bAh,sh1,false,fun (x0,x1,x2,x3,x4)=>iV (x0,x1,x2,x3,x4)⟩
def eQ.con:Con:=⟨271,bOb,sh1,false,fun (x0,x1,x2,x3,x4,x5,x6)=>eQ (x0,x1,x2,x3,x4) x5 x6⟩
def jY.con:Con:=⟨270,bXo,sh2,false,fun (x0,x1,x2,x3)=>jY x0 x1 x2 x3⟩
def hH.con:Con:=⟨180,⟨[e28,e1,e4],[]⟩,sh1,false,fun (x0,x1,x2)=>hH x0 x1 x2⟩
def pN.con:Con:=⟨181,bF3,sh2,false,fun (x0,x1,x2,x3,x4,x5)=>pN (x0,x1,x2) x3 x4 x5⟩
def aDx.con:Con:=⟨119,sh5,sh2,false,fun (x0,x1)=>aDx x0 x1⟩
def vQ.con:Con:=⟨272,bHh,sh2,false,fun (x0,x1,x2,x3,x4)=>vQ x0 x1 x2 x3 x4⟩
def kA.con:Con:=⟨273,bHh,sh2,false,fun (x0,x1,x2,x3,x4)=>kA x0 x1 x2 x3 x4⟩
def xG.con:Con:=⟨182,bOw,sh2,false,fun (x0,x1,x2,x3,x4,x5,x6)=>xG (x0,x1,x2) x3 x4 x5 x6⟩
def lV.con:Con:=⟨96,bEl,sh1,false,fun (x0,x1,x2,x3)=>lV (x0,x1,x2) x3⟩
def uB.con:Con:=⟨70,aI1,sh1,false,fun (x0,x1,x2,x3,x4,x5,x6,x7,x8)=>uB (x0,x1,x2,x3,x4,x5,x6,x7,x8)⟩
def sJ.con:Con:=⟨97,bF5,sh1,false,fun (x0,x1,x2,x3)=>sJ (x0,x1,x2,x3)⟩
def uV.con:Con:=⟨192,bPv,sh1,false,fun (x0,x1)=>uV x0 x1⟩
def mQ.con:Con:=⟨183,bRq,sh1,false,fun (x0,x1)=>mQ x0 x1⟩
def lU.con:Con:=⟨98,bSk,sh1,false,fun (x0,x1,x2,x3,x4,x5,x6,x7,x8,x9,x10,x11,x12)=>lU (x0,x1,x2,x3,x4,x5,x6,x7,x8) (x9,x10,x11,x12)⟩
def jU.con:Con:=⟨17,aHh,sh1,false,fun (x0,x1,x2,x3,x4,x5,x6,x7,x8,x9,x10,x11,x12)=>jU ((x0,x1),(x2,x3),(x4,x5,x6),x7,x8,x9,x10,x11,x12)⟩
def mG.con:Con:=⟨194,bGt,bP1,false,fun (x0,x1,x2,x3,x4,x5,x6,x7,x8,x9,x10,x11,x12,x13)=>mG ((x1,x2),(x3,x4),(x5,x6,x7),x8,x9,x11,x12,x13,x10) x0⟩
def nC.con:Con:=⟨195,aSu,aCp,false,fun (x0,x1,x2,x3,x4,x5,x6,x7,x8,x9,x10,x11,x12,x13,x14,x15,x16,x17,x18,x19,x20,x21,x22,x23,x24)=>nC ((x12,x13),(x14,x15),(x16,x17,x18),x19,x20,x22,x23,x24,x21) x0 x1 (x2,x3,x4,x5,x6,x7,x8,x9,x10,x11)⟩
def qW.con:Con:=⟨205,bMf,aP3,false,fun (x0,x1)=>qW x0 x1⟩
def rN.con:Con:=⟨366,bGm,aP3,false,fun (x0,x1,x2)=>rN (x0,x1) x2⟩
def lZ.con:Con:=⟨367,aO5,sh2,false,fun (x0,x1,x2,x3)=>lZ (x0,x1) x2 x3⟩
def sX.con:Con:=⟨204,bMf,sh1,false,fun (x0,x1)=>sX x0 x1⟩
def qO.con:Con:=⟨429,sh2,sh1,false,fun x=>qO x⟩
def rY.con:Con:=⟨368,sh5,sh2,false,fun (x0,x1)=>rY x0 x1⟩
def dE.con:Con:=⟨281,⟨[e5,e51,e4],[]⟩,sh2,false,fun (x0,x1,x2,x3)=>dE (x0,x1) x2 x3⟩
def mD.con:Con:=⟨357,⟨[e3,(1,.one (.ptr 1000001 0))],[(1000001,ob7)]⟩,⟨[(0,bXm)],[o6,o8,(1000001,ob7)]⟩,false,fun (x0,x1,x2,x3,x4,x5,x6,x7,x8,x9,x10)=>mD x0 (x1,x2,x3,x4,x5,x6,x7,x8,x9,x10)⟩
def dV.con:Con:=⟨216,sh2,sh1,false,fun x=>dV x⟩
def nU.con:Con:=⟨403,bAh,sh1,false,fun (x0,x1,x2,x3,x4)=>nU (x0,x1,x2,x3,x4)⟩
def nB.con:Con:=⟨315,bN2,sh1,false,fun x=>nB x⟩
def mU.con:Con:=⟨214,sh7,sh1,false,fun x=>mU x⟩
def xS.con:Con:=⟨316,sh9,sh1,false,fun (x0,x1,x2,x3,x4,x5,x6,x7,x8,x9)=>xS (x0,x1,x2,x3,x4,x5,x6,x7,x8,x9)⟩
def eO.con:Con:=⟨215,sh9,sh2,false,fun (x0,x1,x2,x3,x4,x5,x6,x7,x8,x9)=>eO (x0,x1,x2,x3,x4,x5,x6,x7,x8,x9)⟩
def pR.con:Con:=⟨125,sh9,sh1,false,fun (x0,x1,x2,x3,x4,x5,x6,x7,x8,x9)=>pR (x0,x1,x2,x3,x4,x5,x6,x7,x8,x9)⟩
def aA5.con:Con:=⟨446,⟨[e5,(1,bFl)],[]⟩,sh1,false,fun (x0,x1,x2)=>aA5 (x0,x1) x2⟩
def gG.con:Con:=⟨336,sh2,sh1,false,fun x=>gG x⟩
def gF.con:Con:=⟨363,aP4,sh2,false,fun (x0,x1,x2,x3,x4)=>gF (x0,x1,x2,x3) x4⟩
def mB.con:Con:=⟨295,aO5,sh5,false,fun (x0,x1,x2,x3)=>mB (x0,x1) x2 x3⟩
def fY.con:Con:=⟨358,aP4,sh2,false,fun (x0,x1,x2,x3,x4)=>fY (x0,x1,x2,x3) x4⟩
def tV.con:Con:=⟨416,bOx,sh1,false,fun (x0,x1,x2,x3,x4,x5)=>tV (x0,x1) (x2,x3,x4,x5)⟩
def wI.con:Con:=⟨417,sh2,sh2,false,fun x=>wI x⟩
def lN.con:Con:=⟨340,aZ5,sh1,false,fun (x0,x1,x2)=>lN (x0,x1) x2⟩
def mC.con:Con:=⟨375,sh7,bNi,false,fun x=>mC x⟩
def zG.con:Con:=⟨418,⟨[(0,.one (.var (.sl aAt)))],[]⟩,aIp,false,fun x=>zG x⟩
def gP.con:Con:=⟨341,sh7,aIp,false,fun x=>gP x⟩
def rW.con:Con:=⟨252,aZ5,sh1,false,fun (x0,x1,x2)=>rW (x0,x1) x2⟩
def xQ.con:Con:=⟨379,sh5,sh2,false,fun (x0,x1)=>xQ x0 x1⟩
def xM.con:Con:=⟨378,sh5,sh2,false,fun (x0,x1)=>xM x0 x1⟩
def aIb.con:Con:=⟨445,sh5,sh2,false,fun (x0,x1)=>aIb x0 x1⟩
def aA6.con:Con:=⟨412,aP3,sh2,false,fun x=>aA6 x⟩
def uY.con:Con:=⟨455,bMr,sh2,false,fun (x0,x1)=>uY x0 x1⟩
def aBh.con:Con:=⟨447,bOt,sh2,false,fun (x0,x1,x2,x3,x4,x5,x6,x7)=>aBh x0 x1 x2 (x3,x4,x5,x6,x7)⟩
def uT.con:Con:=⟨419,bWm,sh1,false,fun (x0,x1,x2,x3,x4,x5,x6,x7,x8)=>uT (x0,x1) x2 x3 (x4,x5,x6,x7,x8)⟩
def iU.con:Con:=⟨425,⟨[e5,e29],[]⟩,aTq,false,fun (x0,x1,x2,x3,x4,x5,x6,x7,x8,x9,x10,x11)=>iU (x0,x1) (x2,x3,x4,x5,x6,x7,x8,x9,x10,x11)⟩
def uX.con:Con:=⟨450,⟨[e33,e1],[]⟩,sh1,false,fun (x0,x1,x2,x3,x4,x5)=>uX (x0,x1,x2,x3,x4) x5⟩
def hP.con:Con:=⟨426,bNh,sh1,false,fun (x0,x1,x2,x3,x4,x5,x6,x7,x8,x9,x10)=>hP (x0,x1,x2,x3,x4,x5,x6,x7,x8,x9) x10⟩
def mN.con:Con:=⟨359,bWq,bNh,false,fun (x0,x1,x2,x3,x4,x5,x6,x7,x8,x9,x10,x11,x12)=>mN (x0,x1) x2 (x3,x4,x5,x6,x7,x8,x9,x10,x11,x12)⟩
def iH.con:Con:=⟨360,sh9,sh1,false,fun (x0,x1,x2,x3,x4,x5,x6,x7,x8,x9)=>iH (x0,x1,x2,x3,x4,x5,x6,x7,x8,x9)⟩
def mA.con:Con:=⟨361,sh9,sh1,false,fun (x0,x1,x2,x3,x4,x5,x6,x7,x8,x9)=>mA (x0,x1,x2,x3,x4,x5,x6,x7,x8,x9)⟩
def nR.con:Con:=⟨362,sh9,aIv,false,fun (x0,x1,x2,x3,x4,x5,x6,x7,x8,x9)=>nR (x0,x1,x2,x3,x4,x5,x6,x7,x8,x9)⟩
def kS.con:Con:=⟨428,aO5,sh2,false,fun (x0,x1,x2,x3)=>kS (x0,x1) x2 x3⟩
def kW.con:Con:=⟨427,sh5,sh1,false,fun (x0,x1)=>kW x0 x1⟩
def pP.con:Con:=⟨364,⟨[e5,e61],[]⟩,sh1,false,fun (x0,x1,x2,x3,x4)=>pP (x0,x1) (x2,x3,x4)⟩
def vS.con:Con:=⟨365,sh5,sh1,false,fun (x0,x1)=>vS x0 x1⟩
def tB.con:Con:=⟨280,bOz,⟨[(0,bHk),e1],[]⟩,false,fun (x0,x1,x2,x3,x4,x5,x6,x7,x8,x9,x10,x11,x12,x13,x14,x15)=>tB (x0,x1) x2 x3 x4 x5 (x6,x7,x8,x9,x10,x11,x12,x13,x14,x15)⟩
def uE.con:Con:=⟨430,bF3,sh2,false,fun (x0,x1,x2,x3,x4,x5)=>uE (x0,x1,x2) x3 x4 x5⟩
def wW.con:Con:=⟨369,bOw,bQe,false,fun (x0,x1,x2,x3,x4,x5,x6)=>wW (x0,x1,x2) x3 x4 x5 x6⟩
def mJ.con:Con:=⟨282,⟨[e8,e1,(2,bHk)],[o5,o3,o2,o4]⟩,aCp,false,fun (x0,x1,x2,x3,x4,x5,x6,x7,x8,x9,x10,x11,x12,x13,x14,x15,x16,x17,x18,x19,x20,x21,x22,x23,x24,x25)=>mJ ((x13,x14),(x15,x16),(x17,x18,x19),x20,x21,x23,x24,x25,x22) x0 (x1,x2,(x3,x4,x5,x6,x7,x8,x9,x10,x11,x12))⟩
def rA.con:Con:=⟨72,bXt,sh2,false,fun (x0,x1,x2)=>rA x0 x1 x2⟩
def uK.con:Con:=⟨370,aSh,sh1,false,fun (x0,x1,x2,x3,x4,x5,x6,x7,x8,x9,x10,x11,x12,x13)=>uK (x0,x1,x2,x3) (x4,x5,x6,x7,x8,x9,x10,x11,x12,x13)⟩
def oO.con:Con:=⟨283,aSh,aZi,false,fun (x0,x1,x2,x3,x4,x5,x6,x7,x8,x9,x10,x11,x12,x13)=>oO (x0,x1,x2,x3) (x4,x5,x6,x7,x8,x9,x10,x11,x12,x13)⟩
def pS.con:Con:=⟨291,sh2,sh2,false,fun x=>pS x⟩
def uO.con:Con:=⟨292,aP4,sh2,false,fun (x0,x1,x2,x3,x4)=>uO (x0,x1,x2,x3) x4⟩
def oG.con:Con:=⟨293,bN2,⟨[e9],[o23]⟩,false,fun x=>oG x⟩
def pU.con:Con:=⟨197,bGy,bFy,false,fun (x0,x1,x2,x3)=>pU (x0,x1,x2,x3)⟩
def iB.con:Con:=⟨114,sh7,aPw,false,fun x=>iB x⟩
def uQ.con:Con:=⟨296,sh7,sh5,false,fun x=>uQ x⟩
def iP.con:Con:=⟨199,bV1,aIv,false,fun (x0,x1,x2,x3,x4)=>iP x0 x1 x2 x3 x4⟩
def aDe.con:Con:=⟨371,bVs,aIv,false,fun (x0,x1,x2,x3,x4,x5,x6,x7,x8,x9,x10,x11,x12)=>aDe (x0,x1,x2,x3,x4,x5,x6,x7,x8,x9) x10 x11 x12⟩
def wX.con:Con:=⟨284,aSh,aTq,false,fun (x0,x1,x2,x3,x4,x5,x6,x7,x8,x9,x10,x11,x12,x13)=>wX (x0,x1,x2,x3) (x4,x5,x6,x7,x8,x9,x10,x11,x12,x13)⟩
def uJ.con:Con:=⟨372,⟨[e20,e29],[]⟩,aO4,false,fun (x0,x1,x2,x3,x4,x5,x6,x7,x8,x9,x10,x11,x12,x13,x14,x15,x16,x17,x18)=>uJ (x0,x1,x2,x3,x4,x5,x6,x7,x8) (x9,x10,x11,x12,x13,x14,x15,x16,x17,x18)⟩
def rX.con:Con:=⟨456,aX8,⟨[e3,e1,e14],[]⟩,false,fun (x0,x1)=>rX x0 x1⟩
def rT.con:Con:=⟨451,⟨[e12,e1,e4],[]⟩,bYk,false,fun (x0,x1,x2)=>rT x0 x1 x2⟩
def jG.con:Con:=⟨431,sh6,⟨[e60,e30],[]⟩,false,fun x=>jG x⟩
def wM.con:Con:=⟨331,⟨[e15,e61],[]⟩,sh1,false,fun (x0,x1,x2,x3)=>wM x0 (x1,x2,x3)⟩
def qQ.con:Con:=⟨377,aI1,sh2,false,fun (x0,x1,x2,x3,x4,x5,x6,x7,x8)=>qQ (x0,x1,x2,x3,x4,x5,x6,x7,x8)⟩
def mZ.con:Con:=⟨432,⟨[e52,e61],[]⟩,bOv,false,fun (x0,x1,x2,x3)=>mZ x0 (x1,x2,x3)⟩
def jD.con:Con:=⟨373,⟨[e20,e29,e4],[]⟩,aO4,false,fun (x0,x1,x2,x3,x4,x5,x6,x7,x8,x9,x10,x11,x12,x13,x14,x15,x16,x17,x18,x19)=>jD (x0,x1,x2,x3,x4,x5,x6,x7,x8) (x9,x10,x11,x12,x13,x14,x15,x16,x17,x18) x19⟩
def iG.con:Con:=⟨285,bE4,aCp,false,fun (x0,x1,x2,x3,x4,x5,x6,x7,x8,x9,x10,x11,x12,x13,x14,x15,x16,x17,x18,x19,x20,x21,x22,x23)=>iG ((x11,x12),(x13,x14),(x15,x16,x17),x18,x19,x21,x22,x23,x20) x0 (x1,x2,x3,x4,x5,x6,x7,x8,x9,x10)⟩
def aJw.con:Con:=⟨153,sh5,sh2,false,fun (x0,x1)=>aJw x0 x1⟩
def iJ.con:Con:=⟨288,sh9,⟨[e45],[(0,bAj)]⟩,false,fun (x0,x1,x2,x3,x4,x5,x6,x7,x8,x9)=>iJ (x0,x1,x2,x3,x4,x5,x6,x7,x8,x9)⟩
def oE.con:Con:=⟨457,aX8,bAw,false,fun (x0,x1)=>oE x0 x1⟩
def rR.con:Con:=⟨452,⟨[e12,e51],[]⟩,sh6,false,fun (x0,x1)=>rR x0 x1⟩
def rO.con:Con:=⟨433,aP3,sh6,false,fun x=>rO x⟩
def jA.con:Con:=⟨374,bGa,sh6,false,fun (x0,x1,x2)=>jA (x0,x1,x2)⟩
def jK.con:Con:=⟨286,bQm,aIv,false,fun (x0,x1,x2,x3,x4,x5,x6,x7,x8,x9,x10,x11,x12,x13,x14)=>jK (x0,x1) x2 x3 x4 (x5,x6,x7,x8,x9,x10,x11,x12,x13,x14)⟩
def sM.con:Con:=⟨287,sh7,sh2,false,fun x=>sM x⟩
def eP.con:Con:=⟨195,aSu,aCp,false,fun (x0,x1,x2,x3,x4,x5,x6,x7,x8,x9,x10,x11,x12,x13,x14,x15,x16,x17,x18,x19,x20,x21,x22,x23,x24)=>eP ((x12,x13),(x14,x15),(x16,x17,x18),x19,x20,x22,x23,x24,x21) x0 x1 (x2,x3,x4,x5,x6,x7,x8,x9,x10,x11)⟩
def cA.con:Con:=⟨195,aSu,aCp,false,fun (x0,x1,x2,x3,x4,x5,x6,x7,x8,x9,x10,x11,x12,x13,x14,x15,x16,x17,x18,x19,x20,x21,x22,x23,x24)=>cA ((x12,x13),(x14,x15),(x16,x17,x18),x19,x20,x22,x23,x24,x21) x0 x1 (x2,x3,x4,x5,x6,x7,x8,x9,x10,x11)⟩
def eC.con:Con:=⟨110,bGt,aCp,false,fun (x0,x1,x2,x3,x4,x5,x6,x7,x8,x9,x10,x11,x12,x13)=>eC ((x1,x2),(x3,x4),(x5,x6,x7),x8,x9,x11,x12,x13,x10) x0⟩
def kX.con:Con:=⟨27,bGw,aTu,false,fun (x0,x1,x2,x3,x4,x5,x6,x7,x8,x9,x10,x11,x12,x13)=>kX ((x0,x1),(x2,x3),(x4,x5,x6),x7,x8,x9,x10,x11,x12) x13⟩
def lS.con:Con:=⟨28,bGw,aSp,false,fun (x0,x1,x2,x3,x4,x5,x6,x7,x8,x9,x10,x11,x12,x13)=>lS ((x0,x1),(x2,x3),(x4,x5,x6),x7,x8,x9,x10,x11,x12) x13⟩
def tP.con:Con:=⟨52,⟨[e5,(1,ag1)],[]⟩,sh1,false,fun (x0,x1,x2,x3)=>tP (x0,x1) (x2,x3)⟩
def qN.con:Con:=⟨319,bWs,sh1,false,fun (x0,x1)=>qN x0 x1⟩
def yX.con:Con:=⟨220,bGz,sh1,false,fun (x0,x1,x2,x3,x4,x5)=>yX (x0,x1,x2) (x3,x4,x5)⟩
def tI.con:Con:=⟨129,⟨[(0,bAi),(1,bAi)],[]⟩,sh1,false,fun (x0,x1)=>tI x0 x1⟩
def wF.con:Con:=⟨53,⟨[e56,e59],[]⟩,sh1,false,fun (x0,x1,x2,x3)=>wF (x0,x1) (x2,x3)⟩
def rJ.con:Con:=⟨170,⟨[e28,(1,bYd)],[]⟩,sh1,false,fun (x0,x1)=>rJ x0 x1⟩
def qV.con:Con:=⟨87,⟨[e31,(1,bW5)],[]⟩,sh1,false,fun (x0,x1,x2,x3,x4,x5)=>qV (x0,x1,x2) (x3,x4,x5)⟩
def tS.con:Con:=⟨47,⟨[e37,e51],[]⟩,sh1,false,fun (x0,x1)=>tS x0 x1⟩
def tR.con:Con:=⟨268,bU9,sh1,false,fun (x0,x1,x2,x3,x4,x5,x6,x7)=>tR (x0,x1,x2,x3) (x4,x5,x6,x7)⟩
def qZ.con:Con:=⟨171,bOu,sh1,false,fun (x0,x1)=>qZ x0 x1⟩
def aB8.con:Con:=⟨172,bPv,sh1,false,fun (x0,x1)=>aB8 x0 x1⟩
def sB.con:Con:=⟨88,⟨[e16,e29],[]⟩,sh1,false,fun (x0,x1,x2,x3,x4,x5,x6,x7,x8,x9,x10,x11,x12,x13,x14,x15,x16,x17,x18,x19)=>sB (x0,x1,x2,x3,x4,x5,x6,x7,x8,x9) (x10,x11,x12,x13,x14,x15,x16,x17,x18,x19)⟩
def nE.con:Con:=⟨173,bRq,sh1,false,fun (x0,x1)=>nE x0 x1⟩
def tW.con:Con:=⟨174,⟨[e57,(1,bFg)],[]⟩,sh1,false,fun (x0,x1)=>tW x0 x1⟩
def uA.con:Con:=⟨175,⟨[e52,(1,bPe)],[]⟩,sh1,false,fun (x0,x1)=>uA x0 x1⟩
def wH.con:Con:=⟨89,⟨[e20,(1,ag5)],[]⟩,sh1,false,fun (x0,x1,x2,x3,x4,x5,x6,x7,x8,x9,x10,x11,x12,x13,x14,x15,x16,x17)=>wH (x0,x1,x2,x3,x4,x5,x6,x7,x8) (x9,x10,x11,x12,x13,x14,x15,x16,x17)⟩
def yP.con:Con:=⟨90,⟨[e38,(1,bMe)],[]⟩,sh1,false,fun (x0,x1,x2,x3,x4,x5,x6,x7)=>yP (x0,x1,x2,x3) (x4,x5,x6,x7)⟩
def gO.con:Con:=⟨15,⟨[e17,(1,ag6)],[]⟩,sh1,false,fun (x0,x1,x2,x3,x4,x5,x6,x7,x8,x9,x10,x11,x12,x13,x14,x15,x16,x17,x18,x19,x20,x21,x22,x23,x24,x25)=>gO ((x0,x1),(x2,x3),(x4,x5,x6),x7,x8,x9,x10,x11,x12) ((x13,x14),(x15,x16),(x17,x18,x19),x20,x21,x22,x23,x24,x25)⟩
def gK.con:Con:=⟨376,⟨[e28,e1],[]⟩,bHj,false,fun (x0,x1)=>gK x0 x1⟩
def xL.con:Con:=⟨289,bEl,aT7,false,fun (x0,x1,x2,x3)=>xL (x0,x1,x2) x3⟩
def dT.con:Con:=⟨117,aI1,aTq,false,fun (x0,x1,x2,x3,x4,x5,x6,x7,x8)=>dT (x0,x1,x2,x3,x4,x5,x6,x7,x8)⟩
def wZ.con:Con:=⟨290,aI1,bW9,false,fun (x0,x1,x2,x3,x4,x5,x6,x7,x8)=>wZ (x0,x1,x2,x3,x4,x5,x6,x7,x8)⟩
def oB.con:Con:=⟨196,bGg,aY5,false,fun (x0,x1,x2,x3,x4,x5,x6,x7,x8,x9,x10,x11,x12)=>oB ((x0,x1),(x2,x3),(x4,x5,x6),x7,x8,x10,x11,x12,x9)⟩
def kJ.con:Con:=⟨113,bGg,aCp,false,fun (x0,x1,x2,x3,x4,x5,x6,x7,x8,x9,x10,x11,x12)=>kJ ((x0,x1),(x2,x3),(x4,x5,x6),x7,x8,x10,x11,x12,x9)⟩
def jV.con:Con:=⟨31,bGw,aTu,false,fun (x0,x1,x2,x3,x4,x5,x6,x7,x8,x9,x10,x11,x12,x13)=>jV ((x0,x1),(x2,x3),(x4,x5,x6),x7,x8,x9,x10,x11,x12) x13⟩
def tU.con:Con:=⟨29,aHh,aTu,false,fun (x0,x1,x2,x3,x4,x5,x6,x7,x8,x9,x10,x11,x12)=>tU ((x0,x1),(x2,x3),(x4,x5,x6),x7,x8,x9,x10,x11,x12)⟩
def wO.con:Con:=⟨30,aHh,aSp,false,fun (x0,x1,x2,x3,x4,x5,x6,x7,x8,x9,x10,x11,x12)=>wO ((x0,x1),(x2,x3),(x4,x5,x6),x7,x8,x9,x10,x11,x12)⟩
def gS.con:Con:=⟨37,aHh,sh2,false,fun (x0,x1,x2,x3,x4,x5,x6,x7,x8,x9,x10,x11,x12)=>gS ((x0,x1),(x2,x3),(x4,x5,x6),x7,x8,x9,x10,x11,x12)⟩
def wQ.con:Con:=⟨294,bOz,⟨[(0,bHk)],[]⟩,false,fun (x0,x1,x2,x3,x4,x5,x6,x7,x8,x9,x10,x11,x12,x13,x14,x15)=>wQ (x0,x1) x2 x3 x4 x5 (x6,x7,x8,x9,x10,x11,x12,x13,x14,x15)⟩
def tH.con:Con:=⟨198,bQ2,⟨[(0,.agg [.var ti,.row 0,.var ti,.var ti,.var ti,.var (.sl tPp),.var ti,.var ti,.var ti,.var ti,.var ti,.var (.sl tb)])],[(0,aMn)]⟩,false,fun (x0,x1,x2,x3,x4,x5,x6,x7,x8,x9,x10,x11,x12,x13)=>tH (x0,x1) x2 x3 (x4,x5,x6,x7,x8,x9,x10,x11,x12,x13)⟩
def vV.con:Con:=⟨115,bRg,sh1,false,fun (x0,x1,x2,x3,x4)=>vV (x0,x1) x2 x3 x4⟩
def pO.con:Con:=⟨33,bNm,sh2,false,fun (x0,x1,x2,x3,x4,x5,x6,x7,x8,x9,x10,x11,x12,x13,x14,x15,x16,x17,x18,x19,x20,x21)=>pO ((x0,x1),(x2,x3),(x4,x5,x6),x7,x8,x9,x10,x11,x12) (x13,x14,x15,x16,x17,x18,x19,x20,x21)⟩
def gM.con:Con:=⟨38,aHh,sh2,false,fun (x0,x1,x2,x3,x4,x5,x6,x7,x8,x9,x10,x11,x12)=>gM ((x0,x1),(x2,x3),(x4,x5,x6),x7,x8,x9,x10,x11,x12)⟩
def tO.con:Con:=⟨297,bQ2,⟨[(0,.agg [.var ti,.row 0,.var ti,.var ti,.var ti,.row 1,.var ti,.var ti,.var ti,.var ti,.var ti,.row 2])],[(0,aMn),(1,ow4),(2,ow6)]⟩,false,fun (x0,x1,x2,x3,x4,x5,x6,x7,x8,x9,x10,x11,x12,x13)=>tO (x0,x1) x2 x3 (x4,x5,x6,x7,x8,x9,x10,x11,x12,x13)⟩
def xB.con:Con:=⟨200,bRg,sh1,false,fun (x0,x1,x2,x3,x4)=>xB (x0,x1) x2 x3 x4⟩
def wG.con:Con:=⟨116,⟨[e17,e27,e4],[]⟩,sh1,false,fun (x0,x1,x2,x3,x4,x5,x6,x7,x8,x9,x10,x11,x12,x13,x14)=>wG ((x0,x1),(x2,x3),(x4,x5,x6),x7,x8,x9,x10,x11,x12) x13 x14⟩
def pQ.con:Con:=⟨34,bNm,sh2,false,fun (x0,x1,x2,x3,x4,x5,x6,x7,x8,x9,x10,x11,x12,x13,x14,x15,x16,x17,x18,x19,x20,x21)=>pQ ((x0,x1),(x2,x3),(x4,x5,x6),x7,x8,x9,x10,x11,x12) (x13,x14,x15,x16,x17,x18,x19,x20,x21)⟩
def aBa.con:Con:=⟨35,aHh,sh1,false,fun (x0,x1,x2,x3,x4,x5,x6,x7,x8,x9,x10,x11,x12)=>aBa ((x0,x1),(x2,x3),(x4,x5,x6),x7,x8,x9,x10,x11,x12)⟩
def aBj.con:Con:=⟨36,aHh,sh1,false,fun (x0,x1,x2,x3,x4,x5,x6,x7,x8,x9,x10,x11,x12)=>aBj ((x0,x1),(x2,x3),(x4,x5,x6),x7,x8,x9,x10,x11,x12)⟩
def l_FnSettling.con:Con:=⟨4,sh6,sh1,false,fun x=>l_FnSettling x⟩
end

end Go.Proofs.YtcppmcbkokgfcaaGreat
