/-
  Contracts of the functions of the program. Conditions: none.
-/
import Derived.Test.YtnkjolpkcmgcaaaGreatT0FnDetour
import Derived.Test.YtnkjolpkcmgcaaaGreatProg
import Derived.KernelRfl
set_option linter.unusedVariables false
set_option linter.unusedSimpArgs false
set_option maxRecDepth 100000
namespace Go.Proofs.YtnkjolpkcmgcaaaGreat
open Go.Ab Go.V
noncomputable section
theorem follows:Tryz.prog.follows .mixedOrders=true:=by kernel_rfl
theorem _root_.Go.V.Con.Ok.c{P:Program}{c:Con}{E:List Con}(h:c.Ok P)(k:aDm P E):aDm P (c::E):=⟨h,k⟩
theorem fk{E:List Con}{c:Con}{fn:Func}(hf:Tryz.prog.funcs[c.f]? =some fn)(k:aDm Tryz.prog E)(pl:Plan)(e:∀x,bOc Tryz.prog E fn pl c.pre c.post x=c.sem x:=by intro x;kernel_rfl)(hn:(fn.name=="runtime.NumGoroutine")=false:=by rfl):c.Ok Tryz.prog:=bYf hf hn follows (aDm.mem k) λx y h=>(e x).trans h
theorem nok:aDm Tryz.prog []:=trivial
abbrev cn(f:FuncId)(a b:Sh)(s:sU a.tys->Option (sU b.tys)):Con:=⟨f,a,b,false,s⟩
abbrev OK(c:Con):Prop:=c.Ok Tryz.prog
abbrev _root_.Go.V.Plan.q(p:Plan):Plan:= .seq .z p
def ow1:OT:= .row 3 1 ti true
def ow2:OT:= .row 207 3 tSg true
def ow3:OT:= .row 46 1 tPt true
def ow4:OT:= .row 71 9 tFl false
def ow5:OT:= .row 256 5 tRs true
def ow6:OT:= .row 175 3 tAS true
def ow7:OT:= .row 167 5 tLk true
def ow8:OT:= .row 104 4 tPp true
def ow9:OT:= .row 50 12 tFy false
def bOa:OT:= .row 73 4 tIb false
def aY8:OT:= .row 46 1 tPt false
def aGd:OT:= .row 195 1 tMs true
def aE1:OT:= .row 197 3 tRv true
def aYa:OT:= .row 106 5 bG true
def aCz:OT:= .row 191 4 tUs true
def aA2:OT:= .row 50 12 tFy true
def aF8:OT:= .row 5 1 tb true
def aC1:OT:= .row 73 4 tIb true
def aN7:OT:= .row 164 3 lJ true
def aGf:OT:= .row 71 9 tFl true
def bAi:OT:= .row 104 4 tPp false
def ob1:OT:= .box [.var (.sl tb),.var ti,.var ti]
def ob2:OT:= .box [.var (.sl tAS),.var (.sl tLk),.var (.sl tSg),.var (.sl tSg),.var ti,.var (.sl tRs),.var (.sl tUs),.var ti,.var (.sl ti),.row 0,.row 1,.row 2,.var ti]
def ob3:OT:= .box [.row 300001]
def ob4:OT:= .box [.row 300001,.row 300003]
def ob5:OT:= .box [.var (.sl tAS),.var (.sl tLk),.var (.sl tSg),.var (.sl tSg),.var ti,.var (.sl tRs),.var (.sl tUs),.var ti,.var (.sl ti),.row 300001,.row 300002,.row 300003,.var ti]
def ob6:OT:= .box [.var ti,.var ti,.var ti,.var (.sl tPp),.var ti,.var ti,.var ti,.var ti,.var ti,.var (.sl tb)]
def ob7:OT:= .box [.row 300001,.nil]
def ob8:OT:= .box [.var ti,.var ti,.var ti,.row 300001]
def ob9:OT:= .box [.row 1208,.row 1209,.row 1272,.row 1273,.var ti,.row 1336,.row 1337,.var ti,.row 1400,.row 300001,.nil,.nil,.var ti]
def bPv:OT:= .box [.row 1208,.row 1209,.row 1272,.row 1273,.var ti,.row 1336,.row 1337,.var ti,.row 1400,.row 300001,.row 300002,.nil,.var ti]
def bWu:OT:= .box [.var ti,.var ti,.var ti,.var ti,.var ti,.var (.sl tPp),.var ti,.var ti,.var ti,.var ti,.var ti,.var (.sl tb)]
def bWo:OT:= .box [.var ti,.var ti,.row 300001]
def bWk:OT:= .box [.row 1160,.row 1208]
def bVh:OT:= .box [.var ti,.var ti,.var ti]
def bV3:OT:= .box [.var (.sl tAS),.var (.sl tLk)]
def bWd:OT:= .box [.row 300001,.row 300002]
def bWr:OT:= .box [.row 300007,.row 300008,.row 300009,.row 300010,.var ti,.row 300006,.row 300011,.var ti,.row 300012,.row 300013,.row 300014,.row 300015,.var ti]
def bXc:OT:= .box [.var ti,.var ti,.var ti,.var ti,.row 300003,.row 300004,.var ti,.var ti,.row 300005]
def bW1:OT:= .box [.var ti,.var .bool,.var ti]
def bV8:OT:= .box [.row 1208,.row 1209,.row 1272,.row 1273,.var ti,.row 1336,.row 1337,.var ti,.row 1400,.row 300001,.row 300002,.row 300003,.var ti]
def bXn:OT:= .box [.var ti,.var ti,.var ti,.var ti,.row 1144,.row 1145,.var ti,.var ti,.row 1146]
def bZj:OT:= .box [.var ti,.var ti,.var ti,.row 2584,.var ti,.var ti,.var ti,.var ti,.var ti,.row 2585]
def bZl:OT:= .box [.var ti,.var ti,.var ti,.row 3176,.var ti,.var ti,.var ti,.var ti,.var ti,.row 3177]
def ag1:ST:= .agg [.var (.sl tAS),.var (.sl tLk)]
def ag2:ST:= .agg [.var ti,.var ti,.var (.sl bG)]
def ag3:ST:= .agg [.var (.sl tPp)]
def ag4:ST:= .agg [.var ti,.var ti,.var ti,.var (.sl tPp),.var ti,.var ti,.var ti,.var ti,.var ti,.var (.sl tb)]
def ag5:ST:= .agg [.var ti,.var ti,.var ti,.var ti,.var ti]
def ag6:ST:= .agg [.var ti,.var ti,.var ti,.var (.sl bG)]
def ag7:ST:= .agg [.var (.sl tSg),.var (.sl tSg)]
def ag8:ST:= .agg [.var ti,.var ti,.var ti,.var ti,.var (.sl tMs),.var (.sl tPt),.var ti,.var ti,.var (.sl tRv)]
def ag9:ST:= .agg [.row 0,.row 1,.row 2,.row 3,.var ti,.row 4,.row 5,.var ti,.row 6,.row 7,.row 8,.row 9,.var ti]
def bZp:ST:= .agg [.var ti,.var ti,.var ti,.var ti,.row 0,.row 1,.var ti,.var ti,.row 2]
def bZg:ST:= .agg [.row 0]
def bY9:ST:= .agg [.var ti,.var ti,.var ti,.row 0,.var ti,.var ti,.var ti,.var ti,.var ti,.row 1]
def bY8:ST:= .agg [.var (.sl tAS),.var (.sl tLk),.var (.sl tSg),.var (.sl tSg),.var ti,.var (.sl tRs),.var (.sl tUs),.var ti,.var (.sl ti),.var (.sl tFy),.var (.sl tFl),.var (.sl tIb),.var ti]
def bZq:ST:= .agg [.var ti,.var ti,.var ti,.row 0]
def bAn:ST:= .agg [.var ti,.var ti,.var ti]
def bZa:ST:= .agg [.var ti,.var (.sl tRs),.var (.sl tUs)]
def bWs:ST:= .agg [.var ti,.var ti,.var ti,.var (.sl tMs)]
def bOg:ST:= .agg [.row 0,.row 1]
def bW8:ST:= .agg [.var ti,.row 0,.row 1]
def bV7:ST:= .agg [.var ti,.var ti,.row 0]
def bE4:ST:= .agg [.var ti,.var ti,.var ti,.var ti,.var ti,.var (.sl tPp),.var ti,.var ti,.var ti,.var ti,.var ti,.var (.sl tb)]
def bVm:ST:= .agg [.var ti,.var ti,.var (.sl tb),.var ti,.var ti,.var ti,.var ti,.var ti,.var (.sl tPp),.var ti,.var ti,.var ti,.var ti,.var ti,.var (.sl tb)]
def vr1:ST:= .one (.var ti)
def vr2:ST:= .one (.var .bool)
def vr3:ST:= .one (.row 300001)
def vr4:ST:= .one (.row 0)
def vr5:ST:= .one (.var (.sl ti))
def vr6:ST:= .one (.var (.sl tb))
def vr7:ST:= .one (.ptr 1000000 0)
def vr8:ST:= .one (.row 6)
def vr9:ST:= .one (.row 7)
def bOv:ST:= .one (.var (.sl tPt))
def aTo:ST:= .one (.row 10)
def bZm:ST:= .one (.row 1624)
def bMz:ST:= .one (.var (.sl bG))
def bZr:ST:= .one (.var (.sl tRs))
def aYk:ST:= .one (.row 15)
def bZn:ST:= .one (.var (.sl tRv))
def bZf:ST:= .one (.row 5)
def bHh:ST:= .one (.var (.sl tMs))
def bO1:ST:= .one (.ptr 13 0)
def bM9:ST:= .one (.var (.sl tSg))
def bWc:ST:= .one (.var (.sl tIb))
def bM2:ST:= .one (.row 127)
def bMf:ST:= .one (.ptr 7 0)
def bPc:ST:= .one (.ptr 6 0)
def bWv:ST:= .one (.ptr 8 0)
def bNg:ST:= .one (.row 300002)
def e1:Nat×ST:=(1,vr1)
def e2:Nat×ST:=(0,vr1)
def e3:Nat×ST:=(0,vr2)
def e4:Nat×ST:=(2,vr1)
def e5:Nat×ST:=(0,ag1)
def e6:Nat×ST:=(0,vr4)
def e7:Nat×ST:=(3,vr1)
def e8:Nat×ST:=(5,vr1)
def e9:Nat×ST:=(3,vr3)
def e10:Nat×ST:=(4,vr1)
def e11:Nat×ST:=(4,vr2)
def e12:Nat×ST:=(11,vr3)
def e13:Nat×ST:=(0,ag2)
def e14:Nat×ST:=(0,ag3)
def e15:Nat×ST:=(9,vr1)
def e16:Nat×ST:=(6,vr1)
def e17:Nat×ST:=(0,vr7)
def e18:Nat×ST:=(2,vr2)
def e19:Nat×ST:=(3,vr8)
def e20:Nat×ST:=(1,ag3)
def e21:Nat×ST:=(8,vr1)
def e22:Nat×ST:=(0,vr6)
def e23:Nat×ST:=(1,ag2)
def e24:Nat×ST:=(0,ag8)
def e25:Nat×ST:=(5,vr3)
def e26:Nat×ST:=(5,vr9)
def e27:Nat×ST:=(9,bZm)
def e28:Nat×ST:=(0,ag6)
def e29:Nat×ST:=(0,bOv)
def e30:Nat×ST:=(0,ag4)
def e31:Nat×ST:=(13,vr1)
def e32:Nat×ST:=(0,ag5)
def e33:Nat×ST:=(1,vr2)
def e34:Nat×ST:=(7,vr1)
def e35:Nat×ST:=(10,vr1)
def e36:Nat×ST:=(0,bZr)
def e37:Nat×ST:=(0,vr5)
def e38:Nat×ST:=(0,ag7)
def e39:Nat×ST:=(0,ag9)
def e40:Nat×ST:=(0,bZp)
def e41:Nat×ST:=(0,bZg)
def e42:Nat×ST:=(0,bY9)
def e43:Nat×ST:=(0,bY8)
def e44:Nat×ST:=(7,aTo)
def e45:Nat×ST:=(0,bZq)
def e46:Nat×ST:=(0,bZa)
def e47:Nat×ST:=(0,bZn)
def e48:Nat×ST:=(6,vr2)
def e49:Nat×ST:=(12,vr1)
def e50:Nat×ST:=(5,vr5)
def e51:Nat×ST:=(1,vr5)
def e52:Nat×ST:=(0,bMz)
def e53:Nat×ST:=(1,ag7)
def e54:Nat×ST:=(12,vr2)
def e55:Nat×ST:=(11,vr1)
def e56:Nat×ST:=(34,vr2)
def e57:Nat×ST:=(0,bWs)
def e58:Nat×ST:=(3,bZf)
def e59:Nat×ST:=(7,aYk)
def e60:Nat×ST:=(7,.one (.row 18))
def e61:Nat×ST:=(7,.one (.row 9))
def e62:Nat×ST:=(11,.one (.row 14))
def o1:Nat×OT:=(1000000,ob1)
def o2:Nat×OT:=(300001,aY8)
def o3:Nat×OT:=(1,ow4)
def o4:Nat×OT:=(1000000,ob2)
def o5:Nat×OT:=(0,ow9)
def o6:Nat×OT:=(2,bOa)
def o7:Nat×OT:=(300001,ow1)
def o8:Nat×OT:=(0,ow8)
def o9:Nat×OT:=(0,aGd)
def o10:Nat×OT:=(6,ow1)
def o11:Nat×OT:=(1624,ow3)
def o12:Nat×OT:=(0,ow1)
def o13:Nat×OT:=(0,ow6)
def o14:Nat×OT:=(1,ow7)
def o15:Nat×OT:=(300001,ow6)
def o16:Nat×OT:=(0,aYa)
def o17:Nat×OT:=(300001,ow3)
def o18:Nat×OT:=(0,ow5)
def o19:Nat×OT:=(1,aF8)
def o20:Nat×OT:=(15,ow3)
def o21:Nat×OT:=(300001,ow2)
def o22:Nat×OT:=(2,ow2)
def o23:Nat×OT:=(3,ow2)
def o24:Nat×OT:=(4,ow5)
def o25:Nat×OT:=(5,aCz)
def o26:Nat×OT:=(7,aA2)
def o27:Nat×OT:=(9,aC1)
def o28:Nat×OT:=(1,ow3)
def o29:Nat×OT:=(2,aE1)
def o30:Nat×OT:=(300003,ow7)
def o31:Nat×OT:=(300001,aYa)
def o32:Nat×OT:=(300001,ow8)
def o33:Nat×OT:=(300002,ow4)
def o34:Nat×OT:=(0,ow2)
def o35:Nat×OT:=(3,ob4)
def o36:Nat×OT:=(300001,ow9)
def o37:Nat×OT:=(300003,bOa)
def o38:Nat×OT:=(0,ow3)
def o39:Nat×OT:=(300001,aN7)
def o40:Nat×OT:=(8,aGf)
def o41:Nat×OT:=(10,aN7)
def o42:Nat×OT:=(10,ow3)
def o43:Nat×OT:=(1000000,ob5)
def o44:Nat×OT:=(300001,ow5)
def o45:Nat×OT:=(300001,aE1)
def o46:Nat×OT:=(0,.row 175 3 tAS false)
def o47:Nat×OT:=(1,.row 167 5 tLk false)
def k0:Nat×ST:=(0,.keep)
def k1:Nat×ST:=(1,.keep)
def k2:Nat×ST:=(2,.keep)
def k3:Nat×ST:=(3,.keep)
def k4:Nat×ST:=(4,.keep)
def k5:Nat×ST:=(5,.keep)
def k6:Nat×ST:=(6,.keep)
def k7:Nat×ST:=(7,.keep)
def k8:Nat×ST:=(8,.keep)
def k9:Nat×ST:=(9,.keep)
def k10:Nat×ST:=(10,.keep)
def k11:Nat×ST:=(11,.keep)
def k12:Nat×ST:=(12,.keep)
def k13:Nat×ST:=(13,.keep)
def k14:Nat×ST:=(14,.keep)
def k15:Nat×ST:=(15,.keep)
def k16:Nat×ST:=(16,.keep)
def k17:Nat×ST:=(17,.keep)
def k18:Nat×ST:=(18,.keep)
def k19:Nat×ST:=(19,.keep)
def k20:Nat×ST:=(20,.keep)
def k21:Nat×ST:=(21,.keep)
def k22:Nat×ST:=(22,.keep)
def k23:Nat×ST:=(23,.keep)
def k25:Nat×ST:=(25,.keep)
def k26:Nat×ST:=(26,.keep)
def k28:Nat×ST:=(28,.keep)
def k30:Nat×ST:=(30,.keep)
def k31:Nat×ST:=(31,.keep)
def k32:Nat×ST:=(32,.keep)
def k33:Nat×ST:=(33,.keep)
def k35:Nat×ST:=(35,.keep)
def k36:Nat×ST:=(36,.keep)
def k37:Nat×ST:=(37,.keep)
def k38:Nat×ST:=(38,.keep)
def k39:Nat×ST:=(39,.keep)
def k49:Nat×ST:=(49,.keep)
def k50:Nat×ST:=(50,.keep)
def k51:Nat×ST:=(51,.keep)
def k52:Nat×ST:=(52,.keep)
def k53:Nat×ST:=(53,.keep)
def k54:Nat×ST:=(54,.keep)
def k56:Nat×ST:=(56,.keep)
def k57:Nat×ST:=(57,.keep)
def k58:Nat×ST:=(58,.keep)
def k64:Nat×ST:=(64,.keep)
def k65:Nat×ST:=(65,.keep)
def k66:Nat×ST:=(66,.keep)
def k67:Nat×ST:=(67,.keep)
def k72:Nat×ST:=(72,.keep)
def k73:Nat×ST:=(73,.keep)
def k74:Nat×ST:=(74,.keep)
def k87:Nat×ST:=(87,.keep)
def k88:Nat×ST:=(88,.keep)
def bGm:Nat×ST:=(100,.keep)
def aIy:Nat×ST:=(101,.keep)
def aK0:Nat×ST:=(102,.keep)
def bFi:Nat×ST:=(103,.keep)
def bVy:Nat×ST:=(106,.keep)
def bVw:Nat×ST:=(107,.keep)
def bY6:Nat×ST:=(108,.keep)
def bZo:Nat×ST:=(128,.keep)
def bZc:Nat×ST:=(129,.keep)
def bOb:Nat×ST:=(147,.keep)
def bMp:Nat×ST:=(148,.keep)
def bM4:Nat×ST:=(149,.keep)
def bWg:Nat×ST:=(150,.keep)
def bY7:Nat×ST:=(151,.keep)
def bMx:Nat×ST:=(163,.keep)
def bM8:Nat×ST:=(164,.keep)
def bXk:Nat×ST:=(165,.keep)
def bY5:Nat×ST:=(169,.keep)
def bZb:Nat×ST:=(170,.keep)
def j0:Nat×OT:=(0,.keep)
def j1:Nat×OT:=(1,.keep)
def j2:Nat×OT:=(2,.keep)
def j3:Nat×OT:=(3,.keep)
def j4:Nat×OT:=(4,.keep)
def j5:Nat×OT:=(5,.keep)
def j6:Nat×OT:=(6,.keep)
def j7:Nat×OT:=(7,.keep)
def j8:Nat×OT:=(8,.keep)
def j9:Nat×OT:=(9,.keep)
def j10:Nat×OT:=(10,.keep)
def j11:Nat×OT:=(11,.keep)
def j12:Nat×OT:=(12,.keep)
def j13:Nat×OT:=(13,.keep)
def j14:Nat×OT:=(14,.keep)
def j15:Nat×OT:=(15,.keep)
def j16:Nat×OT:=(16,.keep)
def j19:Nat×OT:=(19,.keep)
def j28:Nat×OT:=(28,.keep)
def j30:Nat×OT:=(30,.keep)
def bRc:Nat×OT:=(1080,.keep)
def bQi:Nat×OT:=(1081,.keep)
def bFz:Nat×OT:=(1112,.keep)
def bQd:Nat×OT:=(1113,.keep)
def bQ3:Nat×OT:=(1114,.keep)
def aB3:Nat×OT:=(1128,.keep)
def bFo:Nat×OT:=(1129,.keep)
def bHp:Nat×OT:=(1130,.keep)
def bF2:Nat×OT:=(1131,.keep)
def bHw:Nat×OT:=(1132,.keep)
def bGg:Nat×OT:=(1133,.keep)
def bE0:Nat×OT:=(1134,.keep)
def bHl:Nat×OT:=(1135,.keep)
def bQn:Nat×OT:=(1136,.keep)
def bDt:Nat×OT:=(1137,.keep)
def bQ1:Nat×OT:=(1144,.keep)
def bQw:Nat×OT:=(1145,.keep)
def bRw:Nat×OT:=(1146,.keep)
def aQg:Nat×OT:=(1160,.keep)
def aQh:Nat×OT:=(1176,.keep)
def bGd:Nat×OT:=(1177,.keep)
def bFb:Nat×OT:=(1178,.keep)
def aPg:Nat×OT:=(1192,.keep)
def bQf:Nat×OT:=(1193,.keep)
def zD:Nat×OT:=(1208,.keep)
def aE2:Nat×OT:=(1209,.keep)
def bYm:Nat×OT:=(1224,.keep)
def aLi:Nat×OT:=(1256,.keep)
def aL9:Nat×OT:=(1257,.keep)
def aL5:Nat×OT:=(1258,.keep)
def aLk:Nat×OT:=(1259,.keep)
def aMc:Nat×OT:=(1260,.keep)
def aLl:Nat×OT:=(1261,.keep)
def aLt:Nat×OT:=(1262,.keep)
def aMa:Nat×OT:=(1263,.keep)
def aMh:Nat×OT:=(1264,.keep)
def aL8:Nat×OT:=(1265,.keep)
def aAx:Nat×OT:=(1272,.keep)
def aCa:Nat×OT:=(1273,.keep)
def bGk:Nat×OT:=(1288,.keep)
def aL0:Nat×OT:=(1304,.keep)
def aE7:Nat×OT:=(1336,.keep)
def aF6:Nat×OT:=(1337,.keep)
def aAy:Nat×OT:=(1400,.keep)
def bX7:Nat×OT:=(1401,.keep)
def bRv:Nat×OT:=(1416,.keep)
def aQt:Nat×OT:=(1560,.keep)
def aQs:Nat×OT:=(1561,.keep)
def aPh:Nat×OT:=(1562,.keep)
def aP0:Nat×OT:=(1563,.keep)
def aRv:Nat×OT:=(1564,.keep)
def aQn:Nat×OT:=(1565,.keep)
def aOr:Nat×OT:=(1566,.keep)
def aPm:Nat×OT:=(1567,.keep)
def aOy:Nat×OT:=(1568,.keep)
def aQ1:Nat×OT:=(1569,.keep)
def bYc:Nat×OT:=(1576,.keep)
def bYu:Nat×OT:=(1608,.keep)
def bYn:Nat×OT:=(1609,.keep)
def aDi:Nat×OT:=(1624,.keep)
def aO1:Nat×OT:=(1625,.keep)
def aQl:Nat×OT:=(1626,.keep)
def aPv:Nat×OT:=(1627,.keep)
def aRe:Nat×OT:=(1628,.keep)
def aOw:Nat×OT:=(1629,.keep)
def aQi:Nat×OT:=(1630,.keep)
def aQv:Nat×OT:=(1631,.keep)
def aRi:Nat×OT:=(1632,.keep)
def aPs:Nat×OT:=(1633,.keep)
def wI:Nat×OT:=(1672,.keep)
def wG:Nat×OT:=(1720,.keep)
def bQr:Nat×OT:=(1736,.keep)
def bYl:Nat×OT:=(1755,.keep)
def bX9:Nat×OT:=(1756,.keep)
def tG:Nat×OT:=(1768,.keep)
def aV1:Nat×OT:=(1784,.keep)
def aV0:Nat×OT:=(1785,.keep)
def aWm:Nat×OT:=(1786,.keep)
def aV4:Nat×OT:=(1787,.keep)
def aWo:Nat×OT:=(1788,.keep)
def aWe:Nat×OT:=(1789,.keep)
def aV7:Nat×OT:=(1790,.keep)
def aV2:Nat×OT:=(1791,.keep)
def aV8:Nat×OT:=(1792,.keep)
def aWj:Nat×OT:=(1793,.keep)
def tA:Nat×OT:=(1816,.keep)
def aPy:Nat×OT:=(1848,.keep)
def aQ5:Nat×OT:=(1849,.keep)
def aO6:Nat×OT:=(1850,.keep)
def aQz:Nat×OT:=(1851,.keep)
def aO2:Nat×OT:=(1852,.keep)
def aQ8:Nat×OT:=(1853,.keep)
def aPl:Nat×OT:=(1854,.keep)
def aPu:Nat×OT:=(1855,.keep)
def aPw:Nat×OT:=(1856,.keep)
def aQo:Nat×OT:=(1857,.keep)
def bX2:Nat×OT:=(1944,.keep)
def bG5:Nat×OT:=(2312,.keep)
def bHq:Nat×OT:=(2313,.keep)
def bEq:Nat×OT:=(2314,.keep)
def bGl:Nat×OT:=(2315,.keep)
def bGp:Nat×OT:=(2316,.keep)
def bEg:Nat×OT:=(2317,.keep)
def bHn:Nat×OT:=(2318,.keep)
def bG9:Nat×OT:=(2319,.keep)
def bRi:Nat×OT:=(2320,.keep)
def bDw:Nat×OT:=(2321,.keep)
def eM:Nat×OT:=(300001,.keep)
def aLv:Nat×OT:=(300002,.keep)
def aBq:Nat×OT:=(300003,.keep)
def aSp:Nat×OT:=(300006,.keep)
def aTk:Nat×OT:=(300007,.keep)
def aSy:Nat×OT:=(300008,.keep)
def aSq:Nat×OT:=(300009,.keep)
def aS4:Nat×OT:=(300010,.keep)
def aS9:Nat×OT:=(300011,.keep)
def aTm:Nat×OT:=(300012,.keep)
def aSc:Nat×OT:=(300013,.keep)
def aTp:Nat×OT:=(300014,.keep)
def aSl:Nat×OT:=(300015,.keep)
def cD:Nat×OT:=(1000000,.keep)
def sh1:Sh:=⟨[e3],[]⟩
def sh2:Sh:=⟨[e2],[]⟩
def sh3:Sh:=⟨[],[]⟩
def sh4:Sh:=⟨[e11],[]⟩
def sh5:Sh:=⟨[e2,e1],[]⟩
def sh6:Sh:=⟨[e14],[]⟩
def sh7:Sh:=⟨[e18],[]⟩
def sh8:Sh:=⟨[e6],[o12]⟩
def sh9:Sh:=⟨[e22],[]⟩
def aGq:Sh:=⟨[e29],[]⟩
def aJe:Sh:=⟨[e30],[]⟩
def aKz:Sh:=⟨[e13],[]⟩
def aJz:Sh:=⟨[k1],[j1]⟩
def aN2:Sh:=⟨[e5,e1,e4],[]⟩
def aN6:Sh:=⟨[e41],[o8]⟩
def aNa:Sh:=⟨[e6],[o38]⟩
def aN8:Sh:=⟨[e24],[]⟩
def aNm:Sh:=⟨[e28,e1],[]⟩
def aNx:Sh:=⟨[],[o5,o3,o6,o4]⟩
def aNn:Sh:=⟨[e48],[]⟩
def aSb:Sh:=⟨[e13,e1],[]⟩
def aSe:Sh:=⟨[e37],[]⟩
def aS2:Sh:=⟨[e6],[o34]⟩
def aTj:Sh:=⟨[e40],[o9,o28,o29]⟩
def aS3:Sh:=⟨[e42],[o8,o19]⟩
def aS7:Sh:=⟨[e5,e20],[]⟩
def aR9:Sh:=⟨[k2,k3,e8],[j2,j3]⟩
def aY9:Sh:=⟨[e5,e1],[]⟩
def aZk:Sh:=⟨[e32],[]⟩
def aXu:Sh:=⟨[e5,e23],[]⟩
def aZb:Sh:=⟨[e39],[o13,o14,o22,o23,o24,o25,o10,o26,o40,o27]⟩
def aX8:Sh:=⟨[e43],[]⟩
def bAh:Sh:=⟨[e52],[]⟩
def bAc:Sh:=⟨[k0,k1,e54],[]⟩
def aZ0:Sh:=⟨[e7],[]⟩
def bHc:Sh:=⟨[e2,e51],[]⟩
def bDx:Sh:=⟨[e13,e23],[]⟩
def bGw:Sh:=⟨[e5],[]⟩
def bGx:Sh:=⟨[(0,bW8)],[o18,(1,aCz)]⟩
def bE8:Sh:=⟨[e45],[o16]⟩
def bD9:Sh:=⟨[e45],[o9]⟩
def bEe:Sh:=⟨[e5,(1,ag6)],[]⟩
def bGs:Sh:=⟨[e14,e20],[]⟩
def bFa:Sh:=⟨[e6],[(0,aE1)]⟩
def bF6:Sh:=⟨[k0,k1,e8],[]⟩
def bPu:Sh:=⟨[e17],[o1]⟩
def bO0:Sh:=⟨[e2],[o1]⟩
def bNi:Sh:=⟨[e17,e1],[o1]⟩
def bNj:Sh:=⟨[e2,e1,e4],[]⟩
def bOx:Sh:=⟨[e32,e1,e4],[]⟩
def bNz:Sh:=⟨[e37,e1],[]⟩
def bPb:Sh:=⟨[e2,e1,e4,(3,ag5)],[]⟩
def bPo:Sh:=⟨[(0,bV7)],[o16]⟩
def bNl:Sh:=⟨[e5,e53,e4,e7],[]⟩
def bM1:Sh:=⟨[e28],[]⟩
def bOj:Sh:=⟨[(0,bAn)],[]⟩
def bNw:Sh:=⟨[e57],[]⟩
def bO7:Sh:=⟨[e38,e1,e4],[]⟩
def bMw:Sh:=⟨[e6],[(0,aN7)]⟩
def bO6:Sh:=⟨[e6],[o18]⟩
def bOs:Sh:=⟨[e6],[o16]⟩
def bNe:Sh:=⟨[e42,e33],[o8,o19]⟩
def bNh:Sh:=⟨[e17,e1,e4,(3,ag4)],[o4,o5,o3,o6]⟩
def bNr:Sh:=⟨[e57,(1,ag4)],[]⟩
def bNb:Sh:=⟨[(8,vr2)],[]⟩
def bNa:Sh:=⟨[k2,k3],[j2,(3,ob3),o32]⟩
def bMg:Sh:=⟨[e9],[o7]⟩
def bOo:Sh:=⟨[e12],[o2]⟩
def bVk:Sh:=⟨[e5,e1,e4,(3,ag5)],[]⟩
def bVz:Sh:=⟨[e52,(1,bMz)],[]⟩
def bVf:Sh:=⟨[(0,bOg)],[o34,(1,ow2)]⟩
def bXa:Sh:=⟨[(0,bOg)],[o13,o14]⟩
def bW4:Sh:=⟨[e24,(1,vr6)],[]⟩
def bXe:Sh:=⟨[e40,e33],[o9,o28,o29]⟩
def bXf:Sh:=⟨[(0,bWc),e1,e4],[]⟩
def bU0:Sh:=⟨[e13,e23,e18,(3,ag2)],[]⟩
def bWh:Sh:=⟨[e38,e23,e4,e7,(4,ag2)],[]⟩
def bU1:Sh:=⟨[e28,(1,ag6)],[]⟩
def bUz:Sh:=⟨[e5,e53,e4,e7,e10],[]⟩
def bXg:Sh:=⟨[e14,(1,bAn)],[]⟩
def bWp:Sh:=⟨[e47,(1,bOv),e4],[]⟩
def bXu:Sh:=⟨[e24,(1,bOv),e4],[]⟩
def bWa:Sh:=⟨[e43,(1,ag8)],[]⟩
def bXv:Sh:=⟨[e36,e1,e4,e7],[]⟩
def bXp:Sh:=⟨[e46,e1,e4,e7],[]⟩
def bW9:Sh:=⟨[e36,e1,e4,e7,e10],[]⟩
def bXi:Sh:=⟨[e46,e1,e4,e7,e10],[]⟩
def bVl:Sh:=⟨[e5,e1,e4,e7,e10,(5,ag4)],[]⟩
def bVd:Sh:=⟨[e17],[o4,o5,o3,o6]⟩
def bVb:Sh:=⟨[e3],[o5,o3,o6,o4]⟩
def bXs:Sh:=⟨[e17,e1],[o4,o5,o3,o6]⟩
def bWw:Sh:=⟨[k1,k2,e25,k6],[j2,o7]⟩
def bXo:Sh:=⟨[k2,k3,(37,vr2)],[j2,j3]⟩
def bWi:Sh:=⟨[k0,k2,k3,k4,k8],[j2,o35,o15,o30,o1]⟩
def bXq:Sh:=⟨[k9,(30,vr2)],[j9]⟩
def bUs:Sh:=⟨[k1,e58,e10],[j1,(5,ow1)]⟩
def bUq:Sh:=⟨[k2,k3,e50,e16],[j2,j3]⟩
def bU9:Sh:=⟨[k2,k3,k5,k6],[j2,j3]⟩
def bV6:Sh:=⟨[k2],[(2,.box [.row 3,.row 7]),(3,ow6),(7,ow7)]⟩
def bRh:Sh:=⟨[k1,k2,k3,e10],[j1,j2,(3,ob3),o32]⟩
def bRz:Sh:=⟨[k6,k7],[j6,(7,ob8),o31]⟩
def bRj:Sh:=⟨[k1,k2,k3,e59],[j3,o20]⟩
def bQ0:Sh:=⟨[k2,k3,(31,vr2)],[j2,j3]⟩
def bQl:Sh:=⟨[e19,k4,k5],[o10,aB3]⟩
def bQj:Sh:=⟨[k2,k4,(18,vr2)],[j4]⟩
def bRn:Sh:=⟨[k0,k3,k4,e8],[eM]⟩
def bQp:Sh:=⟨[k0,k1,k12,e31],[]⟩
def bQ6:Sh:=⟨[e9,k6,k7,e21],[o7]⟩
def bRq:Sh:=⟨[e7,k6,k7,e21],[]⟩
def bRx:Sh:=⟨[e1,(5,.one (.row 1112))],[(1112,aF8)]⟩
def bRm:Sh:=⟨[k0,k1,k7,(8,bWv),e15],[j0,j1,j2,j7,(8,bWu),cD]⟩
def bRb:Sh:=⟨[k0,k1,k7,k8,k9,(54,vr2)],[j0,j1,j2,j7,j8,cD]⟩
def bQ5:Sh:=⟨[k0,k1,(11,.one (.ptr 11 0)),e54],[j0,j1,j2,(11,bZj),(2584,ow8),(2585,aF8),cD]⟩
def bQu:Sh:=⟨[k0,k1,k7,k9,(116,vr2)],[j0,j1,j2,j7,cD]⟩
def bRt:Sh:=⟨[k0,k1,k7,(13,bO1)],[j0,j1,j2,j7,(13,bZl),(3176,ow8),(3177,aF8),cD]⟩
def bRf:Sh:=⟨[k0],[o36,o33,o37,o43]⟩
def bQm:Sh:=⟨[k2,k3,k4,k5,k9,k10,e12],[j4,j5,tG,tA,o17]⟩
def bQb:Sh:=⟨[k3,k5,e16,k7,k8,k9],[j5,eM]⟩
def aDp.k:=cn 8 sh9 sh1 aDp
def aAr.k:=cn 40 sh9 ⟨[(0,.one (.ptr 0 0))],[(0,ob1)]⟩ aAr
def oW.k:=cn 169 bPu bO0 λ(a,b,c)=>oW (a,b,c)
def aO.k:=cn 69 bNi bO0 λ(a,b,c,d)=>aO (b,c,d) a
def tJ.k:=cn 398 ⟨[e6,e1],[(0,.row 3 1 ti false)]⟩ sh8 λ(a,b)=>tJ b a
def jY.k:=cn 327 aY9 sh8 λ(a,b,c)=>jY (a,b) c
def sX.k:=cn 251 ⟨[e17,e1,e4,e7],[(1000000,.box [.row 0,.row 1]),o46,o47]⟩ ⟨[],[o46,o47,(1000000,.box [.row 0,.row 1])]⟩ λ(a,b,c,d,e)=>sX (d,e) a b c
def iD.k:=cn 76 bNi ⟨[e3],[o1]⟩ λ(a,b,c,d)=>iD (b,c,d) a
def bB.k:=cn 105 bNj sh1 λ(a,b,c)=>bB a b c
def eV.k:=cn 92 aY9 sh1 λ(a,b,c)=>eV (a,b) c
def pL.k:=cn 203 ⟨[e5,(1,ag5)],[]⟩ sh1 λ(a,b,c,d,e,f,g)=>pL (a,b) (c,d,e,f,g)
def xE.k:=cn 162 bPu ⟨[(0,bOg)],[o13,o14,o1]⟩ λ(a,b,c)=>xE (a,b,c)
def rV.k:=cn 204 bOx sh1 λ(a,b,c,d,e,f,g)=>rV (a,b,c,d,e) f g
def mZ.k:=cn 336 aN2 sh2 λ(a,b,c,d)=>mZ (a,b) c d
def gT.k:=cn 332 aN2 sh2 λ(a,b,c,d)=>gT (a,b) c d
def iB.k:=cn 258 aN2 sh8 λ(a,b,c,d)=>iB (a,b) c d
def kL.k:=cn 259 aN2 sh5 λ(a,b,c,d)=>kL (a,b) c d
def dK.k:=cn 261 aKz sh8 λ(a,b,c)=>dK (a,b,c)
def jQ.k:=cn 260 bNz sh1 λ(a,b)=>jQ a b
def nZ.k:=cn 335 aSb sh8 λ(a,b,c,d)=>nZ (a,b,c) d
def oP.k:=cn 330 sh2 sh1 oP
def uL.k:=cn 403 sh5 sh2 λ(a,b)=>uL a b
def pM.k:=cn 334 bHc sh2 λ(a,b)=>pM a b
def gL.k:=cn 257 aSb sh2 λ(a,b,c,d)=>gL (a,b,c) d
def aFw.k:=cn 433 sh5 sh2 λ(a,b)=>aFw a b
def uS.k:=cn 412 aSe sh2 uS
def sH.k:=cn 402 bHc sh2 λ(a,b)=>sH a b
def uT.k:=cn 333 bPb sh2 λ(a,b,c,d,e,f,g,h)=>uT a b c (d,e,f,g,h)
def fE.k:=cn 256 bPb aZk λ(a,b,c,d,e,f,g,h)=>fE a b c (d,e,f,g,h)
def wF.k:=cn 165 ⟨[e17,(1,ag1),e4],[o1]⟩ ⟨[(0,bV7)],[o16,o1]⟩ λ(a,b,c,d,e,f)=>wF (d,e,f) (a,b) c
def gO.k:=cn 205 aKz bPo λ(a,b,c)=>gO (a,b,c)
def tH.k:=cn 164 aXu bPo λ(a,b,c,d,e)=>tH (a,b) (c,d,e)
def fH.k:=cn 107 ⟨[(0,bM9)],[]⟩ aS2 fH
def mG.k:=cn 399 aZk sh1 λ(a,b,c,d,e)=>mG (a,b,c,d,e)
def iM.k:=cn 328 aXu sh1 λ(a,b,c,d,e)=>iM (a,b) (c,d,e)
def kJ.k:=cn 400 bVk sh1 λ(a,b,c,d,e,f,g,h,i)=>kJ (a,b) c d (e,f,g,h,i)
def gG.k:=cn 329 aXu sh2 λ(a,b,c,d,e)=>gG (a,b) (c,d,e)
def fR.k:=cn 289 aKz sh2 λ(a,b,c)=>fR (a,b,c)
def fL.k:=cn 255 aXu sh2 λ(a,b,c,d,e)=>fL (a,b) (c,d,e)
def iY.k:=cn 252 aXu sh1 λ(a,b,c,d,e)=>iY (a,b) (c,d,e)
def iV.k:=cn 253 aKz sh1 λ(a,b,c)=>iV (a,b,c)
def iQ.k:=cn 417 bVz sh1 λ(a,b)=>iQ a b
def jN.k:=cn 401 bDx sh1 λ(a,b,c,d,e,f)=>jN (a,b,c) (d,e,f)
def sK.k:=cn 331 ⟨[(0,bM9),e23],[]⟩ sh1 λ(a,b,c,d)=>sK a (b,c,d)
def nS.k:=cn 254 ⟨[e38,e23],[]⟩ sh1 λ(a,b,c,d,e)=>nS (a,b) (c,d,e)
def nI.k:=cn 163 ⟨[e5,e53,(2,ag2)],[]⟩ bVf λ(a,b,c,d,e,f,g)=>nI (a,b) (c,d) (e,f,g)
def tT.k:=cn 202 sh2 sh1 tT
def lG.k:=cn 104 bGw sh1 λ(a,b)=>lG (a,b)
def pN.k:=cn 106 bGw bXa λ(a,b)=>pN (a,b)
def mS.k:=cn 108 sh2 bGx mS
def pR.k:=cn 37 bNl aZb λ(a,b,c,d,e,f)=>pR (a,b) (c,d) e f
def iI.k:=cn 177 aKz sh2 λ(a,b,c)=>iI (a,b,c)
def vK.k:=cn 83 ⟨[e17,e53],[o1]⟩ ⟨[e2,e1],[o1]⟩ λ(a,b,c,d,e)=>vK (c,d,e) (a,b)
def aAh.k:=cn 78 ⟨[e17,e51],[o1]⟩ bO0 λ(a,b,c,d)=>aAh (b,c,d) a
def xF.k:=cn 84 bNj aTj λ(a,b,c)=>xF a b c
def tD.k:=cn 166 bNi ⟨[e6],[(0,aF8),o1]⟩ λ(a,b,c,d)=>tD (b,c,d) a
def pG.k:=cn 268 ⟨[(0,bHh)],[]⟩ ⟨[e6],[o9]⟩ pG
def vL.k:=cn 354 bM1 bE8 λ(a,b,c,d)=>vL (a,b,c,d)
def jV.k:=cn 283 sh6 aN6 jV
def vP.k:=cn 269 aGq aNa vP
def mQ.k:=cn 178 aN8 aTj λ(a,b,c,d,e,f,g,h,i)=>mQ (a,b,c,d,e,f,g,h,i)
def aFv.k:=cn 188 sh5 sh2 λ(a,b)=>aFv a b
def dL.k:=cn 189 bOj sh1 λ(a,b,c)=>dL (a,b,c)
def mC.k:=cn 91 aN8 sh1 λ(a,b,c,d,e,f,g,h,i)=>mC (a,b,c,d,e,f,g,h,i)
def tX.k:=cn 85 bW4 bXe λ(a,b,c,d,e,f,g,h,i,j)=>tX (a,b,c,d,e,f,g,h,i) j
def qG.k:=cn 184 ⟨[e46],[]⟩ bGx λ(a,b,c)=>qG (a,b,c)
def vR.k:=cn 219 aJe aS3 λ(a,b,c,d,e,f,g,h,i,j)=>vR (a,b,c,d,e,f,g,h,i,j)
def rX.k:=cn 185 ⟨[(0,.one (.var (.sl tFy)))],[]⟩ ⟨[e6],[(0,aA2)]⟩ rX
def nJ.k:=cn 186 ⟨[(0,.one (.var (.sl tFl)))],[]⟩ ⟨[e6],[(0,aGf)]⟩ nJ
def vO.k:=cn 281 bNw bD9 λ(a,b,c,d)=>vO (a,b,c,d)
def nP.k:=cn 187 ⟨[(0,bWc)],[]⟩ ⟨[e6],[(0,aC1)]⟩ nP
def vN.k:=cn 90 aX8 aZb λ(a,b,c,d,e,f,g,h,i,j,k,l,m)=>vN ((a,b),(c,d),(e,f,g),h,i,j,k,l,m)
def rK.k:=cn 93 bXf sh2 λ(a,b,c)=>rK a b c
def cY.k:=cn 286 ⟨[e38,e1],[]⟩ aS2 λ(a,b,c)=>cY (a,b) c
def nM.k:=cn 358 aSb sh2 λ(a,b,c,d)=>nM (a,b,c) d
def eJ.k:=cn 413 sh2 sh1 eJ
def cW.k:=cn 359 ⟨[e13,e1,e4],[]⟩ bE8 λ(a,b,c,d,e)=>cW (a,b,c) d e
def kE.k:=cn 361 bO7 aS2 λ(a,b,c,d)=>kE (a,b) c d
def lS.k:=cn 362 bU0 aN6 λ(a,b,c,d,e,f,g,h,i,j)=>lS (a,b,c) (d,e,f) g (h,i,j)
def fM.k:=cn 288 bWh aNa λ(a,b,c,d,e,f,g,h,i,j)=>fM (a,b) (c,d,e) f g (h,i,j)
def rB.k:=cn 285 bO7 aNa λ(a,b,c,d)=>rB (a,b) c d
def vT.k:=cn 360 bDx aN6 λ(a,b,c,d,e,f)=>vT (a,b,c) (d,e,f)
def nO.k:=cn 287 bDx aN6 λ(a,b,c,d,e,f)=>nO (a,b,c) (d,e,f)
def kS.k:=cn 192 bNl aNa λ(a,b,c,d,e,f)=>kS (a,b) (c,d) e f
def rI.k:=cn 434 bM1 sh8 λ(a,b,c,d)=>rI (a,b,c,d)
def iN.k:=cn 382 aNm sh2 λ(a,b,c,d,e)=>iN (a,b,c,d) e
def iL.k:=cn 378 aNm sh2 λ(a,b,c,d,e)=>iL (a,b,c,d) e
def rJ.k:=cn 414 bEe sh1 λ(a,b,c,d,e,f)=>rJ (a,b) (c,d,e,f)
def tB.k:=cn 415 sh2 sh2 tB
def jW.k:=cn 363 aS7 sh1 λ(a,b,c)=>jW (a,b) c
def kK.k:=cn 313 sh6 bMw kK
def fU.k:=cn 364 sh6 sh8 fU
def nN.k:=cn 290 aS7 sh1 λ(a,b,c)=>nN (a,b) c
def xR.k:=cn 432 sh5 sh2 λ(a,b)=>xR a b
def lW.k:=cn 407 aNm sh2 λ(a,b,c,d,e)=>lW (a,b,c,d) e
def vS.k:=cn 416 aNm sh2 λ(a,b,c,d,e)=>vS (a,b,c,d) e
def nL.k:=cn 365 bEe sh1 λ(a,b,c,d,e,f)=>nL (a,b) (c,d,e,f)
def nR.k:=cn 291 aS7 sh1 λ(a,b,c)=>nR (a,b) c
def sL.k:=cn 292 ⟨[e32,e1],[]⟩ sh1 λ(a,b,c,d,e,f)=>sL (a,b,c,d,e) f
def nH.k:=cn 193 ⟨[e5,e20,e4],[]⟩ sh1 λ(a,b,c,d)=>nH (a,b) c d
def qF.k:=cn 366 bU1 sh1 λ(a,b,c,d,e,f,g,h)=>qF (a,b,c,d) (e,f,g,h)
def nQ.k:=cn 293 bGs sh1 λ(a,b)=>nQ a b
def uI.k:=cn 194 ⟨[e29,e20],[]⟩ sh1 λ(a,b)=>uI a b
def lV.k:=cn 95 bUz aGq λ(a,b,c,d,e,f,g)=>lV (a,b) (c,d) e f g
def mA.k:=cn 355 sh6 sh2 mA
def kF.k:=cn 356 sh6 sh2 kF
def nU.k:=cn 357 sh6 sh2 nU
def pT.k:=cn 284 bGs sh1 λ(a,b)=>pT a b
def rR.k:=cn 191 aGq aGq rR
def gB.k:=cn 352 ⟨[e47,e1],[]⟩ bFa λ(a,b)=>gB a b
def vM.k:=cn 353 bXg sh1 λ(a,b,c,d)=>vM a (b,c,d)
def tQ.k:=cn 282 ⟨[e47,e20,e4],[]⟩ sh1 λ(a,b,c)=>tQ a b c
def jC.k:=cn 190 bWp aNa λ(a,b,c)=>jC a b c
def aB4.k:=cn 167 sh5 sh2 λ(a,b)=>aB4 a b
def sY.k:=cn 94 bXu ⟨[(0,.agg [.var ti,.var ti,.var ti,.var ti,.row 0,.var (.sl tPt),.var ti,.var ti,.row 1])],[o9,(1,aE1)]⟩ λ(a,b,c,d,e,f,g,h,i,j,k)=>sY (a,b,c,d,e,f,g,h,i) j k
def wL.k:=cn 96 sh5 bD9 λ(a,b)=>wL a b
def vJ.k:=cn 33 bWa ⟨[e39,e33],[o13,o14,o22,o23,o24,o25,o10,o26,(8,ow4),o27]⟩ λ(a,b,c,d,e,f,g,h,i,j,k,l,m,n,o,p,q,r,s,t,u,v)=>vJ ((a,b),(c,d),(e,f,g),h,i,j,k,l,m) (n,o,p,q,r,s,t,u,v)
def oB.k:=cn 262 sh6 bMw oB
def pS.k:=cn 297 ⟨[e36,(1,ag5)],[]⟩ bO6 λ(a,b,c,d,e,f)=>pS a (b,c,d,e,f)
def iC.k:=cn 296 aZk sh1 λ(a,b,c,d,e)=>iC (a,b,c,d,e)
def aAa.k:=cn 299 ⟨[e32,e1,e4,e7],[]⟩ sh1 λ(a,b,c,d,e,f,g,h)=>aAa (a,b,c,d,e) f g h
def mP.k:=cn 298 bXv sh2 λ(a,b,c,d)=>mP a b c d
def aAd.k:=cn 263 ⟨[e36,(1,ag5),e4,e7],[]⟩ ⟨[e6,e33],[o18]⟩ λ(a,b,c,d,e,f,g,h)=>aAd a (b,c,d,e,f) g h
def dA.k:=cn 168 ⟨[e36,e1,(2,ag3),e7,e10,e8,e16],[]⟩ ⟨[e6,e33],[o18]⟩ λ(a,b,c,d,e,f,g)=>dA a b c d e f g
def xN.k:=cn 68 bPu ⟨[e39],[o13,o14,o22,o23,o24,o25,o10,o26,(8,ow4),o27,o1]⟩ λ(a,b,c)=>xN (a,b,c)
def uE.k:=cn 21 sh9 ⟨[e39,e1],[o13,o14,o22,o23,o24,o25,o10,o26,(8,ow4),o27]⟩ uE
def aU.k:=cn 60 bNj sh1 λ(a,b,c)=>aU a b c
def uD.k:=cn 152 sh2 sh1 uD
def jG.k:=cn 62 aY9 sh1 λ(a,b,c)=>jG (a,b) c
def xG.k:=cn 153 ⟨[e5,(1,ag5)],[]⟩ sh1 λ(a,b,c,d,e,f,g)=>xG (a,b) (c,d,e,f,g)
def fO.k:=cn 133 bOx sh1 λ(a,b,c,d,e,f,g)=>fO (a,b,c,d,e) f g
def lH.k:=cn 59 bGw sh1 λ(a,b)=>lH (a,b)
def bP.k:=cn 157 bOj sh1 λ(a,b,c)=>bP (a,b,c)
def hP.k:=cn 242 aZk sh1 λ(a,b,c,d,e)=>hP (a,b,c,d,e)
def eD.k:=cn 244 bOx sh1 λ(a,b,c,d,e,f,g)=>eD (a,b,c,d,e) f g
def iX.k:=cn 243 bXv sh2 λ(a,b,c,d)=>iX a b c d
def gC.k:=cn 154 ⟨[e36,e1,e4],[]⟩ sh1 λ(a,b,c)=>gC a b c
def oC.k:=cn 155 bXp sh2 λ(a,b,c,d,e,f)=>oC (a,b,c) d e f
def aA9.k:=cn 74 sh5 sh2 λ(a,b)=>aA9 a b
def uG.k:=cn 245 bW9 sh2 λ(a,b,c,d,e)=>uG a b c d e
def jD.k:=cn 246 bW9 sh2 λ(a,b,c,d,e)=>jD a b c d e
def uM.k:=cn 156 bXi sh2 λ(a,b,c,d,e,f,g)=>uM (a,b,c) d e f g
def kD.k:=cn 61 ⟨[e46,e1],[]⟩ sh1 λ(a,b,c,d)=>kD (a,b,c) d
def lP.k:=cn 63 aN8 sh1 λ(a,b,c,d,e,f,g,h,i)=>lP (a,b,c,d,e,f,g,h,i)
def qI.k:=cn 64 bNw sh1 λ(a,b,c,d)=>qI (a,b,c,d)
def sA.k:=cn 158 ⟨[e22,(1,vr6)],[]⟩ sh1 λ(a,b)=>sA a b
def kY.k:=cn 65 ⟨[(0,bHh),(1,bHh)],[]⟩ sh1 λ(a,b)=>kY a b
def kC.k:=cn 19 ⟨[e24,(1,bWs)],[]⟩ sh1 λ(a,b,c,d,e,f,g,h,i,j,k,l,m)=>kC (a,b,c,d,e,f,g,h,i) (j,k,l,m)
def eZ.k:=cn 17 aX8 sh1 λ(a,b,c,d,e,f,g,h,i,j,k,l,m)=>eZ ((a,b),(c,d),(e,f,g),h,i,j,k,l,m)
def mR.k:=cn 80 bGw bXa λ(a,b)=>mR (a,b)
def kO.k:=cn 225 bAh bOs kO
def gI.k:=cn 267 aKz bPo λ(a,b,c)=>gI (a,b,c)
def kQ.k:=cn 176 ⟨[(0,bM9)],[]⟩ aS2 kQ
def oR.k:=cn 81 ⟨[e38],[]⟩ bVf λ(a,b)=>oR (a,b)
def eR.k:=cn 229 ⟨[e36],[]⟩ bO6 eR
def fC.k:=cn 144 ⟨[e46],[]⟩ bGx λ(a,b,c)=>fC (a,b,c)
def pE.k:=cn 145 aSe sh8 pE
def eN.k:=cn 135 sh6 aN6 eN
def eB.k:=cn 136 sh9 ⟨[e6],[(0,aF8)]⟩ eB
def cX.k:=cn 48 aJe aS3 λ(a,b,c,d,e,f,g,h,i,j)=>cX (a,b,c,d,e,f,g,h,i,j)
def iZ.k:=cn 230 ⟨[(0,bHh)],[]⟩ ⟨[e6],[o9]⟩ iZ
def rQ.k:=cn 231 aGq aNa rQ
def eK.k:=cn 232 ⟨[e47],[]⟩ bFa eK
def eO.k:=cn 146 aN8 aTj λ(a,b,c,d,e,f,g,h,i)=>eO (a,b,c,d,e,f,g,h,i)
def nA.k:=cn 147 bNw bD9 λ(a,b,c,d)=>nA (a,b,c,d)
def eC.k:=cn 57 aX8 aZb λ(a,b,c,d,e,f,g,h,i,j,k,l,m)=>eC ((a,b),(c,d),(e,f,g),h,i,j,k,l,m)
def fN.k:=cn 318 ⟨[e36,e1],[]⟩ bO6 λ(a,b)=>fN a b
def uP.k:=cn 233 ⟨[e46,e1],[]⟩ bGx λ(a,b,c,d)=>uP (a,b,c) d
def dF.k:=cn 51 sh2 sh1 dF
def fP.k:=cn 129 aNm sh2 λ(a,b,c,d,e)=>fP (a,b,c,d) e
def fK.k:=cn 124 aNm sh2 λ(a,b,c,d,e)=>fK (a,b,c,d) e
def kI.k:=cn 143 sh6 bMw kI
def rM.k:=cn 250 sh6 sh5 rM
def gU.k:=cn 161 ⟨[e2,e20,e4,e7,(4,vr6)],[]⟩ aS3 λ(a,b,c,d,e)=>gU a b c d e
def eU.k:=cn 319 aN8 bNe λ(a,b,c,d,e,f,g,h,i)=>eU (a,b,c,d,e,f,g,h,i)
def pJ.k:=cn 320 aN8 sh2 λ(a,b,c,d,e,f,g,h,i)=>pJ (a,b,c,d,e,f,g,h,i)
def tC.k:=cn 234 aN8 ⟨[e40,(1,.agg [.var ti,.var ti,.var ti,.row 3,.var ti,.var ti,.var ti,.var ti,.var ti,.row 4]),e18],[o9,o28,o29,(3,ow8),(4,aF8)]⟩ λ(a,b,c,d,e,f,g,h,i)=>tC (a,b,c,d,e,f,g,h,i)
def lN.k:=cn 150 bNh aNx λ(a,b,c,d,e,f,g,h,i,j,k,l,m,n,o,p,q,r,s,t,u,v,w,x,y)=>lN ((m,n),(o,p),(q,r,s),t,u,w,x,y,v) a b (c,d,e,f,g,h,i,j,k,l)
def mB.k:=cn 132 bNz aSe λ(a,b)=>mB a b
def qA.k:=cn 44 aY9 aSe λ(a,b,c)=>qA (a,b) c
def kM.k:=cn 46 aN2 sh2 λ(a,b,c,d)=>kM (a,b) c d
def mL.k:=cn 45 bNz sh1 λ(a,b)=>mL a b
def pK.k:=cn 134 sh2 sh1 pK
def pW.k:=cn 47 sh5 sh2 λ(a,b)=>pW a b
def cQ.k:=cn 11 ⟨[e5,e51,e4],[]⟩ sh2 λ(a,b,c,d)=>cQ (a,b) c d
def kR.k:=cn 122 ⟨[e2,(1,.one (.ptr 1000001 0))],[(1000001,ob6)]⟩ ⟨[(0,.agg [.var ti,.var ti,.var ti,.var ti,.var ti,.row 0,.var ti,.var ti,.var ti,.var ti,.var ti,.row 1])],[o8,o19,(1000001,ob6)]⟩ λ(a,b,c,d,e,f,g,h,i,j,k)=>kR a (b,c,d,e,f,g,h,i,j,k)
def dB.k:=cn 137 sh2 sh1 dB
def mI.k:=cn 138 aZk sh1 λ(a,b,c,d,e)=>mI (a,b,c,d,e)
def lK.k:=cn 316 bAh sh1 lK
def lA.k:=cn 222 sh6 sh1 lA
def uQ.k:=cn 49 aJe sh1 λ(a,b,c,d,e,f,g,h,i,j)=>uQ (a,b,c,d,e,f,g,h,i,j)
def eA.k:=cn 15 aJe sh2 λ(a,b,c,d,e,f,g,h,i,j)=>eA (a,b,c,d,e,f,g,h,i,j)
def oA.k:=cn 123 aJe sh1 λ(a,b,c,d,e,f,g,h,i,j)=>oA (a,b,c,d,e,f,g,h,i,j)
def xM.k:=cn 227 ⟨[e5,(1,bMz)],[]⟩ sh1 λ(a,b,c)=>xM (a,b) c
def kH.k:=cn 228 aN2 sh5 λ(a,b,c,d)=>kH (a,b) c d
def rP.k:=cn 140 bEe sh1 λ(a,b,c,d,e,f)=>rP (a,b) (c,d,e,f)
def tP.k:=cn 141 sh2 sh2 tP
def jT.k:=cn 55 aS7 sh1 λ(a,b,c)=>jT (a,b) c
def wD.k:=cn 142 ⟨[(0,.one (.var (.sl lJ)))],[]⟩ sh8 wD
def fV.k:=cn 56 sh6 sh8 fV
def lO.k:=cn 14 aS7 sh1 λ(a,b,c)=>lO (a,b) c
def qR.k:=cn 50 sh5 sh2 λ(a,b)=>qR a b
def uU.k:=cn 52 sh5 sh2 λ(a,b)=>uU a b
def aFa.k:=cn 393 sh5 sh2 λ(a,b)=>aFa a b
def uJ.k:=cn 317 aSe sh2 uJ
def rY.k:=cn 226 bHc sh2 λ(a,b)=>rY a b
def xQ.k:=cn 139 bPb sh2 λ(a,b,c,d,e,f,g,h)=>xQ a b c (d,e,f,g,h)
def mY.k:=cn 53 bVk sh1 λ(a,b,c,d,e,f,g,h,i)=>mY (a,b) c d (e,f,g,h,i)
def iA.k:=cn 12 ⟨[e5,(1,ag4)],[]⟩ bNe λ(a,b,c,d,e,f,g,h,i,j,k,l)=>iA (a,b) (c,d,e,f,g,h,i,j,k,l)
def sN.k:=cn 54 ⟨[e32,e1],[]⟩ sh1 λ(a,b,c,d,e,f)=>sN (a,b,c,d,e) f
def gE.k:=cn 13 ⟨[e30,e1],[]⟩ sh1 λ(a,b,c,d,e,f,g,h,i,j,k)=>gE (a,b,c,d,e,f,g,h,i,j) k
def kN.k:=cn 125 ⟨[e5,e1,(2,ag4)],[]⟩ ⟨[e30,e1],[]⟩ λ(a,b,c,d,e,f,g,h,i,j,k,l,m)=>kN (a,b) c (d,e,f,g,h,i,j,k,l,m)
def gM.k:=cn 126 aJe sh1 λ(a,b,c,d,e,f,g,h,i,j)=>gM (a,b,c,d,e,f,g,h,i,j)
def kG.k:=cn 127 aJe sh1 λ(a,b,c,d,e,f,g,h,i,j)=>kG (a,b,c,d,e,f,g,h,i,j)
def lU.k:=cn 128 aJe aS3 λ(a,b,c,d,e,f,g,h,i,j)=>lU (a,b,c,d,e,f,g,h,i,j)
def jI.k:=cn 224 aN2 sh2 λ(a,b,c,d)=>jI (a,b) c d
def kA.k:=cn 223 sh5 sh1 λ(a,b)=>kA a b
def oG.k:=cn 130 ⟨[e5,(1,bAn)],[]⟩ sh1 λ(a,b,c,d,e)=>oG (a,b) (c,d,e)
def tF.k:=cn 131 sh5 sh1 λ(a,b)=>tF a b
def qP.k:=cn 43 bVl ⟨[(0,bE4),e1],[]⟩ λ(a,b,c,d,e,f,g,h,i,j,k,l,m,n,o,p)=>qP (a,b) c d e f (g,h,i,j,k,l,m,n,o,p)
def rN.k:=cn 394 bXp sh2 λ(a,b,c,d,e,f)=>rN (a,b,c) d e f
def uF.k:=cn 321 bXi ⟨[(0,bW8),e33],[o18,(1,aCz)]⟩ λ(a,b,c,d,e,f,g)=>uF (a,b,c) d e f g
def kT.k:=cn 235 ⟨[e17,e1,(2,bE4)],[o4,o5,o3,o6]⟩ aNx λ(a,b,c,d,e,f,g,h,i,j,k,l,m,n,o,p,q,r,s,t,u,v,w,x,y,z)=>kT ((n,o),(p,q),(r,s,t),u,v,x,y,z,w) a (b,c,(d,e,f,g,h,i,j,k,l,m))
def pB.k:=cn 86 bXf sh2 λ(a,b,c)=>pB a b c
def rL.k:=cn 322 bNr sh1 λ(a,b,c,d,e,f,g,h,i,j,k,l,m,n)=>rL (a,b,c,d) (e,f,g,h,i,j,k,l,m,n)
def nF.k:=cn 236 bNr bD9 λ(a,b,c,d,e,f,g,h,i,j,k,l,m,n)=>nF (a,b,c,d) (e,f,g,h,i,j,k,l,m,n)
def oD.k:=cn 247 sh2 sh2 oD
def mD.k:=cn 248 aNm sh2 λ(a,b,c,d,e)=>mD (a,b,c,d) e
def jA.k:=cn 249 bAh bOs jA
def oH.k:=cn 159 bM1 bE8 λ(a,b,c,d)=>oH (a,b,c,d)
def gJ.k:=cn 66 sh6 aN6 gJ
def aAp.k:=cn 323 ⟨[e30,e1,e4,(3,vr6)],[]⟩ aS3 λ(a,b,c,d,e,f,g,h,i,j,k,l,m)=>aAp (a,b,c,d,e,f,g,h,i,j) k l m
def tK.k:=cn 237 bNr bNe λ(a,b,c,d,e,f,g,h,i,j,k,l,m,n)=>tK (a,b,c,d) (e,f,g,h,i,j,k,l,m,n)
def rO.k:=cn 324 ⟨[e24,(1,ag4)],[]⟩ aTj λ(a,b,c,d,e,f,g,h,i,j,k,l,m,n,o,p,q,r,s)=>rO (a,b,c,d,e,f,g,h,i) (j,k,l,m,n,o,p,q,r,s)
def pO.k:=cn 438 ⟨[e22,e1],[]⟩ ⟨[e2,e1,e18],[]⟩ λ(a,b)=>pO a b
def pP.k:=cn 430 ⟨[e22,e1,e4],[]⟩ ⟨[e6,e1,e18],[o12]⟩ λ(a,b,c)=>pP a b c
def hH.k:=cn 395 sh9 ⟨[(0,bAn),e33],[]⟩ hH
def pZ.k:=cn 343 bXg sh1 λ(a,b,c,d)=>pZ a (b,c,d)
def kZ.k:=cn 396 ⟨[e47,(1,bAn)],[]⟩ bFa λ(a,b,c,d)=>kZ a (b,c,d)
def gZ.k:=cn 325 ⟨[e24,(1,ag4),e4],[]⟩ aTj λ(a,b,c,d,e,f,g,h,i,j,k,l,m,n,o,p,q,r,s,t)=>gZ (a,b,c,d,e,f,g,h,i) (j,k,l,m,n,o,p,q,r,s) t
def gQ.k:=cn 238 ⟨[e17,e1,(2,ag4)],[o4,o5,o3,o6]⟩ aNx λ(a,b,c,d,e,f,g,h,i,j,k,l,m,n,o,p,q,r,s,t,u,v,w,x)=>gQ ((l,m),(n,o),(p,q,r),s,t,v,w,x,u) a (b,c,d,e,f,g,h,i,j,k)
def aDk.k:=cn 23 sh5 sh2 λ(a,b)=>aDk a b
def gS.k:=cn 241 aJe ⟨[e41],[(0,bAi)]⟩ λ(a,b,c,d,e,f,g,h,i,j)=>gS (a,b,c,d,e,f,g,h,i,j)
def mT.k:=cn 439 ⟨[e22,e1],[]⟩ ⟨[e6],[(0,aF8)]⟩ λ(a,b)=>mT a b
def pX.k:=cn 431 ⟨[e22,e51],[]⟩ sh9 λ(a,b)=>pX a b
def pY.k:=cn 397 aSe sh9 pY
def hZ.k:=cn 326 bOj sh9 λ(a,b,c)=>hZ (a,b,c)
def iJ.k:=cn 239 ⟨[e5,e1,e4,e7,(4,ag4)],[]⟩ aS3 λ(a,b,c,d,e,f,g,h,i,j,k,l,m,n,o)=>iJ (a,b) c d e (f,g,h,i,j,k,l,m,n,o)
def kB.k:=cn 240 sh6 sh2 kB
def dZ.k:=cn 150 bNh aNx λ(a,b,c,d,e,f,g,h,i,j,k,l,m,n,o,p,q,r,s,t,u,v,w,x,y)=>dZ ((m,n),(o,p),(q,r,s),t,u,w,x,y,v) a b (c,d,e,f,g,h,i,j,k,l)
def bE.k:=cn 150 bNh aNx λ(a,b,c,d,e,f,g,h,i,j,k,l,m,n,o,p,q,r,s,t,u,v,w,x,y)=>bE ((m,n),(o,p),(q,r,s),t,u,w,x,y,v) a b (c,d,e,f,g,h,i,j,k,l)
def iU.k:=cn 148 bVd bVb λ(a,b,c,d,e,f,g,h,i,j,k,l,m)=>iU ((a,b),(c,d),(e,f,g),h,i,k,l,m,j)
def eW.k:=cn 149 bXs ⟨[(0,bE4)],[o5,o3,o6,o4]⟩ λ(a,b,c,d,e,f,g,h,i,j,k,l,m,n)=>eW ((b,c),(d,e),(f,g,h),i,j,l,m,n,k) a
def vU.k:=cn 151 bW4 bXe λ(a,b,c,d,e,f,g,h,i,j)=>vU (a,b,c,d,e,f,g,h,i) j
def xP.k:=cn 346 aKz sh2 λ(a,b,c)=>xP (a,b,c)
def oY.k:=cn 272 ⟨[e38,e1],[]⟩ aS2 λ(a,b,c)=>oY (a,b) c
def sM.k:=cn 273 aSb sh2 λ(a,b,c,d)=>sM (a,b,c) d
def aBv.k:=cn 410 bAh sh8 aBv
def yJ.k:=cn 409 bHc sh2 λ(a,b)=>yJ a b
def xU.k:=cn 347 aSb sh2 λ(a,b,c,d)=>xU (a,b,c) d
def mJ.k:=cn 274 ⟨[e13,e1,e4],[]⟩ bE8 λ(a,b,c,d,e)=>mJ (a,b,c) d e
def qC.k:=cn 278 aKz sh2 λ(a,b,c)=>qC (a,b,c)
def vY.k:=cn 348 bO7 aS2 λ(a,b,c,d)=>vY (a,b) c d
def oE.k:=cn 411 ⟨[e13,e1,(2,.one (.ptr 1000002 0))],[(1000002,.box [.row 0]),(0,bAi)]⟩ ⟨[],[(0,bAi),(1000002,.box [.row 0])]⟩ λ(a,b,c,d,e)=>oE (a,b,c) d e
def uR.k:=cn 349 bU0 ⟨[e41],[(0,bAi)]⟩ λ(a,b,c,d,e,f,g,h,i,j)=>uR (a,b,c) (d,e,f) g (h,i,j)
def mH.k:=cn 275 bWh aGq λ(a,b,c,d,e,f,g,h,i,j)=>mH (a,b) (c,d,e) f g (h,i,j)
def wU.k:=cn 350 aSb sh2 λ(a,b,c,d)=>wU (a,b,c) d
def uZ.k:=cn 276 bDx aN6 λ(a,b,c,d,e,f)=>uZ (a,b,c) (d,e,f)
def zI.k:=cn 277 aY9 sh1 λ(a,b,c)=>zI (a,b) c
def rS.k:=cn 181 bNl aGq λ(a,b,c,d,e,f)=>rS (a,b) (c,d) e f
def vD.k:=cn 351 bEe sh1 λ(a,b,c,d,e,f)=>vD (a,b) (c,d,e,f)
def vA.k:=cn 279 aS7 sh1 λ(a,b,c)=>vA (a,b) c
def oF.k:=cn 280 bAh sh2 oF
def vI.k:=cn 182 ⟨[e5,e20,e4],[]⟩ sh1 λ(a,b,c,d)=>vI (a,b) c d
def qL.k:=cn 300 bVz sh1 λ(a,b)=>qL a b
def vH.k:=cn 301 bU1 sh1 λ(a,b,c,d,e,f,g,h)=>vH (a,b,c,d) (e,f,g,h)
def vC.k:=cn 213 bGs sh1 λ(a,b)=>vC a b
def zQ.k:=cn 183 ⟨[e29,e20],[]⟩ sh1 λ(a,b)=>zQ a b
def wW.k:=cn 88 bUz aGq λ(a,b,c,d,e,f,g)=>wW (a,b) (c,d) e f g
def aAo.k:=cn 408 sh6 bOs aAo
def sE.k:=cn 344 sh6 sh2 sE
def rW.k:=cn 345 sh6 sh2 rW
def vF.k:=cn 271 bGs sh1 λ(a,b)=>vF a b
def wS.k:=cn 180 aGq aGq wS
def lM.k:=cn 342 ⟨[e47,e1],[]⟩ bFa λ(a,b)=>lM a b
def aAl.k:=cn 270 ⟨[e47,e20,e4],[]⟩ sh1 λ(a,b,c)=>aAl a b c
def nX.k:=cn 179 bWp aNa λ(a,b,c)=>nX a b c
def yE.k:=cn 87 bXu aTj λ(a,b,c,d,e,f,g,h,i,j,k)=>yE (a,b,c,d,e,f,g,h,i) j k
def kX.k:=cn 58 ⟨[e17,(1,bVm)],[o4,o5,o3,o6]⟩ bVb λ(a,b,c,d,e,f,g,h,i,j,k,l,m,n,o,p,q,r,s,t,u,v,w,x,y,z,A,B)=>kX ((p,q),(r,s),(t,u,v),w,x,z,A,B,y) (a,b,c,(d,e,(f,g,h,i,j,k,l,m,n,o)))
def nD.k:=cn 16 ⟨[e43,(1,bVm)],[]⟩ ⟨[e39,e33],[o13,o14,o22,o23,o24,o25,o10,o26,o40,o27]⟩ λ(a,b,c,d,e,f,g,h,i,j,k,l,m,n,o,p,q,r,s,t,u,v,w,x,y,z,A,B)=>nD ((a,b),(c,d),(e,f,g),h,i,j,k,l,m) (n,o,p,(q,r,(s,t,u,v,w,x,y,z,A,B)))
def fX.k:=cn 28 aX8 sh2 λ(a,b,c,d,e,f,g,h,i,j,k,l,m)=>fX ((a,b),(c,d),(e,f,g),h,i,j,k,l,m)
def gH.k:=cn 170 bXs aNx λ(a,b,c,d,e,f,g,h,i,j,k,l,m,n)=>gH ((b,c),(d,e),(f,g,h),i,j,l,m,n,k) a
def jK.k:=cn 70 bVd aNx λ(a,b,c,d,e,f,g,h,i,j,k,l,m)=>jK ((a,b),(c,d),(e,f,g),h,i,k,l,m,j)
def rH.k:=cn 22 ⟨[e43,e1],[]⟩ aZb λ(a,b,c,d,e,f,g,h,i,j,k,l,m,n)=>rH ((a,b),(c,d),(e,f,g),h,i,j,k,l,m) n
def wM.k:=cn 18 aX8 aZb λ(a,b,c,d,e,f,g,h,i,j,k,l,m)=>wM ((a,b),(c,d),(e,f,g),h,i,j,k,l,m)
def tI.k:=cn 10 bVl ⟨[(0,bE4)],[]⟩ λ(a,b,c,d,e,f,g,h,i,j,k,l,m,n,o,p)=>tI (a,b) c d e f (g,h,i,j,k,l,m,n,o,p)
def qZ.k:=cn 160 ⟨[e5,e1,(2,vr5),(3,ag4)],[]⟩ ⟨[(0,.agg [.var ti,.row 0,.var ti,.var ti,.var ti,.var (.sl tPp),.var ti,.var ti,.var ti,.var ti,.var ti,.var (.sl tb)])],[(0,aN7)]⟩ λ(a,b,c,d,e,f,g,h,i,j,k,l,m,n)=>qZ (a,b) c d (e,f,g,h,i,j,k,l,m,n)
def tV.k:=cn 67 ⟨[e5,e1,(2,vr5),(3,ag3)],[]⟩ sh1 λ(a,b,c,d,e)=>tV (a,b) c d e
def fJ.k:=cn 20 bWa sh2 λ(a,b,c,d,e,f,g,h,i,j,k,l,m,n,o,p,q,r,s,t,u,v)=>fJ ((a,b),(c,d),(e,f,g),h,i,j,k,l,m) (n,o,p,q,r,s,t,u,v)
def l_FnDetour.k:=cn 5 sh9 sh1 l_FnDetour
end

end Go.Proofs.YtnkjolpkcmgcaaaGreat
