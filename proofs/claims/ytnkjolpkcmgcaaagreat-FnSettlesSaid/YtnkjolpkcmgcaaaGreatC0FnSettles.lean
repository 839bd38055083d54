/-
  Contracts of the functions of the program. Conditions: none.
-/
import Derived.Test.YtnkjolpkcmgcaaaGreatT0FnSettles
import Derived.Test.YtnkjolpkcmgcaaaGreatProg
import Derived.KernelRfl
set_option linter.unusedVariables false
set_option linter.unusedSimpArgs false
set_option maxRecDepth 100000
namespace Go.Proofs.YtnkjolpkcmgcaaaGreat
open Go.Ab Go.V
noncomputable section
theorem follows:Tryz.prog.follows .mixedOrders=true:=by kernel_rfl
theorem _root_.Go.V.Con.Ok.c{P:Program}{c:Con}{E:List Con}(h:c.Ok P)(k:aGc P E):aGc P (c::E):=⟨h,k⟩
theorem fk{E:List Con}{c:Con}{fn:Func}(hf:Tryz.prog.funcs[c.f]? =some fn)(k:aGc Tryz.prog E)(pl:Plan)(e:∀x,bTj Tryz.prog E fn pl c.pre c.post x=c.sem x:=by intro x;kernel_rfl)(hn:(fn.name=="runtime.NumGoroutine")=false:=by rfl):c.Ok Tryz.prog:=cCy hf hn follows (aGc.mem k) λx y h=>(e x).trans h
theorem nok:aGc Tryz.prog []:=trivial
abbrev cn(f:FuncId)(a b:Sh)(s:vS a.tys->Option (vS b.tys)):Con:=⟨f,a,b,false,s⟩
abbrev OK(c:Con):Prop:=c.Ok Tryz.prog
abbrev _root_.Go.V.Plan.q(p:Plan):Plan:= .seq .z p
def ow1:OT:= .row 71 9 tFl false
def ow2:OT:= .row 50 12 tFy false
def ow3:OT:= .row 73 4 tIb false
def ow4:OT:= .row 104 4 tPp true
def ow5:OT:= .row 3 1 ti true
def ow6:OT:= .row 5 1 tb true
def ow7:OT:= .row 46 1 tPt true
def ow8:OT:= .row 207 3 tSg true
def ow9:OT:= .row 256 5 tRs true
def aEm:OT:= .row 195 1 tMs true
def aNv:OT:= .row 175 3 tAS true
def aHd:OT:= .row 167 5 tLk true
def aDd:OT:= .row 191 4 tUs true
def aMi:OT:= .row 106 5 bU true
def aFr:OT:= .row 197 3 tRv true
def aNk:OT:= .row 164 3 mR true
def aFn:OT:= .row 50 12 tFy true
def aIv:OT:= .row 73 4 tIb true
def aM3:OT:= .row 71 9 tFl true
def aTq:OT:= .row 46 1 tPt false
def bCu:OT:= .row 104 4 tPp false
def bSl:OT:= .row 63 15 iJ false
def ob1:OT:= .box [.var (.sl tb),.var ti,.var ti]
def ob2:OT:= .box [.var (.sl tAS),.var (.sl tLk),.var (.sl tSg),.var (.sl tSg),.var ti,.var (.sl tRs),.var (.sl tUs),.var ti,.var (.sl ti),.row 0,.row 1,.row 2,.var ti]
def ob3:OT:= .box [.var (.sl tAS),.var (.sl tLk),.var (.sl tSg),.var (.sl tSg),.var ti,.var (.sl tRs),.var (.sl tUs),.var ti,.var (.sl ti),.row 300001,.row 300002,.row 300003,.var ti]
def ob4:OT:= .box [.row 300001]
def ob5:OT:= .box [.row 300001,.row 300003]
def ob6:OT:= .box [.var (.sl tAS),.var (.sl tLk)]
def ob7:OT:= .box [.var ti,.var ti,.var ti,.var (.sl tPp),.var ti,.var ti,.var ti,.var ti,.var ti,.var (.sl tb)]
def ob8:OT:= .box [.var ti,.var ti,.var ti,.row 300001]
def ob9:OT:= .box [.var ti,.var ti,.row 300003]
def bKd:OT:= .box [.row 300005]
def bSo:OT:= .box [.row 300001,.nil]
def bQg:OT:= .box [.var ti,.var ti,.row 300004]
def cB1:OT:= .box [.var ti,.var ti,.var ti,.var ti,.row 1144,.row 1145,.var ti,.var ti,.row 1146]
def cBf:OT:= .box [.var ti,.var ti,.var ti,.var ti,.var ti,.row 1560,.var ti,.var ti,.var ti,.var ti,.var ti,.row 1561]
def bPz:OT:= .box [.row 1208,.row 1209,.row 1272,.row 1273,.var ti,.row 1336,.row 1337,.var ti,.row 1400,.row 300001,.nil,.nil,.var ti]
def bS5:OT:= .box [.row 1208,.row 1209,.row 1272,.row 1273,.var ti,.row 1336,.row 1337,.var ti,.row 1400,.row 300001,.row 300002,.nil,.var ti]
def cBn:OT:= .box [.var ti,.var ti,.var ti,.var ti,.var ti,.var (.sl tPp),.var ti,.var ti,.var ti,.var ti,.var ti,.var (.sl tb)]
def cBi:OT:= .box [.var ti,.var ti,.row 300001]
def cB6:OT:= .box [.var ti,.var ti,.var ti,.var ti,.var ti]
def bZ4:OT:= .box [.row 1160,.row 1208]
def bZ1:OT:= .box [.var ti,.var ti,.var ti,.nil]
def bZe:OT:= .box [.var ti,.var ti,.var ti]
def bZu:OT:= .box [.row 300001,.row 300002]
def bZ3:OT:= .box [.row 300007,.row 300008,.row 300009,.row 300010,.var ti,.row 300006,.row 300011,.var ti,.row 300012,.row 300013,.row 300014,.row 300015,.var ti]
def cB3:OT:= .box [.var ti,.var ti,.var ti,.var ti,.row 300003,.row 300004,.var ti,.var ti,.row 300005]
def cBo:OT:= .box [.var (.sl tPp)]
def cAh:OT:= .box [.var ti,.var ti,.var ti,.var (.sl tPp),.var ti,.var ti,.var ti,.var ti,.var ti,.row 1161]
def cEh:OT:= .box [.var ti,.var ti,.var ti,.row 1192,.var ti,.var ti,.var ti,.var ti,.var ti,.row 1193]
def cCh:OT:= .box [.var ti,.var ti,.var ti,.row 300001,.var ti,.var ti,.var ti,.var ti,.var ti,.row 300002]
def cEg:OT:= .box [.var ti,.var ti,.var ti,.row 1112]
def cDr:OT:= .box [.var ti,.var ti,.var ti,.var ti,.row 1112,.row 1113,.var ti,.var ti,.row 1114]
def cDu:OT:= .box [.var ti,.var ti,.var ti,.row 1544]
def cDq:OT:= .box [.var ti,.var ti,.var ti,.var ti,.row 2312,.row 2313,.var ti,.var ti,.row 2314]
def cD2:OT:= .box [.var ti,.row 2152,.row 2153]
def cEd:OT:= .box [.var (.sl tAS),.var (.sl tLk),.var (.sl tSg),.var (.sl tSg),.var ti,.row 2152,.row 2153,.var ti,.var (.sl ti),.row 0,.row 1,.row 2,.var ti]
def cDy:OT:= .box [.var ti,.var ti,.var ti,.row 2904,.var ti,.var ti,.var ti,.var ti,.var ti,.row 2905]
def cA5:OT:= .box [.var ti,.var ti,.var ti,.var ti,.var (.sl tMs),.var (.sl tPt),.var ti,.var ti,.var (.sl tRv)]
def cDt:OT:= .box [.var (.sl tAS),.var (.sl tLk),.var (.sl tSg),.var (.sl tSg),.var ti,.var (.sl tRs),.var (.sl tUs),.var ti,.var (.sl ti),.row 14,.row 1,.row 2,.var ti]
def bZf:OT:= .box [.var ti,.var ti,.nil,.var ti,.var ti,.var ti,.var ti,.var ti,.var (.sl tPp),.var ti,.var ti,.var ti,.var ti,.var ti,.row 300001]
def cBu:OT:= .box [.row 1208,.row 1209,.row 1272,.row 1273,.var ti,.row 1336,.row 1337,.var ti,.row 1400,.row 300001,.row 300002,.row 300003,.var ti]
def bZv:OT:= .box [.var ti,.var .bool,.var ti]
def cDw:OT:= .box [.var ti,.var ti,.var ti,.row 2584,.var ti,.var ti,.var ti,.var ti,.var ti,.row 2585]
def cEn:OT:= .box [.var ti,.var ti,.var ti,.row 3176,.var ti,.var ti,.var ti,.var ti,.var ti,.row 3177]
def cBd:OT:= .box [.var ti,.row 300001,.row 1177]
def cAc:OT:= .box [.var ti,.row 300001,.row 300002]
def bZl:OT:= .box [.var ti,.row 300001,.var ti,.var ti,.var ti,.row 300002,.var ti,.var ti,.var ti,.var ti,.var ti,.row 300003]
def ag1:ST:= .agg [.var (.sl tAS),.var (.sl tLk)]
def ag2:ST:= .agg [.var ti,.var ti,.var ti,.var (.sl tPp),.var ti,.var ti,.var ti,.var ti,.var ti,.var (.sl tb)]
def ag3:ST:= .agg [.var (.sl tPp)]
def ag4:ST:= .agg [.var ti,.var ti,.var (.sl bU)]
def ag5:ST:= .agg [.var ti,.var ti,.var ti,.var ti,.var ti]
def ag6:ST:= .agg [.var ti,.var ti,.var ti,.var ti,.var (.sl tMs),.var (.sl tPt),.var ti,.var ti,.var (.sl tRv)]
def ag7:ST:= .agg [.var ti,.var ti,.var ti,.row 0,.var ti,.var ti,.var ti,.var ti,.var ti,.row 1]
def ag8:ST:= .agg [.var ti,.var ti,.var ti,.var (.sl bU)]
def ag9:ST:= .agg [.var (.sl tAS),.var (.sl tLk),.var (.sl tSg),.var (.sl tSg),.var ti,.var (.sl tRs),.var (.sl tUs),.var ti,.var (.sl ti),.var (.sl tFy),.var (.sl tFl),.var (.sl tIb),.var ti]
def cBx:ST:= .agg [.var ti,.var ti,.var ti]
def cEm:ST:= .agg [.var ti,.var (.sl tRs),.var (.sl tUs)]
def bBb:ST:= .agg [.var (.sl tSg),.var (.sl tSg)]
def cDx:ST:= .agg [.var ti,.row 0,.row 1]
def cEb:ST:= .agg [.var ti,.var ti,.var ti,.var ti,.row 0,.row 1,.var ti,.var ti,.row 2]
def cB9:ST:= .agg [.row 0]
def cAu:ST:= .agg [.var ti,.var ti,.var ti,.var (.sl tMs)]
def cEf:ST:= .agg [.var ti,.var ti,.var ti,.row 0]
def cEe:ST:= .agg [.row 0,.row 1,.row 2,.row 3,.var ti,.row 4,.row 5,.var ti,.row 6,.row 7,.row 8,.row 9,.var ti]
def cEr:ST:= .agg [.row 0,.row 1]
def bJ6:ST:= .agg [.var ti,.var ti,.var ti,.var ti,.var ti,.var (.sl tPp),.var ti,.var ti,.var ti,.var ti,.var ti,.var (.sl tb)]
def cBw:ST:= .agg [.var ti,.var ti,.row 0]
def bZ0:ST:= .agg [.var (.sl tAS),.var (.sl tLk),.var (.sl tSg),.var (.sl tSg),.var ti,.var (.sl tRs),.var (.sl tUs),.var ti,.var (.sl ti),.row 0,.row 1,.row 2,.var ti]
def cBb:ST:= .agg [.var ti,.var ti,.var (.sl tb),.var ti,.var ti,.var ti,.var ti,.var ti,.var (.sl tPp),.var ti,.var ti,.var ti,.var ti,.var ti,.var (.sl tb)]
def bZn:ST:= .agg [.var ti,.var ti,.var ti,.var ti,.var ti,.row 0,.var ti,.var ti,.var ti,.var ti,.var ti,.row 1]
def cEs:ST:= .agg [.var ti,.var ti,.var ti,.row 3,.var ti,.var ti,.var ti,.var ti,.var ti,.row 4]
def cEq:ST:= .agg [.var (.sl tAS),.var (.sl tLk),.var (.sl tSg),.var (.sl tSg),.var ti,.var (.sl tRs),.var (.sl tUs),.var ti,.var (.sl ti),.row 1001109,.row 1001110,.row 1001111,.var ti]
def vr1:ST:= .one (.var ti)
def vr2:ST:= .one (.var .bool)
def vr3:ST:= .one (.row 0)
def vr4:ST:= .one (.ptr 1000000 0)
def vr5:ST:= .one (.row 300001)
def vr6:ST:= .one (.var (.sl tb))
def vr7:ST:= .one (.var (.sl ti))
def vr8:ST:= .one (.row 7)
def vr9:ST:= .one (.row 6)
def aT4:ST:= .one (.row 10)
def cEi:ST:= .one (.var (.sl tRs))
def cDz:ST:= .one (.row 1624)
def bCx:ST:= .one (.row 15)
def bSu:ST:= .one (.var (.sl tPt))
def cAr:ST:= .one (.var (.sl tRv))
def bJn:ST:= .one (.var (.sl bU))
def cD9:ST:= .one (.row 5)
def cDs:ST:= .one (.ptr 7 0)
def cD4:ST:= .one (.ptr 11 0)
def cD0:ST:= .one (.ptr 13 0)
def bCg:ST:= .one (.row 14)
def bHv:ST:= .one (.var (.sl tMs))
def cA2:ST:= .one (.ptr 8 0)
def bJy:ST:= .one (.row 16)
def bSz:ST:= .one (.var (.sl tSg))
def cAi:ST:= .one (.var (.sl tIb))
def bQo:ST:= .one (.row 127)
def bP6:ST:= .one (.ptr 6 0)
def e1:Nat×ST:=(1,vr1)
def e2:Nat×ST:=(0,vr1)
def e3:Nat×ST:=(0,vr2)
def e4:Nat×ST:=(2,vr1)
def e5:Nat×ST:=(0,ag1)
def e6:Nat×ST:=(3,vr1)
def e7:Nat×ST:=(0,vr3)
def e8:Nat×ST:=(0,vr4)
def e9:Nat×ST:=(4,vr1)
def e10:Nat×ST:=(5,vr1)
def e11:Nat×ST:=(4,vr2)
def e12:Nat×ST:=(6,vr1)
def e13:Nat×ST:=(0,vr6)
def e14:Nat×ST:=(2,vr2)
def e15:Nat×ST:=(0,ag3)
def e16:Nat×ST:=(0,ag2)
def e17:Nat×ST:=(9,vr1)
def e18:Nat×ST:=(3,vr5)
def e19:Nat×ST:=(8,vr1)
def e20:Nat×ST:=(3,vr9)
def e21:Nat×ST:=(0,ag6)
def e22:Nat×ST:=(0,ag7)
def e23:Nat×ST:=(7,vr1)
def e24:Nat×ST:=(5,vr8)
def e25:Nat×ST:=(0,ag4)
def e26:Nat×ST:=(0,ag9)
def e27:Nat×ST:=(1,vr2)
def e28:Nat×ST:=(1,ag3)
def e29:Nat×ST:=(1,ag2)
def e30:Nat×ST:=(0,ag5)
def e31:Nat×ST:=(0,cEi)
def e32:Nat×ST:=(10,vr1)
def e33:Nat×ST:=(9,cDz)
def e34:Nat×ST:=(1,ag4)
def e35:Nat×ST:=(0,ag8)
def e36:Nat×ST:=(0,cEm)
def e37:Nat×ST:=(12,vr2)
def e38:Nat×ST:=(0,vr7)
def e39:Nat×ST:=(0,cDx)
def e40:Nat×ST:=(0,cEb)
def e41:Nat×ST:=(0,cEf)
def e42:Nat×ST:=(0,cB9)
def e43:Nat×ST:=(0,cAu)
def e44:Nat×ST:=(6,vr2)
def e45:Nat×ST:=(13,vr1)
def e46:Nat×ST:=(7,aT4)
def e47:Nat×ST:=(12,vr1)
def e48:Nat×ST:=(34,vr2)
def e49:Nat×ST:=(0,cEe)
def e50:Nat×ST:=(3,ag2)
def e51:Nat×ST:=(5,vr5)
def e52:Nat×ST:=(5,vr7)
def e53:Nat×ST:=(1,vr7)
def e54:Nat×ST:=(0,cAr)
def e55:Nat×ST:=(0,cEr)
def e56:Nat×ST:=(0,bBb)
def e57:Nat×ST:=(0,bSu)
def e58:Nat×ST:=(0,cBx)
def e59:Nat×ST:=(1,cBx)
def e60:Nat×ST:=(31,vr2)
def e61:Nat×ST:=(3,cD9)
def e62:Nat×ST:=(7,cDs)
def e63:Nat×ST:=(7,bCx)
def e64:Nat×ST:=(15,vr1)
def e65:Nat×ST:=(11,cD4)
def e66:Nat×ST:=(13,cD0)
def e67:Nat×ST:=(7,.one (.row 18))
def e68:Nat×ST:=(7,.one (.row 9))
def e69:Nat×ST:=(7,.one (.row 29))
def o1:Nat×OT:=(1000000,ob1)
def o2:Nat×OT:=(1,ow1)
def o3:Nat×OT:=(0,ow2)
def o4:Nat×OT:=(2,ow3)
def o5:Nat×OT:=(1000000,ob2)
def o6:Nat×OT:=(0,ow4)
def o7:Nat×OT:=(1,ow6)
def o8:Nat×OT:=(0,aEm)
def o9:Nat×OT:=(300002,ow1)
def o10:Nat×OT:=(0,ow9)
def o11:Nat×OT:=(300001,ow2)
def o12:Nat×OT:=(300003,ow3)
def o13:Nat×OT:=(300001,ow4)
def o14:Nat×OT:=(300001,aNv)
def o15:Nat×OT:=(1624,ow7)
def o16:Nat×OT:=(0,ow5)
def o17:Nat×OT:=(0,aNv)
def o18:Nat×OT:=(1,aHd)
def o19:Nat×OT:=(6,ow5)
def o20:Nat×OT:=(1000000,ob3)
def o21:Nat×OT:=(1,ow7)
def o22:Nat×OT:=(3,ob4)
def o23:Nat×OT:=(0,aMi)
def o24:Nat×OT:=(1,aDd)
def o25:Nat×OT:=(2,aFr)
def o26:Nat×OT:=(300001,ow5)
def o27:Nat×OT:=(15,ow7)
def o28:Nat×OT:=(0,ow6)
def o29:Nat×OT:=(300003,aHd)
def o30:Nat×OT:=(300001,ow9)
def o31:Nat×OT:=(300001,aNk)
def o32:Nat×OT:=(2,ow8)
def o33:Nat×OT:=(3,ow8)
def o34:Nat×OT:=(4,ow9)
def o35:Nat×OT:=(5,aDd)
def o36:Nat×OT:=(7,aFn)
def o37:Nat×OT:=(9,aIv)
def o38:Nat×OT:=(3,ob5)
def o39:Nat×OT:=(300001,aMi)
def o40:Nat×OT:=(10,aNk)
def o41:Nat×OT:=(10,ow7)
def o42:Nat×OT:=(1001109,ow2)
def o43:Nat×OT:=(1001110,ow1)
def o44:Nat×OT:=(1001111,ow3)
def o45:Nat×OT:=(300001,ow8)
def o46:Nat×OT:=(300003,aMi)
def o47:Nat×OT:=(0,.row 175 3 tAS false)
def o48:Nat×OT:=(1,.row 167 5 tLk false)
def k0:Nat×ST:=(0,.keep)
def k1:Nat×ST:=(1,.keep)
def k2:Nat×ST:=(2,.keep)
def k3:Nat×ST:=(3,.keep)
def k4:Nat×ST:=(4,.keep)
def k5:Nat×ST:=(5,.keep)
def k6:Nat×ST:=(6,.keep)
def k7:Nat×ST:=(7,.keep)
def k8:Nat×ST:=(8,.keep)
def k9:Nat×ST:=(9,.keep)
def k10:Nat×ST:=(10,.keep)
def k11:Nat×ST:=(11,.keep)
def k12:Nat×ST:=(12,.keep)
def k13:Nat×ST:=(13,.keep)
def k14:Nat×ST:=(14,.keep)
def k15:Nat×ST:=(15,.keep)
def k16:Nat×ST:=(16,.keep)
def k17:Nat×ST:=(17,.keep)
def k18:Nat×ST:=(18,.keep)
def k19:Nat×ST:=(19,.keep)
def k20:Nat×ST:=(20,.keep)
def k21:Nat×ST:=(21,.keep)
def k22:Nat×ST:=(22,.keep)
def k23:Nat×ST:=(23,.keep)
def k30:Nat×ST:=(30,.keep)
def k31:Nat×ST:=(31,.keep)
def k32:Nat×ST:=(32,.keep)
def k33:Nat×ST:=(33,.keep)
def k35:Nat×ST:=(35,.keep)
def k36:Nat×ST:=(36,.keep)
def k37:Nat×ST:=(37,.keep)
def k38:Nat×ST:=(38,.keep)
def k39:Nat×ST:=(39,.keep)
def k49:Nat×ST:=(49,.keep)
def k50:Nat×ST:=(50,.keep)
def k51:Nat×ST:=(51,.keep)
def k52:Nat×ST:=(52,.keep)
def k53:Nat×ST:=(53,.keep)
def k56:Nat×ST:=(56,.keep)
def k57:Nat×ST:=(57,.keep)
def k58:Nat×ST:=(58,.keep)
def k64:Nat×ST:=(64,.keep)
def k65:Nat×ST:=(65,.keep)
def k66:Nat×ST:=(66,.keep)
def k67:Nat×ST:=(67,.keep)
def k87:Nat×ST:=(87,.keep)
def k88:Nat×ST:=(88,.keep)
def aYx:Nat×ST:=(101,.keep)
def bBg:Nat×ST:=(102,.keep)
def bKk:Nat×ST:=(103,.keep)
def bZi:Nat×ST:=(149,.keep)
def cBe:Nat×ST:=(150,.keep)
def cEp:Nat×ST:=(151,.keep)
def j0:Nat×OT:=(0,.keep)
def j1:Nat×OT:=(1,.keep)
def j2:Nat×OT:=(2,.keep)
def j3:Nat×OT:=(3,.keep)
def j4:Nat×OT:=(4,.keep)
def j5:Nat×OT:=(5,.keep)
def j6:Nat×OT:=(6,.keep)
def j7:Nat×OT:=(7,.keep)
def j8:Nat×OT:=(8,.keep)
def j9:Nat×OT:=(9,.keep)
def j10:Nat×OT:=(10,.keep)
def j11:Nat×OT:=(11,.keep)
def j12:Nat×OT:=(12,.keep)
def j13:Nat×OT:=(13,.keep)
def j14:Nat×OT:=(14,.keep)
def j15:Nat×OT:=(15,.keep)
def j16:Nat×OT:=(16,.keep)
def j19:Nat×OT:=(19,.keep)
def j26:Nat×OT:=(26,.keep)
def j29:Nat×OT:=(29,.keep)
def j30:Nat×OT:=(30,.keep)
def aYk:Nat×OT:=(1080,.keep)
def aYq:Nat×OT:=(1081,.keep)
def cC7:Nat×OT:=(1082,.keep)
def aRz:Nat×OT:=(1112,.keep)
def bJp:Nat×OT:=(1113,.keep)
def bHg:Nat×OT:=(1114,.keep)
def aEt:Nat×OT:=(1128,.keep)
def bHu:Nat×OT:=(1129,.keep)
def bKs:Nat×OT:=(1130,.keep)
def bIm:Nat×OT:=(1131,.keep)
def bIu:Nat×OT:=(1132,.keep)
def bJj:Nat×OT:=(1133,.keep)
def bI7:Nat×OT:=(1134,.keep)
def bIq:Nat×OT:=(1135,.keep)
def bVb:Nat×OT:=(1136,.keep)
def bG1:Nat×OT:=(1137,.keep)
def bUx:Nat×OT:=(1144,.keep)
def bUj:Nat×OT:=(1145,.keep)
def bTn:Nat×OT:=(1146,.keep)
def aB6:Nat×OT:=(1160,.keep)
def aO3:Nat×OT:=(1161,.keep)
def aXy:Nat×OT:=(1162,.keep)
def aXm:Nat×OT:=(1176,.keep)
def aOu:Nat×OT:=(1177,.keep)
def bHs:Nat×OT:=(1178,.keep)
def aDf:Nat×OT:=(1192,.keep)
def aOk:Nat×OT:=(1193,.keep)
def aYj:Nat×OT:=(1194,.keep)
def aX5:Nat×OT:=(1195,.keep)
def aXs:Nat×OT:=(1196,.keep)
def aYc:Nat×OT:=(1197,.keep)
def aXv:Nat×OT:=(1198,.keep)
def aX6:Nat×OT:=(1199,.keep)
def aYo:Nat×OT:=(1200,.keep)
def aXq:Nat×OT:=(1201,.keep)
def xX:Nat×OT:=(1208,.keep)
def aCb:Nat×OT:=(1209,.keep)
def aXt:Nat×OT:=(1210,.keep)
def aX2:Nat×OT:=(1211,.keep)
def aYr:Nat×OT:=(1212,.keep)
def aYl:Nat×OT:=(1213,.keep)
def aXz:Nat×OT:=(1214,.keep)
def aYb:Nat×OT:=(1215,.keep)
def aYh:Nat×OT:=(1216,.keep)
def aYf:Nat×OT:=(1217,.keep)
def cCt:Nat×OT:=(1224,.keep)
def aDk:Nat×OT:=(1272,.keep)
def aEw:Nat×OT:=(1273,.keep)
def bJw:Nat×OT:=(1288,.keep)
def aQ9:Nat×OT:=(1304,.keep)
def aIi:Nat×OT:=(1320,.keep)
def aIe:Nat×OT:=(1336,.keep)
def aIr:Nat×OT:=(1337,.keep)
def cCv:Nat×OT:=(1368,.keep)
def aDy:Nat×OT:=(1400,.keep)
def cCl:Nat×OT:=(1401,.keep)
def bT1:Nat×OT:=(1416,.keep)
def cCm:Nat×OT:=(1528,.keep)
def cCo:Nat×OT:=(1529,.keep)
def cDe:Nat×OT:=(1530,.keep)
def bUh:Nat×OT:=(1560,.keep)
def bTm:Nat×OT:=(1561,.keep)
def cDl:Nat×OT:=(1592,.keep)
def cDm:Nat×OT:=(1593,.keep)
def cCz:Nat×OT:=(1608,.keep)
def cDh:Nat×OT:=(1609,.keep)
def aYm:Nat×OT:=(1624,.keep)
def yU:Nat×OT:=(1672,.keep)
def yQ:Nat×OT:=(1720,.keep)
def bVe:Nat×OT:=(1736,.keep)
def cCn:Nat×OT:=(1755,.keep)
def cCq:Nat×OT:=(1756,.keep)
def cDc:Nat×OT:=(1787,.keep)
def cDd:Nat×OT:=(1788,.keep)
def cCp:Nat×OT:=(1944,.keep)
def bU8:Nat×OT:=(2152,.keep)
def bVu:Nat×OT:=(2153,.keep)
def bKb:Nat×OT:=(2312,.keep)
def bJx:Nat×OT:=(2313,.keep)
def bHe:Nat×OT:=(2314,.keep)
def bJb:Nat×OT:=(2315,.keep)
def bKn:Nat×OT:=(2316,.keep)
def bGr:Nat×OT:=(2317,.keep)
def bJc:Nat×OT:=(2318,.keep)
def bJm:Nat×OT:=(2319,.keep)
def bTw:Nat×OT:=(2320,.keep)
def bJ4:Nat×OT:=(2321,.keep)
def dO:Nat×OT:=(300001,.keep)
def zL:Nat×OT:=(300002,.keep)
def sX:Nat×OT:=(300003,.keep)
def aGl:Nat×OT:=(300004,.keep)
def bX2:Nat×OT:=(300005,.keep)
def aU0:Nat×OT:=(300006,.keep)
def aUu:Nat×OT:=(300007,.keep)
def aTx:Nat×OT:=(300008,.keep)
def aVd:Nat×OT:=(300009,.keep)
def aTl:Nat×OT:=(300010,.keep)
def aVg:Nat×OT:=(300011,.keep)
def aUj:Nat×OT:=(300012,.keep)
def aVc:Nat×OT:=(300013,.keep)
def aUc:Nat×OT:=(300014,.keep)
def aTi:Nat×OT:=(300015,.keep)
def bA:Nat×OT:=(1000000,.keep)
def aCh:Nat×OT:=(1001109,.keep)
def aCo:Nat×OT:=(1001110,.keep)
def aCm:Nat×OT:=(1001111,.keep)
def sh1:Sh:=⟨[e3],[]⟩
def sh2:Sh:=⟨[e2],[]⟩
def sh3:Sh:=⟨[],[]⟩
def sh4:Sh:=⟨[e11],[]⟩
def sh5:Sh:=⟨[e2,e1],[]⟩
def sh6:Sh:=⟨[e15],[]⟩
def sh7:Sh:=⟨[e16],[]⟩
def sh8:Sh:=⟨[e14],[]⟩
def sh9:Sh:=⟨[e8],[o1]⟩
def aD4:Sh:=⟨[],[o3,o2,o4,o5]⟩
def aFu:Sh:=⟨[e13],[]⟩
def aI5:Sh:=⟨[e7],[o16]⟩
def aI0:Sh:=⟨[e21],[]⟩
def aIw:Sh:=⟨[e22],[o6,o7]⟩
def aL7:Sh:=⟨[k1],[j1]⟩
def aMf:Sh:=⟨[e26],[]⟩
def aNg:Sh:=⟨[e44],[]⟩
def aP2:Sh:=⟨[e5,e1,e4],[]⟩
def aQd:Sh:=⟨[e25],[]⟩
def aPs:Sh:=⟨[e38],[]⟩
def aPx:Sh:=⟨[e40],[o8,o21,o25]⟩
def aQ1:Sh:=⟨[e42],[o6]⟩
def aP9:Sh:=⟨[e35,e1],[]⟩
def aTs:Sh:=⟨[e13,e1],[]⟩
def aTt:Sh:=⟨[e8,e1],[o1]⟩
def aTm:Sh:=⟨[e39],[o10,o24]⟩
def aUg:Sh:=⟨[e7],[(0,ow7)]⟩
def aTn:Sh:=⟨[e22,e27],[o6,o7]⟩
def aUn:Sh:=⟨[e8,e1,e4,e50],[o5,o3,o2,o4]⟩
def aUk:Sh:=⟨[e43,e29],[]⟩
def aUx:Sh:=⟨[k0,k1,e37],[]⟩
def aUi:Sh:=⟨[k2,k3,e10],[j2,j3]⟩
def aU9:Sh:=⟨[k1,e6],[j1]⟩
def aYz:Sh:=⟨[e2],[o1]⟩
def bAg:Sh:=⟨[e30],[]⟩
def bCd:Sh:=⟨[e5,e34],[]⟩
def bBk:Sh:=⟨[e49],[o17,o18,o32,o33,o34,o35,o19,o36,(8,aM3),o37]⟩
def aZ1:Sh:=⟨[e57],[]⟩
def bBa:Sh:=⟨[e41],[o8]⟩
def aZa:Sh:=⟨[e5,e28],[]⟩
def bA5:Sh:=⟨[e7],[o28]⟩
def bAj:Sh:=⟨[e3],[o3,o2,o4,o5]⟩
def bAy:Sh:=⟨[e6],[]⟩
def bHz:Sh:=⟨[e5,e1],[]⟩
def bIb:Sh:=⟨[e7],[(0,ow8)]⟩
def bI8:Sh:=⟨[e5],[]⟩
def bHl:Sh:=⟨[e35],[]⟩
def bGt:Sh:=⟨[e41],[o23]⟩
def bGz:Sh:=⟨[e58],[]⟩
def bIa:Sh:=⟨[e7],[o10]⟩
def bH6:Sh:=⟨[e8,e1,(2,ag2)],[o5,o3,o2,o4]⟩
def bH1:Sh:=⟨[e36,e1,e4,e6],[]⟩
def bId:Sh:=⟨[e31,e1,e4,e6,e9],[]⟩
def bJ2:Sh:=⟨[k0,k1,e10],[]⟩
def bH5:Sh:=⟨[k2,k3],[j2,o22,o13]⟩
def bI4:Sh:=⟨[k0],[o11,o9,o12,o20]⟩
def bPs:Sh:=⟨[e2,e1,e4],[]⟩
def bS1:Sh:=⟨[e30,e1,e4],[]⟩
def bSj:Sh:=⟨[e38,e1],[]⟩
def bQj:Sh:=⟨[e25,e1],[]⟩
def bR0:Sh:=⟨[e2,e53],[]⟩
def bQb:Sh:=⟨[e2,e1,e4,(3,ag5)],[]⟩
def bR3:Sh:=⟨[(0,cBw)],[o23]⟩
def bRu:Sh:=⟨[e25,e34],[]⟩
def bS2:Sh:=⟨[e43],[]⟩
def bQ8:Sh:=⟨[e5,(1,ag8)],[]⟩
def bTh:Sh:=⟨[e7],[(0,aNk)]⟩
def bQk:Sh:=⟨[e7],[(0,aFr)]⟩
def bR6:Sh:=⟨[e26,(1,ag6)],[]⟩
def bRd:Sh:=⟨[e36,e1],[]⟩
def bP0:Sh:=⟨[e16,e1],[]⟩
def bSn:Sh:=⟨[e5,e1,e4,e6,e9,(5,ag2)],[]⟩
def bQh:Sh:=⟨[e36,e1,e4,e6,e9],[]⟩
def bRj:Sh:=⟨[e8],[o5,o3,o2,o4]⟩
def bSe:Sh:=⟨[e8,e1],[o5,o3,o2,o4]⟩
def bRt:Sh:=⟨[(0,bJn)],[]⟩
def bTc:Sh:=⟨[(8,vr2)],[]⟩
def bRa:Sh:=⟨[e10],[]⟩
def bRe:Sh:=⟨[k1,k2,k3,e9],[j1,j2,o22,o13]⟩
def cBc:Sh:=⟨[e55],[o17,o18,o1]⟩
def bZt:Sh:=⟨[e5,e1,e4,(3,ag5)],[]⟩
def bYs:Sh:=⟨[e55],[(0,ow8),(1,ow8)]⟩
def cBv:Sh:=⟨[e5,(1,bBb),e4,e6],[]⟩
def cBl:Sh:=⟨[(0,cAi),e1,e4],[]⟩
def cAb:Sh:=⟨[e31,e1,e4,e6],[]⟩
def bY9:Sh:=⟨[e2,e28,e4,e6,(4,vr6)],[]⟩
def bZ6:Sh:=⟨[e13,(1,vr6)],[]⟩
def bY2:Sh:=⟨[e40,(1,cEs),e14],[o8,o21,o25,(3,ow4),(4,ow6)]⟩
def bYq:Sh:=⟨[(0,bZn)],[o6,o7]⟩
def bY6:Sh:=⟨[e5,e1,(2,ag2)],[]⟩
def bYp:Sh:=⟨[e16,e1,e4,(3,vr6)],[]⟩
def cAf:Sh:=⟨[e7,e1,e14],[o16]⟩
def bY1:Sh:=⟨[e39,e27],[o10,o24]⟩
def cAz:Sh:=⟨[e5,e1,e4,e6,(4,ag2)],[]⟩
def bYv:Sh:=⟨[(0,bJ6)],[o3,o2,o4,o5]⟩
def cB7:Sh:=⟨[e8,(1,cBb)],[o5,o3,o2,o4]⟩
def cA0:Sh:=⟨[e8,(1,cEq)],[o1,o42,o43,o44]⟩
def bZ5:Sh:=⟨[(0,bZ0)],[o3,o2,o4,o1]⟩
def cAw:Sh:=⟨[(0,bZ0)],[o3,o2,o4]⟩
def bTl:Sh:=⟨[e39],[o10,o24,o1]⟩
def bVs:Sh:=⟨[e5,e1,(2,vr7),e50],[]⟩
def bU9:Sh:=⟨[e5,e1,(2,vr7),(3,ag3)],[]⟩
def bVk:Sh:=⟨[k0,k1,e10],[j0]⟩
def bT9:Sh:=⟨[k1,k2,e51,k6],[j2,o26]⟩
def bVw:Sh:=⟨[k2,k3,(37,vr2)],[j2,j3]⟩
def bUp:Sh:=⟨[k0,k2,k3,k4,k8],[j2,o38,o14,o29,o1]⟩
def bUg:Sh:=⟨[k1,k2,k3,e23],[j3]⟩
def bVh:Sh:=⟨[k9,(30,vr2)],[j9]⟩
def bTo:Sh:=⟨[k1,e61,e9],[j1,(5,ow5)]⟩
def bT6:Sh:=⟨[k2,k3,e52,e12],[j2,j3]⟩
def bVt:Sh:=⟨[k2,k3,k5,k6],[j2,j3]⟩
def bUc:Sh:=⟨[k0,k3,e10],[j3]⟩
def bUt:Sh:=⟨[k2],[(2,.box [.row 3,.row 7]),(3,aNv),(7,aHd)]⟩
def bUz:Sh:=⟨[k1,k2,k3,e63],[j3,o27]⟩
def bVq:Sh:=⟨[k2,k3,e60],[j2,j3]⟩
def bT5:Sh:=⟨[e20,k4,k5],[o19,aEt]⟩
def bU0:Sh:=⟨[k0,k3,k4,e10],[dO]⟩
def bUd:Sh:=⟨[k1,k2,(21,vr2)],[j1,j2]⟩
def bUv:Sh:=⟨[k2,k3,e11],[(2,cB1),(3,cEh),bUx,bUj,bTn,aDf,aOk]⟩
def bT8:Sh:=⟨[k4,k5],[j4,(5,cEg),(1112,aEm)]⟩
def bUf:Sh:=⟨[k3,k4,(16,vr2)],[j3,j4]⟩
def bU1:Sh:=⟨[k4,k5],[j4,(5,cDr),aRz,bJp,bHg]⟩
def bVf:Sh:=⟨[k2,k4,(21,vr2)],[j2,aB6]⟩
def bUu:Sh:=⟨[k3,k6,k7,k8,(24,vr2)],[j3,j6,j7,j8,aXm,aOu,bHs]⟩
def bUi:Sh:=⟨[k3,k6,k7,k8,(42,vr2)],[j3,j6,j7,j8,aXm,aOu,bHs]⟩
def bU5:Sh:=⟨[k0,k1,k5,k6,e62],[j0,j1,j2,j5,(7,cDu),(1544,aEm),bA]⟩
def bUe:Sh:=⟨[k0,k1,k5,e32],[j0,o2,j2,j5,bA]⟩
def bTs:Sh:=⟨[k0,k1,k5,k10],[j0,o2,j2,j5,bA]⟩
def bVi:Sh:=⟨[k0,k1,k5,k10,e65],[j0,j1,j2,j5,(11,cDq),(2312,aEm),(2313,ow7),(2314,aFr),bA]⟩
def bVl:Sh:=⟨[e1,(5,vr9)],[(6,ow6)]⟩
def bVn:Sh:=⟨[k0,k1,k7,(8,cA2)],[j0,j1,j2,j7,(8,cBf),(1560,ow4),(1561,ow6),bA]⟩
def bVp:Sh:=⟨[k0,k8,k9,k10,e65,e37],[j0,j1,j2,j8,(11,cD2),bUh,bTm,(2152,ow9),(2153,aDd),bA]⟩
def bU2:Sh:=⟨[k0,k8,k9,k10,k11,(83,vr2)],[j0,j1,j2,j8,j11,bUh,bTm,bU8,bVu,bA]⟩
def bTq:Sh:=⟨[],[o3,j1,j2,bU8,bVu,(1000000,cEd)]⟩
def bTz:Sh:=⟨[k0,k1,k7,e66],[j0,j1,j2,j7,(13,cDy),(2904,ow4),(2905,ow6),bA]⟩
def bVo:Sh:=⟨[],[o11,o9,o12,o20]⟩
def bU3:Sh:=⟨[k4,k5],[j1,j2,j4,j5,(14,ow2),(1000000,cDt)]⟩
def bUq:Sh:=⟨[],[o3,j1,j2,o5]⟩
def bVm:Sh:=⟨[e1,(5,.one (.row 1112))],[(1112,ow6)]⟩
def bVr:Sh:=⟨[k0,k1,k7,(8,cA2),e17],[j0,j1,j2,j7,(8,cBn),bA]⟩
def bVx:Sh:=⟨[k0,k1,k7,k8,k9,(54,vr2)],[j0,j1,j2,j7,j8,bA]⟩
def bVg:Sh:=⟨[k0,k1,e65,e37],[j0,j1,j2,(11,cDw),(2584,ow4),(2585,ow6),bA]⟩
def bTv:Sh:=⟨[k0,k1,k7,k9,(116,vr2)],[j0,j1,j2,j7,bA]⟩
def bUr:Sh:=⟨[k0,k1,k7,e66],[j0,j1,j2,j7,(13,cEn),(3176,ow4),(3177,ow6),bA]⟩
def aIp.k:=cn 8 aFu sh1 aIp
def zQ.k:=cn 40 aFu ⟨[(0,.one (.ptr 0 0))],[(0,ob1)]⟩ zQ
def zE.k:=cn 42 aTs sh2 λ(a,b)=>zE a b
def qR.k:=cn 169 sh9 aYz λ(a,b,c)=>qR (a,b,c)
def aC.k:=cn 69 aTt aYz λ(a,b,c,d)=>aC (b,c,d) a
def xB.k:=cn 398 ⟨[e7,e1],[(0,.row 3 1 ti false)]⟩ aI5 λ(a,b)=>xB b a
def iN.k:=cn 327 bHz aI5 λ(a,b,c)=>iN (a,b) c
def vW.k:=cn 251 ⟨[e8,e1,e4,e6],[(1000000,.box [.row 0,.row 1]),o47,o48]⟩ ⟨[],[o47,o48,(1000000,.box [.row 0,.row 1])]⟩ λ(a,b,c,d,e)=>vW (d,e) a b c
def dT.k:=cn 76 aTt ⟨[e3],[o1]⟩ λ(a,b,c,d)=>dT (b,c,d) a
def aN.k:=cn 105 bPs sh1 λ(a,b,c)=>aN a b c
def eG.k:=cn 92 bHz sh1 λ(a,b,c)=>eG (a,b) c
def rD.k:=cn 203 ⟨[e5,(1,ag5)],[]⟩ sh1 λ(a,b,c,d,e,f,g)=>rD (a,b) (c,d,e,f,g)
def tI.k:=cn 162 sh9 cBc λ(a,b,c)=>tI (a,b,c)
def vB.k:=cn 204 bS1 sh1 λ(a,b,c,d,e,f,g)=>vB (a,b,c,d,e) f g
def mF.k:=cn 336 aP2 sh2 λ(a,b,c,d)=>mF (a,b) c d
def eL.k:=cn 332 aP2 sh2 λ(a,b,c,d)=>eL (a,b) c d
def jH.k:=cn 258 aP2 aI5 λ(a,b,c,d)=>jH (a,b) c d
def eQ.k:=cn 259 aP2 sh5 λ(a,b,c,d)=>eQ (a,b) c d
def eE.k:=cn 261 aQd aI5 λ(a,b,c)=>eE (a,b,c)
def gB.k:=cn 260 bSj sh1 λ(a,b)=>gB a b
def pY.k:=cn 335 bQj aI5 λ(a,b,c,d)=>pY (a,b,c) d
def mY.k:=cn 330 sh2 sh1 mY
def tO.k:=cn 403 sh5 sh2 λ(a,b)=>tO a b
def qZ.k:=cn 334 bR0 sh2 λ(a,b)=>qZ a b
def iM.k:=cn 257 bQj sh2 λ(a,b,c,d)=>iM (a,b,c) d
def aIo.k:=cn 433 sh5 sh2 λ(a,b)=>aIo a b
def xL.k:=cn 412 aPs sh2 xL
def vJ.k:=cn 402 bR0 sh2 λ(a,b)=>vJ a b
def xJ.k:=cn 333 bQb sh2 λ(a,b,c,d,e,f,g,h)=>xJ a b c (d,e,f,g,h)
def fW.k:=cn 256 bQb bAg λ(a,b,c,d,e,f,g,h)=>fW a b c (d,e,f,g,h)
def kS.k:=cn 165 ⟨[e8,(1,ag1),e4],[o1]⟩ ⟨[(0,cBw)],[o23,o1]⟩ λ(a,b,c,d,e,f)=>kS (d,e,f) (a,b) c
def iG.k:=cn 205 aQd bR3 λ(a,b,c)=>iG (a,b,c)
def wC.k:=cn 164 bCd bR3 λ(a,b,c,d,e)=>wC (a,b) (c,d,e)
def fZ.k:=cn 107 ⟨[(0,bSz)],[]⟩ bIb fZ
def lA.k:=cn 399 bAg sh1 λ(a,b,c,d,e)=>lA (a,b,c,d,e)
def kA.k:=cn 328 bCd sh1 λ(a,b,c,d,e)=>kA (a,b) (c,d,e)
def gT.k:=cn 400 bZt sh1 λ(a,b,c,d,e,f,g,h,i)=>gT (a,b) c d (e,f,g,h,i)
def iA.k:=cn 329 bCd sh2 λ(a,b,c,d,e)=>iA (a,b) (c,d,e)
def eA.k:=cn 289 aQd sh2 λ(a,b,c)=>eA (a,b,c)
def gE.k:=cn 255 bCd sh2 λ(a,b,c,d,e)=>gE (a,b) (c,d,e)
def kJ.k:=cn 252 bCd sh1 λ(a,b,c,d,e)=>kJ (a,b) (c,d,e)
def kH.k:=cn 253 aQd sh1 λ(a,b,c)=>kH (a,b,c)
def jY.k:=cn 417 ⟨[(0,bJn),(1,bJn)],[]⟩ sh1 λ(a,b)=>jY a b
def kY.k:=cn 401 bRu sh1 λ(a,b,c,d,e,f)=>kY (a,b,c) (d,e,f)
def vK.k:=cn 331 ⟨[(0,bSz),e34],[]⟩ sh1 λ(a,b,c,d)=>vK a (b,c,d)
def pF.k:=cn 254 ⟨[e56,e34],[]⟩ sh1 λ(a,b,c,d,e)=>pF (a,b) (c,d,e)
def oX.k:=cn 163 ⟨[e5,(1,bBb),(2,ag4)],[]⟩ bYs λ(a,b,c,d,e,f,g)=>oX (a,b) (c,d) (e,f,g)
def xF.k:=cn 202 sh2 sh1 xF
def nC.k:=cn 104 bI8 sh1 λ(a,b)=>nC (a,b)
def rZ.k:=cn 106 bI8 ⟨[e55],[o17,o18]⟩ λ(a,b)=>rZ (a,b)
def gD.k:=cn 108 sh2 aTm gD
def sA.k:=cn 37 cBv bBk λ(a,b,c,d,e,f)=>sA (a,b) (c,d) e f
def fT.k:=cn 177 aQd sh2 λ(a,b,c)=>fT (a,b,c)
def yO.k:=cn 83 ⟨[e8,(1,bBb)],[o1]⟩ ⟨[e2,e1],[o1]⟩ λ(a,b,c,d,e)=>yO (c,d,e) (a,b)
def eI.k:=cn 78 ⟨[e8,e53],[o1]⟩ aYz λ(a,b,c,d)=>eI (b,c,d) a
def aAy.k:=cn 84 bPs aPx λ(a,b,c)=>aAy a b c
def eF.k:=cn 166 aTt ⟨[e7],[o28,o1]⟩ λ(a,b,c,d)=>eF (b,c,d) a
def qX.k:=cn 268 ⟨[(0,bHv)],[]⟩ ⟨[e7],[o8]⟩ qX
def pT.k:=cn 354 bHl bGt λ(a,b,c,d)=>pT (a,b,c,d)
def jM.k:=cn 283 sh6 aQ1 jM
def yN.k:=cn 269 aZ1 aUg yN
def fH.k:=cn 178 aI0 aPx λ(a,b,c,d,e,f,g,h,i)=>fH (a,b,c,d,e,f,g,h,i)
def aAc.k:=cn 188 sh5 sh2 λ(a,b)=>aAc a b
def cE.k:=cn 189 bGz sh1 λ(a,b,c)=>cE (a,b,c)
def nL.k:=cn 91 aI0 sh1 λ(a,b,c,d,e,f,g,h,i)=>nL (a,b,c,d,e,f,g,h,i)
def sL.k:=cn 85 ⟨[e21,(1,vr6)],[]⟩ ⟨[e40,e27],[o8,o21,o25]⟩ λ(a,b,c,d,e,f,g,h,i,j)=>sL (a,b,c,d,e,f,g,h,i) j
def jD.k:=cn 184 ⟨[e36],[]⟩ aTm λ(a,b,c)=>jD (a,b,c)
def fK.k:=cn 219 sh7 aIw λ(a,b,c,d,e,f,g,h,i,j)=>fK (a,b,c,d,e,f,g,h,i,j)
def vA.k:=cn 185 ⟨[(0,.one (.var (.sl tFy)))],[]⟩ ⟨[e7],[(0,aFn)]⟩ vA
def pK.k:=cn 186 ⟨[(0,.one (.var (.sl tFl)))],[]⟩ ⟨[e7],[(0,aM3)]⟩ pK
def uS.k:=cn 281 bS2 bBa λ(a,b,c,d)=>uS (a,b,c,d)
def pM.k:=cn 187 ⟨[(0,cAi)],[]⟩ ⟨[e7],[(0,aIv)]⟩ pM
def sM.k:=cn 90 aMf bBk λ(a,b,c,d,e,f,g,h,i,j,k,l,m)=>sM ((a,b),(c,d),(e,f,g),h,i,j,k,l,m)
def nQ.k:=cn 93 cBl sh2 λ(a,b,c)=>nQ a b c
def dX.k:=cn 286 ⟨[e56,e1],[]⟩ bIb λ(a,b,c)=>dX (a,b) c
def oZ.k:=cn 358 bQj sh2 λ(a,b,c,d)=>oZ (a,b,c) d
def eC.k:=cn 413 sh2 sh1 eC
def cI.k:=cn 359 ⟨[e25,e1,e4],[]⟩ bGt λ(a,b,c,d,e)=>cI (a,b,c) d e
def lR.k:=cn 361 ⟨[e56,e1,e4],[]⟩ bIb λ(a,b,c,d)=>lR (a,b) c d
def nR.k:=cn 362 ⟨[e25,e34,e14,(3,ag4)],[]⟩ aQ1 λ(a,b,c,d,e,f,g,h,i,j)=>nR (a,b,c) (d,e,f) g (h,i,j)
def gH.k:=cn 288 ⟨[e56,e34,e4,e6,(4,ag4)],[]⟩ aUg λ(a,b,c,d,e,f,g,h,i,j)=>gH (a,b) (c,d,e) f g (h,i,j)
def tZ.k:=cn 285 ⟨[e56,e1,e4],[]⟩ aUg λ(a,b,c,d)=>tZ (a,b) c d
def qC.k:=cn 360 bRu aQ1 λ(a,b,c,d,e,f)=>qC (a,b,c) (d,e,f)
def mB.k:=cn 287 bRu aQ1 λ(a,b,c,d,e,f)=>mB (a,b,c) (d,e,f)
def mW.k:=cn 192 cBv aUg λ(a,b,c,d,e,f)=>mW (a,b) (c,d) e f
def uU.k:=cn 434 bHl aI5 λ(a,b,c,d)=>uU (a,b,c,d)
def eD.k:=cn 382 aP9 sh2 λ(a,b,c,d,e)=>eD (a,b,c,d) e
def fP.k:=cn 378 aP9 sh2 λ(a,b,c,d,e)=>fP (a,b,c,d) e
def uG.k:=cn 414 bQ8 sh1 λ(a,b,c,d,e,f)=>uG (a,b) (c,d,e,f)
def wY.k:=cn 415 sh2 sh2 wY
def mA.k:=cn 363 aZa sh1 λ(a,b,c)=>mA (a,b) c
def fJ.k:=cn 313 sh6 bTh fJ
def gR.k:=cn 364 sh6 aI5 gR
def lP.k:=cn 290 aZa sh1 λ(a,b,c)=>lP (a,b) c
def xK.k:=cn 432 sh5 sh2 λ(a,b)=>xK a b
def iS.k:=cn 407 aP9 sh2 λ(a,b,c,d,e)=>iS (a,b,c,d) e
def yP.k:=cn 416 aP9 sh2 λ(a,b,c,d,e)=>yP (a,b,c,d) e
def pE.k:=cn 365 bQ8 sh1 λ(a,b,c,d,e,f)=>pE (a,b) (c,d,e,f)
def pA.k:=cn 291 aZa sh1 λ(a,b,c)=>pA (a,b) c
def nO.k:=cn 292 ⟨[e30,e1],[]⟩ sh1 λ(a,b,c,d,e,f)=>nO (a,b,c,d,e) f
def pL.k:=cn 193 ⟨[e5,e28,e4],[]⟩ sh1 λ(a,b,c,d)=>pL (a,b) c d
def sN.k:=cn 366 ⟨[e35,(1,ag8)],[]⟩ sh1 λ(a,b,c,d,e,f,g,h)=>sN (a,b,c,d) (e,f,g,h)
def mC.k:=cn 293 ⟨[e15,e28],[]⟩ sh1 λ(a,b)=>mC a b
def wQ.k:=cn 194 ⟨[e57,e28],[]⟩ sh1 λ(a,b)=>wQ a b
def kE.k:=cn 95 ⟨[e5,(1,bBb),e4,e6,e9],[]⟩ aZ1 λ(a,b,c,d,e,f,g)=>kE (a,b) (c,d) e f g
def nP.k:=cn 355 sh6 sh2 nP
def mE.k:=cn 356 sh6 sh2 mE
def pB.k:=cn 357 sh6 sh2 pB
def sB.k:=cn 284 ⟨[e15,e28],[]⟩ sh1 λ(a,b)=>sB a b
def uF.k:=cn 191 aZ1 aZ1 uF
def hO.k:=cn 352 ⟨[e54,e1],[]⟩ bQk λ(a,b)=>hO a b
def sD.k:=cn 353 ⟨[e15,e59],[]⟩ sh1 λ(a,b,c,d)=>sD a (b,c,d)
def xE.k:=cn 282 ⟨[e54,e28,e4],[]⟩ sh1 λ(a,b,c)=>xE a b c
def kR.k:=cn 190 ⟨[e54,(1,bSu),e4],[]⟩ aUg λ(a,b,c)=>kR a b c
def aAf.k:=cn 167 sh5 sh2 λ(a,b)=>aAf a b
def rJ.k:=cn 94 ⟨[e21,(1,bSu),e4],[]⟩ ⟨[(0,.agg [.var ti,.var ti,.var ti,.var ti,.row 0,.var (.sl tPt),.var ti,.var ti,.row 1])],[o8,(1,aFr)]⟩ λ(a,b,c,d,e,f,g,h,i,j,k)=>rJ (a,b,c,d,e,f,g,h,i) j k
def tV.k:=cn 96 sh5 bBa λ(a,b)=>tV a b
def yM.k:=cn 33 bR6 ⟨[e49,e27],[o17,o18,o32,o33,o34,o35,o19,o36,(8,ow1),o37]⟩ λ(a,b,c,d,e,f,g,h,i,j,k,l,m,n,o,p,q,r,s,t,u,v)=>yM ((a,b),(c,d),(e,f,g),h,i,j,k,l,m) (n,o,p,q,r,s,t,u,v)
def pX.k:=cn 262 sh6 bTh pX
def sW.k:=cn 297 ⟨[e31,(1,ag5)],[]⟩ bIa λ(a,b,c,d,e,f)=>sW a (b,c,d,e,f)
def jN.k:=cn 296 bAg sh1 λ(a,b,c,d,e)=>jN (a,b,c,d,e)
def zM.k:=cn 299 ⟨[e30,e1,e4,e6],[]⟩ sh1 λ(a,b,c,d,e,f,g,h)=>zM (a,b,c,d,e) f g h
def kG.k:=cn 298 cAb sh2 λ(a,b,c,d)=>kG a b c d
def zO.k:=cn 263 ⟨[e31,(1,ag5),e4,e6],[]⟩ ⟨[e7,e27],[o10]⟩ λ(a,b,c,d,e,f,g,h)=>zO a (b,c,d,e,f) g h
def dZ.k:=cn 168 ⟨[e31,e1,(2,ag3),e6,e9,e10,e12],[]⟩ ⟨[e7,e27],[o10]⟩ λ(a,b,c,d,e,f,g)=>dZ a b c d e f g
def aAo.k:=cn 68 sh9 ⟨[e49],[o17,o18,o32,o33,o34,o35,o19,o36,(8,ow1),o37,o1]⟩ λ(a,b,c)=>aAo (a,b,c)
def uQ.k:=cn 418 sh9 ⟨[e5,(1,cB9)],[o6,o1]⟩ λ(a,b,c)=>uQ (a,b,c)
def uM.k:=cn 405 sh6 sh5 uM
def cL.k:=cn 340 bY9 aIw λ(a,b,c,d,e)=>cL a b c d e
def yL.k:=cn 368 sh9 ⟨[e5,(1,ag7)],[o6,o7,o1]⟩ λ(a,b,c)=>yL (a,b,c)
def oA.k:=cn 303 sh9 aYz λ(a,b,c)=>oA (a,b,c)
def aAx.k:=cn 369 sh9 ⟨[(0,.agg [.any,.any]),e28],[o1]⟩ λ(a,b,c)=>aAx (a,b,c)
def aAj.k:=cn 302 sh9 ⟨[e5,(1,.agg [.var ti,.var ti,.var ti,.var (.sl tPp),.var ti,.var ti,.var ti,.var ti,.var ti,.row 0])],[o28,o1]⟩ λ(a,b,c)=>aAj (a,b,c)
def uO.k:=cn 435 aQd sh1 λ(a,b,c)=>uO (a,b,c)
def nF.k:=cn 419 sh6 sh1 nF
def jX.k:=cn 370 sh7 sh1 λ(a,b,c,d,e,f,g,h,i,j)=>jX (a,b,c,d,e,f,g,h,i,j)
def pI.k:=cn 371 ⟨[e26,e1,e4],[]⟩ sh1 λ(a,b,c,d,e,f,g,h,i,j,k,l,m,n,o)=>pI ((a,b),(c,d),(e,f,g),h,i,j,k,l,m) n o
def vF.k:=cn 210 bZ6 sh1 λ(a,b)=>vF a b
def mU.k:=cn 372 ⟨[e16,e29],[]⟩ sh1 λ(a,b,c,d,e,f,g,h,i,j,k,l,m,n,o,p,q,r,s,t)=>mU (a,b,c,d,e,f,g,h,i,j) (k,l,m,n,o,p,q,r,s,t)
def qV.k:=cn 304 ⟨[e26,(1,cBb)],[]⟩ sh1 λ(a,b,c,d,e,f,g,h,i,j,k,l,m,n,o,p,q,r,s,t,u,v,w,x,y,z,A,B)=>qV ((a,b),(c,d),(e,f,g),h,i,j,k,l,m) (n,o,p,(q,r,(s,t,u,v,w,x,y,z,A,B)))
def gN.k:=cn 373 ⟨[e31,e1],[]⟩ bIa λ(a,b)=>gN a b
def xS.k:=cn 305 bRd aTm λ(a,b,c,d)=>xS (a,b,c) d
def fF.k:=cn 374 aI0 aTn λ(a,b,c,d,e,f,g,h,i)=>fF (a,b,c,d,e,f,g,h,i)
def uI.k:=cn 375 aI0 aPx λ(a,b,c,d,e,f,g,h,i)=>uI (a,b,c,d,e,f,g,h,i)
def wZ.k:=cn 306 aI0 bY2 λ(a,b,c,d,e,f,g,h,i)=>wZ (a,b,c,d,e,f,g,h,i)
def qD.k:=cn 218 aUn aD4 λ(a,b,c,d,e,f,g,h,i,j,k,l,m,n,o,p,q,r,s,t,u,v,w,x,y)=>qD ((m,n),(o,p),(q,r,s),t,u,w,x,y,v) a b (c,d,e,f,g,h,i,j,k,l)
def qW.k:=cn 423 sh2 sh1 qW
def zN.k:=cn 424 sh2 sh1 zN
def sU.k:=cn 385 sh5 sh2 λ(a,b)=>sU a b
def cR.k:=cn 308 ⟨[e5,e53,e4],[]⟩ sh2 λ(a,b,c,d)=>cR (a,b) c d
def eO.k:=cn 376 sh7 sh2 λ(a,b,c,d,e,f,g,h,i,j)=>eO (a,b,c,d,e,f,g,h,i,j)
def uY.k:=cn 377 ⟨[e2,e29],[]⟩ bYq λ(a,b,c,d,e,f,g,h,i,j,k)=>uY a (b,c,d,e,f,g,h,i,j,k)
def jI.k:=cn 420 ⟨[e5,e29],[]⟩ aTn λ(a,b,c,d,e,f,g,h,i,j,k,l)=>jI (a,b) (c,d,e,f,g,h,i,j,k,l)
def kP.k:=cn 421 bP0 sh1 λ(a,b,c,d,e,f,g,h,i,j,k)=>kP (a,b,c,d,e,f,g,h,i,j) k
def pG.k:=cn 379 bY6 ⟨[e22,e1],[o6,o7]⟩ λ(a,b,c,d,e,f,g,h,i,j,k,l,m)=>pG (a,b) c (d,e,f,g,h,i,j,k,l,m)
def nM.k:=cn 381 sh7 sh1 λ(a,b,c,d,e,f,g,h,i,j)=>nM (a,b,c,d,e,f,g,h,i,j)
def iP.k:=cn 380 sh7 aIw λ(a,b,c,d,e,f,g,h,i,j)=>iP (a,b,c,d,e,f,g,h,i,j)
def lW.k:=cn 422 sh5 sh1 λ(a,b)=>lW a b
def pZ.k:=cn 383 ⟨[e5,e59],[]⟩ sh1 λ(a,b,c,d,e)=>pZ (a,b) (c,d,e)
def xI.k:=cn 384 sh5 sh1 λ(a,b)=>xI a b
def kM.k:=cn 307 bSn bYq λ(a,b,c,d,e,f,g,h,i,j,k,l,m,n,o,p)=>kM (a,b) c d e f (g,h,i,j,k,l,m,n,o,p)
def xU.k:=cn 425 aUk sh1 λ(a,b,c,d,e,f,g,h,i,j,k,l,m,n)=>xU (a,b,c,d) (e,f,g,h,i,j,k,l,m,n)
def pH.k:=cn 386 aUk bBa λ(a,b,c,d,e,f,g,h,i,j,k,l,m,n)=>pH (a,b,c,d) (e,f,g,h,i,j,k,l,m,n)
def nV.k:=cn 406 sh2 sh2 nV
def pR.k:=cn 341 bHl bGt λ(a,b,c,d)=>pR (a,b,c,d)
def iD.k:=cn 266 sh6 aQ1 iD
def aC0.k:=cn 426 bYp aIw λ(a,b,c,d,e,f,g,h,i,j,k,l,m)=>aC0 (a,b,c,d,e,f,g,h,i,j) k l m
def xH.k:=cn 387 aUk aTn λ(a,b,c,d,e,f,g,h,i,j,k,l,m,n)=>xH (a,b,c,d) (e,f,g,h,i,j,k,l,m,n)
def rF.k:=cn 388 ⟨[e21,e29],[]⟩ aPx λ(a,b,c,d,e,f,g,h,i,j,k,l,m,n,o,p,q,r,s)=>rF (a,b,c,d,e,f,g,h,i) (j,k,l,m,n,o,p,q,r,s)
def rT.k:=cn 440 aTs ⟨[e2,e1,e14],[]⟩ λ(a,b)=>rT a b
def rS.k:=cn 437 ⟨[e13,e1,e4],[]⟩ cAf λ(a,b,c)=>rS a b c
def jJ.k:=cn 428 aFu ⟨[e58,e27],[]⟩ jJ
def mZ.k:=cn 429 ⟨[e54,e59],[]⟩ ⟨[e54],[]⟩ λ(a,b,c,d)=>mZ a (b,c,d)
def jF.k:=cn 392 ⟨[e21,e29,e4],[]⟩ ⟨[(0,.agg [.var ti,.var ti,.var ti,.var ti,.row 0,.row 1,.var ti,.var ti,.var (.sl tRv)])],[o8,o21]⟩ λ(a,b,c,d,e,f,g,h,i,j,k,l,m,n,o,p,q,r,s,t)=>jF (a,b,c,d,e,f,g,h,i) (j,k,l,m,n,o,p,q,r,s) t
def oN.k:=cn 315 bH6 aD4 λ(a,b,c,d,e,f,g,h,i,j,k,l,m,n,o,p,q,r,s,t,u,v,w,x)=>oN ((l,m),(n,o),(p,q,r),s,t,v,w,x,u) a (b,c,d,e,f,g,h,i,j,k)
def uH.k:=cn 309 bH6 aD4 λ(a,b,c,d,e,f,g,h,i,j,k,l,m,n,o,p,q,r,s,t,u,v,w,x)=>uH ((l,m),(n,o),(p,q,r),s,t,v,w,x,u) a (b,c,d,e,f,g,h,i,j,k)
def rO.k:=cn 209 ⟨[(0,.one (.var (.sl tUs))),e1,e4,e6],[]⟩ sh2 λ(a,b,c,d)=>rO a b c d
def rC.k:=cn 389 bH1 sh2 λ(a,b,c,d,e,f)=>rC (a,b,c) d e f
def kN.k:=cn 207 bId sh2 λ(a,b,c,d,e)=>kN a b c d e
def xG.k:=cn 390 bH1 aTm λ(a,b,c,d,e,f)=>xG (a,b,c) d e f
def wS.k:=cn 208 bId sh2 λ(a,b,c,d,e)=>wS a b c d e
def mS.k:=cn 310 bQh bY1 λ(a,b,c,d,e,f,g)=>mS (a,b,c) d e f g
def uE.k:=cn 312 sh7 sh2 λ(a,b,c,d,e,f,g,h,i,j)=>uE (a,b,c,d,e,f,g,h,i,j)
def iH.k:=cn 314 sh7 ⟨[e42],[(0,bCu)]⟩ λ(a,b,c,d,e,f,g,h,i,j)=>iH (a,b,c,d,e,f,g,h,i,j)
def oC.k:=cn 436 aTs bA5 λ(a,b)=>oC a b
def sO.k:=cn 427 aPs bA5 sO
def jE.k:=cn 391 bGz bA5 λ(a,b,c)=>jE (a,b,c)
def gU.k:=cn 311 cAz aIw λ(a,b,c,d,e,f,g,h,i,j,k,l,m,n,o)=>gU (a,b) c d e (f,g,h,i,j,k,l,m,n,o)
def iC.k:=cn 218 aUn aD4 λ(a,b,c,d,e,f,g,h,i,j,k,l,m,n,o,p,q,r,s,t,u,v,w,x,y)=>iC ((m,n),(o,p),(q,r,s),t,u,w,x,y,v) a b (c,d,e,f,g,h,i,j,k,l)
def kL.k:=cn 309 bH6 aD4 λ(a,b,c,d,e,f,g,h,i,j,k,l,m,n,o,p,q,r,s,t,u,v,w,x)=>kL ((l,m),(n,o),(p,q,r),s,t,v,w,x,u) a (b,c,d,e,f,g,h,i,j,k)
def eN.k:=cn 218 aUn aD4 λ(a,b,c,d,e,f,g,h,i,j,k,l,m,n,o,p,q,r,s,t,u,v,w,x,y)=>eN ((m,n),(o,p),(q,r,s),t,u,w,x,y,v) a b (c,d,e,f,g,h,i,j,k,l)
def wF.k:=cn 216 bRj bAj λ(a,b,c,d,e,f,g,h,i,j,k,l,m)=>wF ((a,b),(c,d),(e,f,g),h,i,k,l,m,j)
def wI.k:=cn 217 bSe bYv λ(a,b,c,d,e,f,g,h,i,j,k,l,m,n)=>wI ((b,c),(d,e),(f,g,h),i,j,l,m,n,k) a
def yI.k:=cn 220 ⟨[e8,e1,e14],[o5,o3,o2,o4]⟩ bAj λ(a,b,c,d,e,f,g,h,i,j,k,l,m,n,o)=>yI ((c,d),(e,f),(g,h,i),j,k,m,n,o,l) a b
def aBa.k:=cn 221 cB7 bAj λ(a,b,c,d,e,f,g,h,i,j,k,l,m,n,o,p,q,r,s,t,u,v,w,x,y,z,A,B)=>aBa ((p,q),(r,s),(t,u,v),w,x,z,A,B,y) (a,b,c,(d,e,(f,g,h,i,j,k,l,m,n,o)))
def aC2.k:=cn 121 cB7 bAj λ(a,b,c,d,e,f,g,h,i,j,k,l,m,n,o,p,q,r,s,t,u,v,w,x,y,z,A,B)=>aC2 ((p,q),(r,s),(t,u,v),w,x,z,A,B,y) (a,b,c,(d,e,(f,g,h,i,j,k,l,m,n,o)))
def pD.k:=cn 215 cA0 ⟨[(0,.agg [.var ti,.var ti,.row 1,.var ti,.var ti,.var ti,.var ti,.var ti,.var (.sl tPp),.var ti,.var ti,.var ti,.var ti,.var ti,.row 0])],[o28,o7,o1,o42,o43,o44]⟩ λ(a,b,c,d,e,f,g,h,i,j,k,l,m,n,o,p)=>pD (k,l,m) ((a,b),(c,d),(e,f,g),h,i,n,o,p,j)
def uD.k:=cn 120 cA0 ⟨[(0,.agg [.var ti,.var ti,.row 0,.var ti,.var ti,.var ti,.var ti,.var ti,.var (.sl tPp),.var ti,.var ti,.var ti,.var ti,.var ti,.row 1])],[o28,o7,o1,o42,o43,o44]⟩ λ(a,b,c,d,e,f,g,h,i,j,k,l,m,n,o,p)=>uD (k,l,m) ((a,b),(c,d),(e,f,g),h,i,n,o,p,j)
def aAk.k:=cn 41 aTt ⟨[e49,(1,.one (.var (.sl iJ))),(2,.agg [.var (.sl tAS),.var (.sl tLk),.var (.sl tSg),.var (.sl tSg),.var ti,.var (.sl tRs),.var (.sl tUs),.var ti,.var (.sl ti),.row 10,.row 11,.row 12,.var ti])],[o17,o18,o32,o33,o34,o35,o19,o36,(8,ow1),o37,(10,ow2),(11,ow1),(12,ow3),o1]⟩ λ(a,b,c,d)=>aAk (b,c,d) a
def rM.k:=cn 71 aTt bZ5 λ(a,b,c,d)=>rM (b,c,d) a
def pV.k:=cn 24 aFu cAw pV
def aC9.k:=cn 74 sh5 sh2 λ(a,b)=>aC9 a b
def eV.k:=cn 28 aMf sh2 λ(a,b,c,d,e,f,g,h,i,j,k,l,m)=>eV ((a,b),(c,d),(e,f,g),h,i,j,k,l,m)
def oH.k:=cn 80 bI8 ⟨[e55],[o17,o18]⟩ λ(a,b)=>oH (a,b)
def rK.k:=cn 225 bRt ⟨[e7],[o23]⟩ rK
def pU.k:=cn 267 aQd bR3 λ(a,b,c)=>pU (a,b,c)
def mV.k:=cn 176 ⟨[(0,bSz)],[]⟩ bIb mV
def qP.k:=cn 81 ⟨[e56],[]⟩ bYs λ(a,b)=>qP (a,b)
def fG.k:=cn 229 ⟨[e31],[]⟩ bIa fG
def fQ.k:=cn 144 ⟨[e36],[]⟩ aTm λ(a,b,c)=>fQ (a,b,c)
def rB.k:=cn 145 aPs aI5 rB
def kX.k:=cn 135 sh6 aQ1 kX
def fV.k:=cn 136 aFu bA5 fV
def dV.k:=cn 48 sh7 aIw λ(a,b,c,d,e,f,g,h,i,j)=>dV (a,b,c,d,e,f,g,h,i,j)
def kK.k:=cn 230 ⟨[(0,bHv)],[]⟩ ⟨[e7],[o8]⟩ kK
def uW.k:=cn 231 aZ1 aUg uW
def eX.k:=cn 232 ⟨[e54],[]⟩ bQk eX
def kW.k:=cn 146 aI0 aPx λ(a,b,c,d,e,f,g,h,i)=>kW (a,b,c,d,e,f,g,h,i)
def oT.k:=cn 147 bS2 bBa λ(a,b,c,d)=>oT (a,b,c,d)
def mJ.k:=cn 57 aMf bBk λ(a,b,c,d,e,f,g,h,i,j,k,l,m)=>mJ ((a,b),(c,d),(e,f,g),h,i,j,k,l,m)
def bP.k:=cn 60 bPs sh1 λ(a,b,c)=>bP a b c
def wU.k:=cn 152 sh2 sh1 wU
def sQ.k:=cn 62 bHz sh1 λ(a,b,c)=>sQ (a,b) c
def aA5.k:=cn 153 ⟨[e5,(1,ag5)],[]⟩ sh1 λ(a,b,c,d,e,f,g)=>aA5 (a,b) (c,d,e,f,g)
def gG.k:=cn 133 bS1 sh1 λ(a,b,c,d,e,f,g)=>gG (a,b,c,d,e) f g
def nD.k:=cn 59 bI8 sh1 λ(a,b)=>nD (a,b)
def cG.k:=cn 157 bGz sh1 λ(a,b,c)=>cG (a,b,c)
def jC.k:=cn 242 bAg sh1 λ(a,b,c,d,e)=>jC (a,b,c,d,e)
def eR.k:=cn 244 bS1 sh1 λ(a,b,c,d,e,f,g)=>eR (a,b,c,d,e) f g
def kI.k:=cn 243 cAb sh2 λ(a,b,c,d)=>kI a b c d
def gZ.k:=cn 154 ⟨[e31,e1,e4],[]⟩ sh1 λ(a,b,c)=>gZ a b c
def pW.k:=cn 155 bH1 sh2 λ(a,b,c,d,e,f)=>pW (a,b,c) d e f
def wA.k:=cn 245 bId sh2 λ(a,b,c,d,e)=>wA a b c d e
def kO.k:=cn 246 bId sh2 λ(a,b,c,d,e)=>kO a b c d e
def xN.k:=cn 156 bQh sh2 λ(a,b,c,d,e,f,g)=>xN (a,b,c) d e f g
def lU.k:=cn 61 bRd sh1 λ(a,b,c,d)=>lU (a,b,c) d
def uT.k:=cn 63 aI0 sh1 λ(a,b,c,d,e,f,g,h,i)=>uT (a,b,c,d,e,f,g,h,i)
def rU.k:=cn 64 bS2 sh1 λ(a,b,c,d)=>rU (a,b,c,d)
def uZ.k:=cn 158 bZ6 sh1 λ(a,b)=>uZ a b
def nB.k:=cn 65 ⟨[(0,bHv),(1,bHv)],[]⟩ sh1 λ(a,b)=>nB a b
def lO.k:=cn 19 ⟨[e21,(1,cAu)],[]⟩ sh1 λ(a,b,c,d,e,f,g,h,i,j,k,l,m)=>lO (a,b,c,d,e,f,g,h,i) (j,k,l,m)
def kF.k:=cn 17 aMf sh1 λ(a,b,c,d,e,f,g,h,i,j,k,l,m)=>kF ((a,b),(c,d),(e,f,g),h,i,j,k,l,m)
def gQ.k:=cn 318 ⟨[e31,e1],[]⟩ bIa λ(a,b)=>gQ a b
def xO.k:=cn 233 bRd aTm λ(a,b,c,d)=>xO (a,b,c) d
def gK.k:=cn 51 sh2 sh1 gK
def gP.k:=cn 129 aP9 sh2 λ(a,b,c,d,e)=>gP (a,b,c,d) e
def gC.k:=cn 124 aP9 sh2 λ(a,b,c,d,e)=>gC (a,b,c,d) e
def mH.k:=cn 143 sh6 bTh mH
def uA.k:=cn 250 sh6 sh5 uA
def iU.k:=cn 161 bY9 aIw λ(a,b,c,d,e)=>iU a b c d e
def fE.k:=cn 319 aI0 aTn λ(a,b,c,d,e,f,g,h,i)=>fE (a,b,c,d,e,f,g,h,i)
def rE.k:=cn 320 aI0 sh2 λ(a,b,c,d,e,f,g,h,i)=>rE (a,b,c,d,e,f,g,h,i)
def wV.k:=cn 234 aI0 bY2 λ(a,b,c,d,e,f,g,h,i)=>wV (a,b,c,d,e,f,g,h,i)
def nI.k:=cn 150 aUn aD4 λ(a,b,c,d,e,f,g,h,i,j,k,l,m,n,o,p,q,r,s,t,u,v,w,x,y)=>nI ((m,n),(o,p),(q,r,s),t,u,w,x,y,v) a b (c,d,e,f,g,h,i,j,k,l)
def rI.k:=cn 132 bSj aPs λ(a,b)=>rI a b
def sH.k:=cn 44 bHz aPs λ(a,b,c)=>sH (a,b) c
def mG.k:=cn 46 aP2 sh2 λ(a,b,c,d)=>mG (a,b) c d
def tL.k:=cn 45 bSj sh1 λ(a,b)=>tL a b
def rP.k:=cn 134 sh2 sh1 rP
def sF.k:=cn 47 sh5 sh2 λ(a,b)=>sF a b
def dI.k:=cn 11 ⟨[e5,e53,e4],[]⟩ sh2 λ(a,b,c,d)=>dI (a,b) c d
def mT.k:=cn 122 ⟨[e2,(1,.one (.ptr 1000001 0))],[(1000001,ob7)]⟩ ⟨[(0,bZn)],[o6,o7,(1000001,ob7)]⟩ λ(a,b,c,d,e,f,g,h,i,j,k)=>mT a (b,c,d,e,f,g,h,i,j,k)
def eB.k:=cn 137 sh2 sh1 eB
def nX.k:=cn 138 bAg sh1 λ(a,b,c,d,e)=>nX (a,b,c,d,e)
def nE.k:=cn 316 bRt sh1 nE
def nA.k:=cn 222 sh6 sh1 nA
def xQ.k:=cn 49 sh7 sh1 λ(a,b,c,d,e,f,g,h,i,j)=>xQ (a,b,c,d,e,f,g,h,i,j)
def eP.k:=cn 15 sh7 sh2 λ(a,b,c,d,e,f,g,h,i,j)=>eP (a,b,c,d,e,f,g,h,i,j)
def qB.k:=cn 123 sh7 sh1 λ(a,b,c,d,e,f,g,h,i,j)=>qB (a,b,c,d,e,f,g,h,i,j)
def aA1.k:=cn 227 ⟨[e5,(1,bJn)],[]⟩ sh1 λ(a,b,c)=>aA1 (a,b) c
def mK.k:=cn 228 aP2 sh5 λ(a,b,c,d)=>mK (a,b) c d
def uL.k:=cn 140 bQ8 sh1 λ(a,b,c,d,e,f)=>uL (a,b) (c,d,e,f)
def wG.k:=cn 141 sh2 sh2 wG
def lN.k:=cn 55 aZa sh1 λ(a,b,c)=>lN (a,b) c
def zB.k:=cn 142 ⟨[(0,.one (.var (.sl mR)))],[]⟩ aI5 zB
def gS.k:=cn 56 sh6 aI5 gS
def sS.k:=cn 14 aZa sh1 λ(a,b,c)=>sS (a,b) c
def xT.k:=cn 50 sh5 sh2 λ(a,b)=>xT a b
def xV.k:=cn 52 sh5 sh2 λ(a,b)=>xV a b
def aH4.k:=cn 393 sh5 sh2 λ(a,b)=>aH4 a b
def aA4.k:=cn 317 aPs sh2 aA4
def vC.k:=cn 226 bR0 sh2 λ(a,b)=>vC a b
def aBc.k:=cn 139 bQb sh2 λ(a,b,c,d,e,f,g,h)=>aBc a b c (d,e,f,g,h)
def uJ.k:=cn 53 bZt sh1 λ(a,b,c,d,e,f,g,h,i)=>uJ (a,b) c d (e,f,g,h,i)
def jK.k:=cn 12 ⟨[e5,e29],[]⟩ aTn λ(a,b,c,d,e,f,g,h,i,j,k,l)=>jK (a,b) (c,d,e,f,g,h,i,j,k,l)
def vG.k:=cn 54 ⟨[e30,e1],[]⟩ sh1 λ(a,b,c,d,e,f)=>vG (a,b,c,d,e) f
def hP.k:=cn 13 bP0 sh1 λ(a,b,c,d,e,f,g,h,i,j,k)=>hP (a,b,c,d,e,f,g,h,i,j) k
def mP.k:=cn 125 bY6 bP0 λ(a,b,c,d,e,f,g,h,i,j,k,l,m)=>mP (a,b) c (d,e,f,g,h,i,j,k,l,m)
def iL.k:=cn 126 sh7 sh1 λ(a,b,c,d,e,f,g,h,i,j)=>iL (a,b,c,d,e,f,g,h,i,j)
def mI.k:=cn 127 sh7 sh1 λ(a,b,c,d,e,f,g,h,i,j)=>mI (a,b,c,d,e,f,g,h,i,j)
def nS.k:=cn 128 sh7 aIw λ(a,b,c,d,e,f,g,h,i,j)=>nS (a,b,c,d,e,f,g,h,i,j)
def lC.k:=cn 224 aP2 sh2 λ(a,b,c,d)=>lC (a,b) c d
def lS.k:=cn 223 sh5 sh1 λ(a,b)=>lS a b
def pS.k:=cn 130 ⟨[e5,e59],[]⟩ sh1 λ(a,b,c,d,e)=>pS (a,b) (c,d,e)
def wD.k:=cn 131 sh5 sh1 λ(a,b)=>wD a b
def tM.k:=cn 43 bSn ⟨[(0,bJ6),e1],[]⟩ λ(a,b,c,d,e,f,g,h,i,j,k,l,m,n,o,p)=>tM (a,b) c d e f (g,h,i,j,k,l,m,n,o,p)
def uR.k:=cn 394 bH1 sh2 λ(a,b,c,d,e,f)=>uR (a,b,c) d e f
def wH.k:=cn 321 bQh bY1 λ(a,b,c,d,e,f,g)=>wH (a,b,c) d e f g
def mL.k:=cn 235 ⟨[e8,e1,(2,bJ6)],[o5,o3,o2,o4]⟩ aD4 λ(a,b,c,d,e,f,g,h,i,j,k,l,m,n,o,p,q,r,s,t,u,v,w,x,y,z)=>mL ((n,o),(p,q),(r,s,t),u,v,x,y,z,w) a (b,c,(d,e,f,g,h,i,j,k,l,m))
def rN.k:=cn 86 cBl sh2 λ(a,b,c)=>rN a b c
def uX.k:=cn 322 aUk sh1 λ(a,b,c,d,e,f,g,h,i,j,k,l,m,n)=>uX (a,b,c,d) (e,f,g,h,i,j,k,l,m,n)
def oU.k:=cn 236 aUk bBa λ(a,b,c,d,e,f,g,h,i,j,k,l,m,n)=>oU (a,b,c,d) (e,f,g,h,i,j,k,l,m,n)
def qA.k:=cn 247 sh2 sh2 qA
def uN.k:=cn 248 aP9 sh2 λ(a,b,c,d,e)=>uN (a,b,c,d) e
def oK.k:=cn 249 bRt ⟨[e7],[o23]⟩ oK
def pQ.k:=cn 159 bHl bGt λ(a,b,c,d)=>pQ (a,b,c,d)
def iE.k:=cn 66 sh6 aQ1 iE
def aC4.k:=cn 323 bYp aIw λ(a,b,c,d,e,f,g,h,i,j,k,l,m)=>aC4 (a,b,c,d,e,f,g,h,i,j) k l m
def wB.k:=cn 237 aUk aTn λ(a,b,c,d,e,f,g,h,i,j,k,l,m,n)=>wB (a,b,c,d) (e,f,g,h,i,j,k,l,m,n)
def uP.k:=cn 324 ⟨[e21,e29],[]⟩ aPx λ(a,b,c,d,e,f,g,h,i,j,k,l,m,n,o,p,q,r,s)=>uP (a,b,c,d,e,f,g,h,i) (j,k,l,m,n,o,p,q,r,s)
def rY.k:=cn 438 aTs ⟨[e2,e1,e14],[]⟩ λ(a,b)=>rY a b
def rX.k:=cn 430 ⟨[e13,e1,e4],[]⟩ cAf λ(a,b,c)=>rX a b c
def jO.k:=cn 395 aFu ⟨[e58,e27],[]⟩ jO
def wM.k:=cn 343 ⟨[e15,e59],[]⟩ sh1 λ(a,b,c,d)=>wM a (b,c,d)
def nH.k:=cn 396 ⟨[e54,e59],[]⟩ bQk λ(a,b,c,d)=>nH a (b,c,d)
def jB.k:=cn 325 ⟨[e21,e29,e4],[]⟩ aPx λ(a,b,c,d,e,f,g,h,i,j,k,l,m,n,o,p,q,r,s,t)=>jB (a,b,c,d,e,f,g,h,i) (j,k,l,m,n,o,p,q,r,s) t
def iI.k:=cn 238 bH6 aD4 λ(a,b,c,d,e,f,g,h,i,j,k,l,m,n,o,p,q,r,s,t,u,v,w,x)=>iI ((l,m),(n,o),(p,q,r),s,t,v,w,x,u) a (b,c,d,e,f,g,h,i,j,k)
def aKe.k:=cn 23 sh5 sh2 λ(a,b)=>aKe a b
def iQ.k:=cn 241 sh7 ⟨[e42],[(0,bCu)]⟩ λ(a,b,c,d,e,f,g,h,i,j)=>iQ (a,b,c,d,e,f,g,h,i,j)
def oL.k:=cn 439 aTs bA5 λ(a,b)=>oL a b
def sJ.k:=cn 431 ⟨[e13,e53],[]⟩ aFu λ(a,b)=>sJ a b
def rR.k:=cn 397 aPs aFu rR
def jG.k:=cn 326 bGz aFu λ(a,b,c)=>jG (a,b,c)
def jR.k:=cn 239 cAz aIw λ(a,b,c,d,e,f,g,h,i,j,k,l,m,n,o)=>jR (a,b) c d e (f,g,h,i,j,k,l,m,n,o)
def sV.k:=cn 240 sh6 sh2 sV
def eM.k:=cn 150 aUn aD4 λ(a,b,c,d,e,f,g,h,i,j,k,l,m,n,o,p,q,r,s,t,u,v,w,x,y)=>eM ((m,n),(o,p),(q,r,s),t,u,w,x,y,v) a b (c,d,e,f,g,h,i,j,k,l)
def cF.k:=cn 150 aUn aD4 λ(a,b,c,d,e,f,g,h,i,j,k,l,m,n,o,p,q,r,s,t,u,v,w,x,y)=>cF ((m,n),(o,p),(q,r,s),t,u,w,x,y,v) a b (c,d,e,f,g,h,i,j,k,l)
def oF.k:=cn 148 bRj bAj λ(a,b,c,d,e,f,g,h,i,j,k,l,m)=>oF ((a,b),(c,d),(e,f,g),h,i,k,l,m,j)
def mQ.k:=cn 149 bSe bYv λ(a,b,c,d,e,f,g,h,i,j,k,l,m,n)=>mQ ((b,c),(d,e),(f,g,h),i,j,l,m,n,k) a
def iB.k:=cn 170 bSe aD4 λ(a,b,c,d,e,f,g,h,i,j,k,l,m,n)=>iB ((b,c),(d,e),(f,g,h),i,j,l,m,n,k) a
def lB.k:=cn 70 bRj aD4 λ(a,b,c,d,e,f,g,h,i,j,k,l,m)=>lB ((a,b),(c,d),(e,f,g),h,i,k,l,m,j)
def uK.k:=cn 22 ⟨[e26,e1],[]⟩ bBk λ(a,b,c,d,e,f,g,h,i,j,k,l,m,n)=>uK ((a,b),(c,d),(e,f,g),h,i,j,k,l,m) n
def aAi.k:=cn 18 aMf bBk λ(a,b,c,d,e,f,g,h,i,j,k,l,m)=>aAi ((a,b),(c,d),(e,f,g),h,i,j,k,l,m)
def aC5.k:=cn 77 sh9 cBc λ(a,b,c)=>aC5 (a,b,c)
def aAp.k:=cn 79 sh9 aYz λ(a,b,c)=>aAp (a,b,c)
def qY.k:=cn 404 sh9 ⟨[e30],[o1]⟩ λ(a,b,c)=>qY (a,b,c)
def yJ.k:=cn 337 sh9 bTl λ(a,b,c)=>yJ (a,b,c)
def aAl.k:=cn 338 sh9 ⟨[e30],[o1]⟩ λ(a,b,c)=>aAl (a,b,c)
def aAm.k:=cn 264 sh9 bTl λ(a,b,c)=>aAm (a,b,c)
def aAr.k:=cn 171 aTt bZ5 λ(a,b,c,d)=>aAr (b,c,d) a
def wN.k:=cn 72 aTs ⟨[(0,.one (.ptr 0 0)),(1,.agg [.var (.sl tAS),.var (.sl tLk),.var (.sl tSg),.var (.sl tSg),.var ti,.var (.sl tRs),.var (.sl tUs),.var ti,.var (.sl ti),.row 1,.row 2,.row 3,.var ti])],[(0,ob1),(1,ow2),(2,ow1),(3,ow3)]⟩ λ(a,b)=>wN a b
def jL.k:=cn 25 aFu cAw jL
def wL.k:=cn 10 bSn ⟨[(0,bJ6)],[]⟩ λ(a,b,c,d,e,f,g,h,i,j,k,l,m,n,o,p)=>wL (a,b) c d e f (g,h,i,j,k,l,m,n,o,p)
def tW.k:=cn 160 bVs ⟨[(0,.agg [.var ti,.row 0,.var ti,.var ti,.var ti,.var (.sl tPp),.var ti,.var ti,.var ti,.var ti,.var ti,.var (.sl tb)])],[(0,aNk)]⟩ λ(a,b,c,d,e,f,g,h,i,j,k,l,m,n)=>tW (a,b) c d (e,f,g,h,i,j,k,l,m,n)
def xD.k:=cn 67 bU9 sh1 λ(a,b,c,d,e)=>xD (a,b) c d e
def iF.k:=cn 20 bR6 sh2 λ(a,b,c,d,e,f,g,h,i,j,k,l,m,n,o,p,q,r,s,t,u,v)=>iF ((a,b),(c,d),(e,f,g),h,i,j,k,l,m) (n,o,p,q,r,s,t,u,v)
def oG.k:=cn 26 aMf sh1 λ(a,b,c,d,e,f,g,h,i,j,k,l,m)=>oG ((a,b),(c,d),(e,f,g),h,i,j,k,l,m)
def mD.k:=cn 172 aMf sh2 λ(a,b,c,d,e,f,g,h,i,j,k,l,m)=>mD ((a,b),(c,d),(e,f,g),h,i,j,k,l,m)
def tY.k:=cn 339 bVs ⟨[(0,.agg [.var ti,.row 0,.var ti,.var ti,.var ti,.row 1,.var ti,.var ti,.var ti,.var ti,.var ti,.row 2])],[(0,aNk),(1,ow4),(2,ow6)]⟩ λ(a,b,c,d,e,f,g,h,i,j,k,l,m,n)=>tY (a,b) c d (e,f,g,h,i,j,k,l,m,n)
def wT.k:=cn 265 bU9 sh1 λ(a,b,c,d,e)=>wT (a,b) c d e
def xA.k:=cn 173 ⟨[e26,e28,e4],[]⟩ sh1 λ(a,b,c,d,e,f,g,h,i,j,k,l,m,n,o)=>xA ((a,b),(c,d),(e,f,g),h,i,j,k,l,m) n o
def pP.k:=cn 73 bR6 sh2 λ(a,b,c,d,e,f,g,h,i,j,k,l,m,n,o,p,q,r,s,t,u,v)=>pP ((a,b),(c,d),(e,f,g),h,i,j,k,l,m) (n,o,p,q,r,s,t,u,v)
def oJ.k:=cn 27 aMf sh1 λ(a,b,c,d,e,f,g,h,i,j,k,l,m)=>oJ ((a,b),(c,d),(e,f,g),h,i,j,k,l,m)
def l_FnSettles.k:=cn 6 aFu sh1 l_FnSettles
end

end Go.Proofs.YtnkjolpkcmgcaaaGreat
