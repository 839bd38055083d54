/-
  Contracts of the functions of the program. Conditions: none.
-/
import Derived.Test.YtnkjolpkcmgcaaaGreatT0FnWorlds
import Derived.Test.YtnkjolpkcmgcaaaGreatProg
import Derived.KernelRfl
set_option linter.unusedVariables false
set_option linter.unusedSimpArgs false
set_option maxRecDepth 100000
namespace Go.Proofs.YtnkjolpkcmgcaaaGreat
open Go.Ab Go.V
noncomputable section
theorem follows:Tryz.prog.follows .mixedOrders=true:=by kernel_rfl
theorem _root_.Go.V.Con.Ok.c{P:Program}{c:Con}{E:List Con}(h:c.Ok P)(k:aFn P E):aFn P (c::E):=⟨h,k⟩
theorem fk{E:List Con}{c:Con}{fn:Func}(hf:Tryz.prog.funcs[c.f]? =some fn)(k:aFn Tryz.prog E)(pl:Plan)(e:∀x,bPh Tryz.prog E fn pl c.pre c.post x=c.sem x:=by intro x;kernel_rfl)(hn:(fn.name=="runtime.NumGoroutine")=false:=by rfl):c.Ok Tryz.prog:=cAe hf hn follows (aFn.mem k) λx y h=>(e x).trans h
theorem nok:aFn Tryz.prog []:=trivial
abbrev cn(f:FuncId)(a b:Sh)(s:vB a.tys->Option (vB b.tys)):Con:=⟨f,a,b,false,s⟩
abbrev OK(c:Con):Prop:=c.Ok Tryz.prog
abbrev _root_.Go.V.Plan.q(p:Plan):Plan:= .seq .z p
def ow1:OT:= .row 207 3 tSg true
def ow2:OT:= .row 46 1 tPt true
def ow3:OT:= .row 3 1 ti true
def ow4:OT:= .row 71 9 tFl false
def ow5:OT:= .row 50 12 tFy false
def ow6:OT:= .row 256 5 tRs true
def ow7:OT:= .row 104 4 tPp true
def ow8:OT:= .row 73 4 tIb false
def ow9:OT:= .row 5 1 tb true
def aLt:OT:= .row 175 3 tAS true
def aJ0:OT:= .row 106 5 bP true
def aE4:OT:= .row 195 1 tMs true
def aGo:OT:= .row 167 5 tLk true
def aEc:OT:= .row 191 4 tUs true
def aXv:OT:= .row 46 1 tPt false
def aBw:OT:= .row 197 3 tRv true
def aDt:OT:= .row 50 12 tFy true
def aG0:OT:= .row 73 4 tIb true
def aTh:OT:= .row 164 3 aBe true
def aH9:OT:= .row 71 9 tFl true
def aSn:OT:= .row 104 4 tPp false
def bOf:OT:= .row 63 15 iI false
def ob1:OT:= .box [.var (.sl tb),.var ti,.var ti]
def ob2:OT:= .box [.var (.sl tAS),.var (.sl tLk),.var (.sl tSg),.var (.sl tSg),.var ti,.var (.sl tRs),.var (.sl tUs),.var ti,.var (.sl ti),.row 0,.row 1,.row 2,.var ti]
def ob3:OT:= .box [.var (.sl tAS),.var (.sl tLk)]
def ob4:OT:= .box [.row 300001]
def ob5:OT:= .box [.var (.sl tAS),.var (.sl tLk),.var (.sl tSg),.var (.sl tSg),.var ti,.var (.sl tRs),.var (.sl tUs),.var ti,.var (.sl ti),.row 300001,.row 300002,.row 300003,.var ti]
def ob6:OT:= .box [.row 300001,.row 300003]
def ob7:OT:= .box [.row 300001,.row 300002]
def ob8:OT:= .box [.var ti,.var ti,.var ti,.row 300001]
def ob9:OT:= .box [.var ti,.var ti,.var ti,.var ti,.row 300001,.row 300002,.var ti,.var ti,.row 300003]
def bGf:OT:= .box [.var ti,.var ti,.row 300003]
def bDg:OT:= .box [.row 300005]
def bM5:OT:= .box [.row 300001,.nil]
def bQj:OT:= .box [.var ti,.var ti,.var ti,.var ti,.var ti]
def bNo:OT:= .box [.row 1208,.row 1209,.row 1272,.row 1273,.var ti,.row 1336,.row 1337,.var ti,.row 1400,.row 300001,.nil,.nil,.var ti]
def bNe:OT:= .box [.row 1208,.row 1209,.row 1272,.row 1273,.var ti,.row 1336,.row 1337,.var ti,.row 1400,.row 300001,.row 300002,.nil,.var ti]
def bOj:OT:= .box [.var ti,.var ti,.row 300004]
def bYd:OT:= .box [.var ti,.var ti,.row 300001]
def bYv:OT:= .box [.row 1160,.row 1208]
def bY9:OT:= .box [.var ti,.var .bool,.var ti]
def bZd:OT:= .box [.var ti,.var ti,.var ti,.nil]
def bY6:OT:= .box [.var ti,.var ti,.var ti]
def bYf:OT:= .box [.row 1128,.row 1129,.row 1130,.row 1131,.var ti,.row 1132,.row 1133,.var ti,.row 1134,.row 1135,.row 1136,.row 1137,.var ti]
def bXs:OT:= .box [.row 300007,.row 300008,.row 300009,.row 300010,.var ti,.row 300006,.row 300011,.var ti,.row 300012,.row 300013,.row 300014,.row 300015,.var ti]
def bWg:OT:= .box [.var ti,.var ti,.var ti,.var ti,.row 300003,.row 300004,.var ti,.var ti,.row 300005]
def bZj:OT:= .box [.row 1208,.row 1209,.row 1272,.row 1273,.var ti,.row 1336,.row 1337,.var ti,.row 1400,.row 300001,.row 300002,.row 300003,.var ti]
def bZh:OT:= .box [.var (.sl tPp)]
def bW4:OT:= .box [.var ti,.var ti,.var ti,.var (.sl tPp),.var ti,.var ti,.var ti,.var ti,.var ti,.row 1161]
def bW6:OT:= .box [.var ti,.var ti,.var ti,.row 300001,.var ti,.var ti,.var ti,.var ti,.var ti,.row 300002]
def cB2:OT:= .box [.var ti,.var ti,.var ti,.row 1544]
def cBv:OT:= .box [.var ti,.var ti,.var ti,.var ti,.row 2312,.row 2313,.var ti,.var ti,.row 2314]
def bWk:OT:= .box [.var ti,.var ti,.var ti,.var (.sl tPp),.var ti,.var ti,.var ti,.var ti,.var ti,.var (.sl tb)]
def cB7:OT:= .box [.var ti,.var ti,.var ti,.var ti,.var ti,.row 1560,.var ti,.var ti,.var ti,.var ti,.var ti,.row 1561]
def cBk:OT:= .box [.var ti,.row 2152,.row 2153]
def cBb:OT:= .box [.var (.sl tAS),.var (.sl tLk),.var (.sl tSg),.var (.sl tSg),.var ti,.row 2152,.row 2153,.var ti,.var (.sl ti),.row 0,.row 1,.row 2,.var ti]
def cB0:OT:= .box [.var ti,.var ti,.var ti,.row 2904,.var ti,.var ti,.var ti,.var ti,.var ti,.row 2905]
def bYz:OT:= .box [.var ti,.var ti,.nil,.var ti,.var ti,.var ti,.var ti,.var ti,.var (.sl tPp),.var ti,.var ti,.var ti,.var ti,.var ti,.row 300001]
def bZa:OT:= .box [.var ti,.row 300001,.row 1177]
def bYg:OT:= .box [.var ti,.row 300001,.row 300002]
def ag1:ST:= .agg [.var (.sl tAS),.var (.sl tLk)]
def ag2:ST:= .agg [.var ti,.var ti,.var (.sl bP)]
def ag3:ST:= .agg [.var (.sl tPp)]
def ag4:ST:= .agg [.var ti,.var ti,.var ti,.var (.sl tPp),.var ti,.var ti,.var ti,.var ti,.var ti,.var (.sl tb)]
def ag5:ST:= .agg [.var ti,.var ti,.var ti,.var ti,.var ti]
def ag6:ST:= .agg [.var ti,.var ti,.var ti,.var (.sl bP)]
def ag7:ST:= .agg [.var ti,.var ti,.var ti,.var ti,.var (.sl tMs),.var (.sl tPt),.var ti,.var ti,.var (.sl tRv)]
def ag8:ST:= .agg [.var (.sl tSg),.var (.sl tSg)]
def ag9:ST:= .agg [.var ti,.var (.sl tRs),.var (.sl tUs)]
def bQp:ST:= .agg [.var ti,.var ti,.var ti,.var (.sl tMs)]
def bXv:ST:= .agg [.var (.sl tAS),.var (.sl tLk),.var (.sl tSg),.var (.sl tSg),.var ti,.var (.sl tRs),.var (.sl tUs),.var ti,.var (.sl ti),.var (.sl tFy),.var (.sl tFl),.var (.sl tIb),.var ti]
def bXm:ST:= .agg [.var ti,.var ti,.var ti,.row 0,.var ti,.var ti,.var ti,.var ti,.var ti,.row 1]
def bYo:ST:= .agg [.row 0]
def bMx:ST:= .agg [.row 0,.row 1]
def cBn:ST:= .agg [.var ti,.row 0,.row 1]
def cBs:ST:= .agg [.var ti,.var ti,.var ti,.row 0]
def cBz:ST:= .agg [.row 0,.row 1,.row 2,.row 3,.var ti,.row 4,.row 5,.var ti,.row 6,.row 7,.row 8,.row 9,.var ti]
def cBy:ST:= .agg [.var ti,.var ti,.var ti,.var ti,.row 0,.row 1,.var ti,.var ti,.row 2]
def aYi:ST:= .agg [.var ti,.var ti,.var ti]
def bXa:ST:= .agg [.var ti,.var ti,.row 0]
def bPm:ST:= .agg [.var (.sl tAS),.var (.sl tLk),.var (.sl tSg),.var (.sl tSg),.var ti,.var (.sl tRs),.var (.sl tUs),.var ti,.var (.sl ti),.row 0,.row 1,.row 2,.var ti]
def bXf:ST:= .agg [.var ti,.var ti,.var (.sl tb),.var ti,.var ti,.var ti,.var ti,.var ti,.var (.sl tPp),.var ti,.var ti,.var ti,.var ti,.var ti,.var (.sl tb)]
def cBq:ST:= .agg [.var ti,.var ti,.var ti,.var ti,.var ti,.row 0,.var ti,.var ti,.var ti,.var ti,.var ti,.row 1]
def cBg:ST:= .agg [.var (.sl tAS),.var (.sl tLk),.var (.sl tSg),.var (.sl tSg),.var ti,.var (.sl tRs),.var (.sl tUs),.var ti,.var (.sl ti),.row 1001109,.row 1001110,.row 1001111,.var ti]
def vr1:ST:= .one (.var ti)
def vr2:ST:= .one (.var .bool)
def vr3:ST:= .one (.row 300001)
def vr4:ST:= .one (.row 0)
def vr5:ST:= .one (.ptr 1000000 0)
def vr6:ST:= .one (.var (.sl tb))
def vr7:ST:= .one (.var (.sl ti))
def vr8:ST:= .one (.var (.sl tPt))
def vr9:ST:= .one (.row 7)
def bW0:ST:= .one (.row 6)
def bX9:ST:= .one (.var (.sl tRs))
def aSv:ST:= .one (.row 10)
def cBc:ST:= .one (.row 1624)
def bMz:ST:= .one (.var (.sl tRv))
def bPd:ST:= .one (.var (.sl bP))
def aYn:ST:= .one (.row 15)
def aXd:ST:= .one (.var (.sl tSg))
def cB3:ST:= .one (.ptr 7 0)
def bGd:ST:= .one (.var (.sl tMs))
def cBi:ST:= .one (.row 5)
def aXj:ST:= .one (.row 14)
def bXl:ST:= .one (.ptr 11 0)
def bEf:ST:= .one (.row 16)
def bWo:ST:= .one (.var (.sl tIb))
def bN4:ST:= .one (.row 127)
def bO1:ST:= .one (.row 300002)
def e1:Nat×ST:=(0,vr2)
def e2:Nat×ST:=(0,vr1)
def e3:Nat×ST:=(1,vr1)
def e4:Nat×ST:=(2,vr1)
def e5:Nat×ST:=(0,ag1)
def e6:Nat×ST:=(3,vr1)
def e7:Nat×ST:=(0,vr4)
def e8:Nat×ST:=(5,vr1)
def e9:Nat×ST:=(0,vr5)
def e10:Nat×ST:=(4,vr2)
def e11:Nat×ST:=(4,vr1)
def e12:Nat×ST:=(3,vr3)
def e13:Nat×ST:=(6,vr1)
def e14:Nat×ST:=(0,ag2)
def e15:Nat×ST:=(11,vr3)
def e16:Nat×ST:=(0,ag3)
def e17:Nat×ST:=(2,vr2)
def e18:Nat×ST:=(9,vr1)
def e19:Nat×ST:=(1,ag3)
def e20:Nat×ST:=(0,vr6)
def e21:Nat×ST:=(1,ag2)
def e22:Nat×ST:=(8,vr1)
def e23:Nat×ST:=(3,bW0)
def e24:Nat×ST:=(7,vr1)
def e25:Nat×ST:=(0,ag7)
def e26:Nat×ST:=(13,vr1)
def e27:Nat×ST:=(5,vr9)
def e28:Nat×ST:=(0,bX9)
def e29:Nat×ST:=(0,vr8)
def e30:Nat×ST:=(0,ag6)
def e31:Nat×ST:=(0,ag4)
def e32:Nat×ST:=(9,cBc)
def e33:Nat×ST:=(0,ag5)
def e34:Nat×ST:=(0,ag9)
def e35:Nat×ST:=(0,bXv)
def e36:Nat×ST:=(0,ag8)
def e37:Nat×ST:=(1,vr2)
def e38:Nat×ST:=(0,bXm)
def e39:Nat×ST:=(0,bMz)
def e40:Nat×ST:=(1,ag4)
def e41:Nat×ST:=(5,vr3)
def e42:Nat×ST:=(10,vr1)
def e43:Nat×ST:=(1,ag8)
def e44:Nat×ST:=(0,cBn)
def e45:Nat×ST:=(0,cBs)
def e46:Nat×ST:=(0,bYo)
def e47:Nat×ST:=(0,bQp)
def e48:Nat×ST:=(7,aSv)
def e49:Nat×ST:=(0,vr7)
def e50:Nat×ST:=(1,vr7)
def e51:Nat×ST:=(0,cBz)
def e52:Nat×ST:=(0,cBy)
def e53:Nat×ST:=(6,vr2)
def e54:Nat×ST:=(12,vr2)
def e55:Nat×ST:=(34,vr2)
def e56:Nat×ST:=(0,bPd)
def e57:Nat×ST:=(1,ag6)
def e58:Nat×ST:=(7,cB3)
def e59:Nat×ST:=(0,bMx)
def e60:Nat×ST:=(3,cBi)
def e61:Nat×ST:=(11,vr1)
def e62:Nat×ST:=(12,vr1)
def e63:Nat×ST:=(7,aYn)
def e64:Nat×ST:=(7,.one (.row 18))
def e65:Nat×ST:=(7,.one (.row 9))
def e66:Nat×ST:=(7,.one (.row 29))
def o1:Nat×OT:=(1000000,ob1)
def o2:Nat×OT:=(1,ow4)
def o3:Nat×OT:=(0,ow5)
def o4:Nat×OT:=(2,ow8)
def o5:Nat×OT:=(1000000,ob2)
def o6:Nat×OT:=(300001,aXv)
def o7:Nat×OT:=(0,ow7)
def o8:Nat×OT:=(0,aE4)
def o9:Nat×OT:=(1,ow9)
def o10:Nat×OT:=(0,ow6)
def o11:Nat×OT:=(300001,ow3)
def o12:Nat×OT:=(0,aLt)
def o13:Nat×OT:=(1,aGo)
def o14:Nat×OT:=(300001,aLt)
def o15:Nat×OT:=(300001,ow1)
def o16:Nat×OT:=(1624,ow2)
def o17:Nat×OT:=(0,ow3)
def o18:Nat×OT:=(0,aJ0)
def o19:Nat×OT:=(6,ow3)
def o20:Nat×OT:=(300001,ow7)
def o21:Nat×OT:=(0,ow1)
def o22:Nat×OT:=(300001,aJ0)
def o23:Nat×OT:=(300001,ow2)
def o24:Nat×OT:=(15,ow2)
def o25:Nat×OT:=(300002,ow4)
def o26:Nat×OT:=(1,aEc)
def o27:Nat×OT:=(1,ow2)
def o28:Nat×OT:=(300003,aGo)
def o29:Nat×OT:=(2,ob3)
def o30:Nat×OT:=(3,ob4)
def o31:Nat×OT:=(300001,ow5)
def o32:Nat×OT:=(300003,ow8)
def o33:Nat×OT:=(2,ow1)
def o34:Nat×OT:=(3,ow1)
def o35:Nat×OT:=(4,ow6)
def o36:Nat×OT:=(5,aEc)
def o37:Nat×OT:=(7,aDt)
def o38:Nat×OT:=(9,aG0)
def o39:Nat×OT:=(2,aBw)
def o40:Nat×OT:=(0,ow9)
def o41:Nat×OT:=(3,ob6)
def o42:Nat×OT:=(0,ow2)
def o43:Nat×OT:=(10,aTh)
def o44:Nat×OT:=(10,ow2)
def o45:Nat×OT:=(300001,ow6)
def o46:Nat×OT:=(300001,aTh)
def o47:Nat×OT:=(1000000,ob5)
def o48:Nat×OT:=(300002,ow1)
def o49:Nat×OT:=(300002,ow2)
def o50:Nat×OT:=(1001109,ow5)
def o51:Nat×OT:=(1001110,ow4)
def o52:Nat×OT:=(1001111,ow8)
def o53:Nat×OT:=(300001,aE4)
def o54:Nat×OT:=(300003,aJ0)
def o55:Nat×OT:=(0,.row 175 3 tAS false)
def o56:Nat×OT:=(1,.row 167 5 tLk false)
def k0:Nat×ST:=(0,.keep)
def k1:Nat×ST:=(1,.keep)
def k2:Nat×ST:=(2,.keep)
def k3:Nat×ST:=(3,.keep)
def k4:Nat×ST:=(4,.keep)
def k5:Nat×ST:=(5,.keep)
def k6:Nat×ST:=(6,.keep)
def k7:Nat×ST:=(7,.keep)
def k8:Nat×ST:=(8,.keep)
def k9:Nat×ST:=(9,.keep)
def k10:Nat×ST:=(10,.keep)
def k11:Nat×ST:=(11,.keep)
def k12:Nat×ST:=(12,.keep)
def k13:Nat×ST:=(13,.keep)
def k14:Nat×ST:=(14,.keep)
def k15:Nat×ST:=(15,.keep)
def k16:Nat×ST:=(16,.keep)
def k17:Nat×ST:=(17,.keep)
def k18:Nat×ST:=(18,.keep)
def k19:Nat×ST:=(19,.keep)
def k20:Nat×ST:=(20,.keep)
def k21:Nat×ST:=(21,.keep)
def k22:Nat×ST:=(22,.keep)
def k23:Nat×ST:=(23,.keep)
def k25:Nat×ST:=(25,.keep)
def k26:Nat×ST:=(26,.keep)
def k28:Nat×ST:=(28,.keep)
def k30:Nat×ST:=(30,.keep)
def k31:Nat×ST:=(31,.keep)
def k32:Nat×ST:=(32,.keep)
def k33:Nat×ST:=(33,.keep)
def k36:Nat×ST:=(36,.keep)
def k37:Nat×ST:=(37,.keep)
def k38:Nat×ST:=(38,.keep)
def k39:Nat×ST:=(39,.keep)
def k43:Nat×ST:=(43,.keep)
def k44:Nat×ST:=(44,.keep)
def k49:Nat×ST:=(49,.keep)
def k50:Nat×ST:=(50,.keep)
def k51:Nat×ST:=(51,.keep)
def k52:Nat×ST:=(52,.keep)
def k53:Nat×ST:=(53,.keep)
def k54:Nat×ST:=(54,.keep)
def k56:Nat×ST:=(56,.keep)
def k57:Nat×ST:=(57,.keep)
def k58:Nat×ST:=(58,.keep)
def k64:Nat×ST:=(64,.keep)
def k65:Nat×ST:=(65,.keep)
def k66:Nat×ST:=(66,.keep)
def k67:Nat×ST:=(67,.keep)
def k72:Nat×ST:=(72,.keep)
def k73:Nat×ST:=(73,.keep)
def k74:Nat×ST:=(74,.keep)
def k87:Nat×ST:=(87,.keep)
def k88:Nat×ST:=(88,.keep)
def k92:Nat×ST:=(92,.keep)
def k93:Nat×ST:=(93,.keep)
def k94:Nat×ST:=(94,.keep)
def bDe:Nat×ST:=(100,.keep)
def aJd:Nat×ST:=(101,.keep)
def aLs:Nat×ST:=(102,.keep)
def bFa:Nat×ST:=(103,.keep)
def bX0:Nat×ST:=(106,.keep)
def bYn:Nat×ST:=(107,.keep)
def cBu:Nat×ST:=(108,.keep)
def cA8:Nat×ST:=(127,.keep)
def cBf:Nat×ST:=(128,.keep)
def cA9:Nat×ST:=(129,.keep)
def cB4:Nat×ST:=(146,.keep)
def cBo:Nat×ST:=(147,.keep)
def cBh:Nat×ST:=(148,.keep)
def bYx:Nat×ST:=(149,.keep)
def bYw:Nat×ST:=(150,.keep)
def cBm:Nat×ST:=(151,.keep)
def bOc:Nat×ST:=(163,.keep)
def bNu:Nat×ST:=(164,.keep)
def bXb:Nat×ST:=(165,.keep)
def cBa:Nat×ST:=(169,.keep)
def cBr:Nat×ST:=(170,.keep)
def j0:Nat×OT:=(0,.keep)
def j1:Nat×OT:=(1,.keep)
def j2:Nat×OT:=(2,.keep)
def j3:Nat×OT:=(3,.keep)
def j4:Nat×OT:=(4,.keep)
def j5:Nat×OT:=(5,.keep)
def j6:Nat×OT:=(6,.keep)
def j7:Nat×OT:=(7,.keep)
def j8:Nat×OT:=(8,.keep)
def j9:Nat×OT:=(9,.keep)
def j10:Nat×OT:=(10,.keep)
def j11:Nat×OT:=(11,.keep)
def j12:Nat×OT:=(12,.keep)
def j13:Nat×OT:=(13,.keep)
def j14:Nat×OT:=(14,.keep)
def j15:Nat×OT:=(15,.keep)
def j16:Nat×OT:=(16,.keep)
def j19:Nat×OT:=(19,.keep)
def j26:Nat×OT:=(26,.keep)
def j28:Nat×OT:=(28,.keep)
def j29:Nat×OT:=(29,.keep)
def bS2:Nat×OT:=(1080,.keep)
def bS7:Nat×OT:=(1081,.keep)
def cAr:Nat×OT:=(1082,.keep)
def bGe:Nat×OT:=(1112,.keep)
def bTi:Nat×OT:=(1113,.keep)
def bSy:Nat×OT:=(1114,.keep)
def aJ7:Nat×OT:=(1128,.keep)
def bEe:Nat×OT:=(1129,.keep)
def bEz:Nat×OT:=(1130,.keep)
def bFg:Nat×OT:=(1131,.keep)
def bFe:Nat×OT:=(1132,.keep)
def bEa:Nat×OT:=(1133,.keep)
def bGv:Nat×OT:=(1134,.keep)
def bDm:Nat×OT:=(1135,.keep)
def bZ1:Nat×OT:=(1136,.keep)
def bHh:Nat×OT:=(1137,.keep)
def bSj:Nat×OT:=(1144,.keep)
def bF8:Nat×OT:=(1145,.keep)
def bFt:Nat×OT:=(1146,.keep)
def bRi:Nat×OT:=(1147,.keep)
def aFh:Nat×OT:=(1160,.keep)
def aWw:Nat×OT:=(1161,.keep)
def aWu:Nat×OT:=(1176,.keep)
def aQh:Nat×OT:=(1177,.keep)
def bRu:Nat×OT:=(1178,.keep)
def aFy:Nat×OT:=(1192,.keep)
def aWp:Nat×OT:=(1193,.keep)
def bG1:Nat×OT:=(1196,.keep)
def bHb:Nat×OT:=(1197,.keep)
def bHx:Nat×OT:=(1198,.keep)
def bGn:Nat×OT:=(1199,.keep)
def bD1:Nat×OT:=(1200,.keep)
def bG8:Nat×OT:=(1201,.keep)
def uX:Nat×OT:=(1208,.keep)
def aAl:Nat×OT:=(1209,.keep)
def aWq:Nat×OT:=(1210,.keep)
def aWf:Nat×OT:=(1211,.keep)
def aWr:Nat×OT:=(1212,.keep)
def aWa:Nat×OT:=(1213,.keep)
def aWv:Nat×OT:=(1214,.keep)
def aWs:Nat×OT:=(1215,.keep)
def aV6:Nat×OT:=(1216,.keep)
def aV7:Nat×OT:=(1217,.keep)
def aHl:Nat×OT:=(1272,.keep)
def aG3:Nat×OT:=(1273,.keep)
def bRp:Nat×OT:=(1288,.keep)
def aNs:Nat×OT:=(1304,.keep)
def aHf:Nat×OT:=(1320,.keep)
def aH0:Nat×OT:=(1336,.keep)
def aHv:Nat×OT:=(1337,.keep)
def cA3:Nat×OT:=(1368,.keep)
def aEf:Nat×OT:=(1400,.keep)
def cA5:Nat×OT:=(1496,.keep)
def bZ3:Nat×OT:=(1497,.keep)
def bZr:Nat×OT:=(1498,.keep)
def cAy:Nat×OT:=(1499,.keep)
def cAb:Nat×OT:=(1500,.keep)
def cAo:Nat×OT:=(1501,.keep)
def cAt:Nat×OT:=(1502,.keep)
def bZz:Nat×OT:=(1503,.keep)
def bZ2:Nat×OT:=(1504,.keep)
def cAx:Nat×OT:=(1505,.keep)
def cAj:Nat×OT:=(1528,.keep)
def bZx:Nat×OT:=(1529,.keep)
def bZl:Nat×OT:=(1530,.keep)
def bR8:Nat×OT:=(1560,.keep)
def bRv:Nat×OT:=(1561,.keep)
def cAk:Nat×OT:=(1576,.keep)
def cA1:Nat×OT:=(1592,.keep)
def cAs:Nat×OT:=(1593,.keep)
def aW1:Nat×OT:=(1624,.keep)
def cAw:Nat×OT:=(1640,.keep)
def bZ4:Nat×OT:=(1641,.keep)
def cAl:Nat×OT:=(1642,.keep)
def bZ9:Nat×OT:=(1643,.keep)
def cAa:Nat×OT:=(1644,.keep)
def bZs:Nat×OT:=(1645,.keep)
def cAh:Nat×OT:=(1646,.keep)
def bZu:Nat×OT:=(1647,.keep)
def cAc:Nat×OT:=(1648,.keep)
def bZ8:Nat×OT:=(1649,.keep)
def yM:Nat×OT:=(1672,.keep)
def yS:Nat×OT:=(1720,.keep)
def bSr:Nat×OT:=(1736,.keep)
def wK:Nat×OT:=(1768,.keep)
def bZp:Nat×OT:=(1787,.keep)
def bZo:Nat×OT:=(1788,.keep)
def wL:Nat×OT:=(1816,.keep)
def bZm:Nat×OT:=(1944,.keep)
def bQ6:Nat×OT:=(2152,.keep)
def bRc:Nat×OT:=(2153,.keep)
def bGa:Nat×OT:=(2312,.keep)
def bGx:Nat×OT:=(2313,.keep)
def bGg:Nat×OT:=(2314,.keep)
def bEm:Nat×OT:=(2315,.keep)
def bDq:Nat×OT:=(2316,.keep)
def bHa:Nat×OT:=(2317,.keep)
def bDk:Nat×OT:=(2318,.keep)
def bFo:Nat×OT:=(2319,.keep)
def bSq:Nat×OT:=(2320,.keep)
def bGr:Nat×OT:=(2321,.keep)
def cO:Nat×OT:=(300001,.keep)
def uF:Nat×OT:=(300002,.keep)
def sF:Nat×OT:=(300003,.keep)
def aF4:Nat×OT:=(300004,.keep)
def bV0:Nat×OT:=(300005,.keep)
def aS5:Nat×OT:=(300006,.keep)
def aTw:Nat×OT:=(300007,.keep)
def aSc:Nat×OT:=(300008,.keep)
def aTz:Nat×OT:=(300009,.keep)
def aSj:Nat×OT:=(300010,.keep)
def aSk:Nat×OT:=(300011,.keep)
def aR9:Nat×OT:=(300012,.keep)
def aTm:Nat×OT:=(300013,.keep)
def aSb:Nat×OT:=(300014,.keep)
def aS4:Nat×OT:=(300015,.keep)
def bE:Nat×OT:=(1000000,.keep)
def aCt:Nat×OT:=(1001109,.keep)
def aCo:Nat×OT:=(1001110,.keep)
def aCl:Nat×OT:=(1001111,.keep)
def sh1:Sh:=⟨[e1],[]⟩
def sh2:Sh:=⟨[e2],[]⟩
def sh3:Sh:=⟨[],[]⟩
def sh4:Sh:=⟨[e10],[]⟩
def sh5:Sh:=⟨[e2,e3],[]⟩
def sh6:Sh:=⟨[e16],[]⟩
def sh7:Sh:=⟨[e9],[o1]⟩
def sh8:Sh:=⟨[e17],[]⟩
def sh9:Sh:=⟨[e7],[o17]⟩
def aGj:Sh:=⟨[k2,k3,e8],[j2,j3]⟩
def aId:Sh:=⟨[e20],[]⟩
def aIg:Sh:=⟨[e29],[]⟩
def aIe:Sh:=⟨[k0,k1,e8],[]⟩
def aIf:Sh:=⟨[k1],[j1]⟩
def aKy:Sh:=⟨[e14],[]⟩
def aL1:Sh:=⟨[e31],[]⟩
def aLh:Sh:=⟨[k1,e6],[j1]⟩
def aPl:Sh:=⟨[e46],[o7]⟩
def aPj:Sh:=⟨[e7],[o42]⟩
def aPd:Sh:=⟨[e25],[]⟩
def aPe:Sh:=⟨[e30,e3],[]⟩
def aOo:Sh:=⟨[e53],[]⟩
def aSq:Sh:=⟨[e9,e3],[o1]⟩
def aR8:Sh:=⟨[e5,e3,e4],[]⟩
def aS7:Sh:=⟨[e14,e3],[]⟩
def aTc:Sh:=⟨[e7],[o21]⟩
def aR7:Sh:=⟨[e14,e21],[]⟩
def aSs:Sh:=⟨[e44],[o10,o26]⟩
def aTi:Sh:=⟨[e52],[o8,o27,o39]⟩
def aS9:Sh:=⟨[e38],[o7,o9]⟩
def aSl:Sh:=⟨[e5,e19],[]⟩
def aTk:Sh:=⟨[],[o3,o2,o4,o5]⟩
def aTl:Sh:=⟨[k0,k1,k12,e26],[]⟩
def aR6:Sh:=⟨[k2,k3],[j2,j3]⟩
def aXo:Sh:=⟨[e2],[o1]⟩
def aY2:Sh:=⟨[e33],[]⟩
def aYs:Sh:=⟨[e5,e21],[]⟩
def aXr:Sh:=⟨[e45],[o8]⟩
def bAd:Sh:=⟨[e35],[]⟩
def aZw:Sh:=⟨[e16,e19],[]⟩
def aXf:Sh:=⟨[k0,k1,e54],[]⟩
def bGm:Sh:=⟨[e5,e3],[]⟩
def bFb:Sh:=⟨[e2,e50],[]⟩
def bDc:Sh:=⟨[e49],[]⟩
def bD8:Sh:=⟨[e5],[]⟩
def bEx:Sh:=⟨[e56],[]⟩
def bDj:Sh:=⟨[e5,e43,e4,e6],[]⟩
def bF0:Sh:=⟨[e51],[o12,o13,o33,o34,o35,o36,o19,o37,(8,aH9),o38]⟩
def bE5:Sh:=⟨[e45],[o18]⟩
def bF3:Sh:=⟨[e47],[]⟩
def bGs:Sh:=⟨[e5,e57],[]⟩
def bDa:Sh:=⟨[e7],[o40]⟩
def bFl:Sh:=⟨[e20,e3],[]⟩
def bG3:Sh:=⟨[e28,e3,e4,e6,e11],[]⟩
def bFp:Sh:=⟨[e1],[o3,o2,o4,o5]⟩
def bFw:Sh:=⟨[e6],[]⟩
def bO6:Sh:=⟨[e2,e3,e4],[]⟩
def bQ3:Sh:=⟨[e33,e3,e4],[]⟩
def bOt:Sh:=⟨[e2,e3,e4,(3,ag5)],[]⟩
def bMy:Sh:=⟨[(0,bXa)],[o18]⟩
def bNd:Sh:=⟨[e56,(1,bPd)],[]⟩
def bOx:Sh:=⟨[e7],[o18]⟩
def bMw:Sh:=⟨[e30],[]⟩
def bOm:Sh:=⟨[(0,aYi)],[]⟩
def bOz:Sh:=⟨[e36,e3,e4],[]⟩
def bPo:Sh:=⟨[e7],[(0,aTh)]⟩
def bQa:Sh:=⟨[e30,e57],[]⟩
def bQf:Sh:=⟨[e7],[(0,aBw)]⟩
def bQq:Sh:=⟨[e7],[o10]⟩
def bOh:Sh:=⟨[e20,(1,vr6)],[]⟩
def bQn:Sh:=⟨[e31,e40],[]⟩
def bMu:Sh:=⟨[e34,e3],[]⟩
def bM4:Sh:=⟨[e38,e37],[o7,o9]⟩
def bO4:Sh:=⟨[e9,e3,e4,(3,ag4)],[o5,o3,o2,o4]⟩
def bP0:Sh:=⟨[e47,e40],[]⟩
def bPi:Sh:=⟨[e9,e3,(2,ag4)],[o5,o3,o2,o4]⟩
def bN5:Sh:=⟨[e34,e3,e4,e6],[]⟩
def bNg:Sh:=⟨[k2,k3,(22,vr2)],[j2,j3]⟩
def bM0:Sh:=⟨[(8,vr2)],[]⟩
def bQc:Sh:=⟨[k0,k1,k5,(25,vr2)],[]⟩
def bOd:Sh:=⟨[k2,k3],[j2,o30,o20]⟩
def bM8:Sh:=⟨[k1,k2,e8],[j2]⟩
def bO7:Sh:=⟨[e12],[o11]⟩
def bQm:Sh:=⟨[e15],[o6]⟩
def bY2:Sh:=⟨[e59],[o12,o13,o1]⟩
def bYb:Sh:=⟨[(0,bXa)],[o18,o1]⟩
def bW3:Sh:=⟨[e5,e3,e4,(3,ag5)],[]⟩
def bW1:Sh:=⟨[e59],[o21,(1,ow1)]⟩
def bYa:Sh:=⟨[e5,(1,bMx)],[o21,(1,ow1),o1]⟩
def bXr:Sh:=⟨[(0,bWo),e3,e4],[]⟩
def bXp:Sh:=⟨[e14,e21,e17,(3,ag2)],[]⟩
def bWl:Sh:=⟨[e36,e21,e4,e6,(4,ag2)],[]⟩
def bYh:Sh:=⟨[e5,e43,e4,e6,e11],[]⟩
def bW7:Sh:=⟨[e16,(1,aYi)],[]⟩
def bWq:Sh:=⟨[e39,(1,vr8),e4],[]⟩
def bYj:Sh:=⟨[e25,(1,vr8),e4],[]⟩
def bXi:Sh:=⟨[e35,(1,ag7)],[]⟩
def bWt:Sh:=⟨[e28,e3,e4,e6],[]⟩
def bZg:Sh:=⟨[(0,cBq)],[o7,o9]⟩
def bS5:Sh:=⟨[e34,e3,e4,e6,e11],[]⟩
def bTb:Sh:=⟨[e9,(1,bXf)],[o5,o3,o2,o4]⟩
def bR4:Sh:=⟨[e9,(1,cBg)],[o1,o50,o51,o52]⟩
def bS3:Sh:=⟨[(0,bPm)],[o3,o2,o4,o1]⟩
def bSe:Sh:=⟨[e44],[o10,o26,o1]⟩
def bRs:Sh:=⟨[(0,bPm)],[o3,o2,o4]⟩
def bSo:Sh:=⟨[(0,aXd),(1,aXd)],[]⟩
def bTm:Sh:=⟨[e28,(1,bX9)],[]⟩
def bR3:Sh:=⟨[e34,(1,ag9)],[]⟩
def bSz:Sh:=⟨[(0,bGd),(1,bGd)],[]⟩
def bTh:Sh:=⟨[e29,(1,vr8)],[]⟩
def bS9:Sh:=⟨[e25,(1,ag7)],[]⟩
def bSx:Sh:=⟨[e47,(1,bQp)],[]⟩
def bSl:Sh:=⟨[e35,(1,bXv)],[]⟩
def bTk:Sh:=⟨[e25,(1,bQp)],[]⟩
def bQ7:Sh:=⟨[k1,k2,e41,k6],[j2,o11]⟩
def bTj:Sh:=⟨[k2,k3,(37,vr2)],[j2,j3]⟩
def bQ8:Sh:=⟨[k0,k2,k3,k4,k8],[j2,o41,o14,o28,o1]⟩
def bRx:Sh:=⟨[k1,k2,k3,e24],[j3]⟩
def bR5:Sh:=⟨[k9,(30,vr2)],[j9]⟩
def bSm:Sh:=⟨[k1,e60,e11],[j1,(5,ow3)]⟩
def bS4:Sh:=⟨[k2,k3,(5,vr7),e13],[j2,j3]⟩
def bTd:Sh:=⟨[k2,k3,k5,k6],[j2,j3]⟩
def bSf:Sh:=⟨[k2,k3],[o29,(3,ob7),cO,uF,bE]⟩
def bR9:Sh:=⟨[k2],[(2,.box [.row 3,.row 7]),(3,aLt),(7,aGo)]⟩
def bRd:Sh:=⟨[k2,k3,k4,k5,k8,(16,vr2)],[j4,j5,j8]⟩
def bS1:Sh:=⟨[k1,k2,k3,e11],[j1,j2,o30,o20]⟩
def bRa:Sh:=⟨[k0,k1,k2,e24],[]⟩
def bRj:Sh:=⟨[k6,k7],[j6,(7,ob8),o22]⟩
def bR6:Sh:=⟨[k1,k2,k3,e63],[j3,o24]⟩
def bR7:Sh:=⟨[k2,k3,(31,vr2)],[j2,j3]⟩
def bQ5:Sh:=⟨[e23,k4,k5],[o19,aJ7]⟩
def bRf:Sh:=⟨[k2,k4,(18,vr2)],[j4]⟩
def bR0:Sh:=⟨[k0,k3,k4,e8],[cO]⟩
def bSt:Sh:=⟨[k2,k3,k4,k6,(48,vr2)],[j2,j3,j4,j6,aJ7,bEe,bEz,bFg,bFe,bEa,bGv,bDm,bZ1,bHh]⟩
def bRb:Sh:=⟨[e12,k6,k7,e22],[o11]⟩
def bRw:Sh:=⟨[k2,k3,k4,k5,k9,k10,e15],[j4,j5,wK,wL,o23]⟩
def bR2:Sh:=⟨[e6,k6,k7,e22],[]⟩
def bRe:Sh:=⟨[k0,k1,k12,k13,(24,vr2)],[]⟩
def bRg:Sh:=⟨[k3,k5,e13,k7,k8,k9],[j5,cO]⟩
def bRk:Sh:=⟨[k0,k1,k5,k6,e58],[j0,j1,j2,j5,(7,cB2),(1544,aE4),bE]⟩
def bRm:Sh:=⟨[k0,k1,k5,e42],[j0,o2,j2,j5,bE]⟩
def bSp:Sh:=⟨[k0,k1,k5,k10],[j0,o2,j2,j5,bE]⟩
def bSi:Sh:=⟨[k0,k1,k5,k10,(11,bXl)],[j0,j1,j2,j5,(11,cBv),(2312,aE4),(2313,ow2),(2314,aBw),bE]⟩
def bRo:Sh:=⟨[e3,(5,bW0)],[(6,ow9)]⟩
def bRn:Sh:=⟨[k0,k1,k7,(8,.one (.ptr 8 0))],[j0,j1,j2,j7,(8,cB7),(1560,ow7),(1561,ow9),bE]⟩
def bSd:Sh:=⟨[k0],[o31,o25,o32,o47]⟩
def bS8:Sh:=⟨[k0,k8,k9,k10,(11,bXl),e54],[j0,j1,j2,j8,(11,cBk),bR8,bRv,(2152,ow6),(2153,aEc),bE]⟩
def bQ9:Sh:=⟨[k0,k8,k9,k10,k11,(83,vr2)],[j0,j1,j2,j8,j11,bR8,bRv,bQ6,bRc,bE]⟩
def bSg:Sh:=⟨[],[o3,j1,j2,bQ6,bRc,(1000000,cBb)]⟩
def bR1:Sh:=⟨[k0,k1,k7,(13,.one (.ptr 13 0))],[j0,j1,j2,j7,(13,cB0),(2904,ow7),(2905,ow9),bE]⟩
def bSn:Sh:=⟨[],[o3,j1,j2,o5]⟩
def bTf:Sh:=⟨[k2,k3,e13],[j2,j3]⟩
def bRh:Sh:=⟨[k2,k3,(27,vr2)],[j2,j3]⟩
def bSv:Sh:=⟨[k1,(54,vr2)],[j1]⟩
def aHp.k:=cn 8 aId sh1 aHp
def sE.k:=cn 40 aId ⟨[(0,.one (.ptr 0 0))],[(0,ob1)]⟩ sE
def qD.k:=cn 169 sh7 aXo λ(a,b,c)=>qD (a,b,c)
def aB.k:=cn 69 aSq aXo λ(a,b,c,d)=>aB (b,c,d) a
def vK.k:=cn 398 ⟨[e7,e3],[(0,.row 3 1 ti false)]⟩ sh9 λ(a,b)=>vK b a
def gX.k:=cn 327 bGm sh9 λ(a,b,c)=>gX (a,b) c
def vE.k:=cn 251 ⟨[e9,e3,e4,e6],[(1000000,.box [.row 0,.row 1]),o55,o56]⟩ ⟨[],[o55,o56,(1000000,.box [.row 0,.row 1])]⟩ λ(a,b,c,d,e)=>vE (d,e) a b c
def bS.k:=cn 76 aSq ⟨[e1],[o1]⟩ λ(a,b,c,d)=>bS (b,c,d) a
def aI.k:=cn 105 bO6 sh1 λ(a,b,c)=>aI a b c
def cY.k:=cn 92 bGm sh1 λ(a,b,c)=>cY (a,b) c
def qL.k:=cn 203 ⟨[e5,(1,ag5)],[]⟩ sh1 λ(a,b,c,d,e,f,g)=>qL (a,b) (c,d,e,f,g)
def oT.k:=cn 162 sh7 bY2 λ(a,b,c)=>oT (a,b,c)
def uR.k:=cn 204 bQ3 sh1 λ(a,b,c,d,e,f,g)=>uR (a,b,c,d,e) f g
def lG.k:=cn 336 aR8 sh2 λ(a,b,c,d)=>lG (a,b) c d
def dU.k:=cn 332 aR8 sh2 λ(a,b,c,d)=>dU (a,b) c d
def iP.k:=cn 258 aR8 sh9 λ(a,b,c,d)=>iP (a,b) c d
def gB.k:=cn 259 aR8 sh5 λ(a,b,c,d)=>gB (a,b) c d
def dL.k:=cn 261 aKy sh9 λ(a,b,c)=>dL (a,b,c)
def fJ.k:=cn 260 ⟨[e49,e3],[]⟩ sh1 λ(a,b)=>fJ a b
def pT.k:=cn 335 aS7 sh9 λ(a,b,c,d)=>pT (a,b,c) d
def lZ.k:=cn 330 sh2 sh1 lZ
def sM.k:=cn 403 sh5 sh2 λ(a,b)=>sM a b
def qV.k:=cn 334 bFb sh2 λ(a,b)=>qV a b
def gU.k:=cn 257 aS7 sh2 λ(a,b,c,d)=>gU (a,b,c) d
def aHk.k:=cn 433 sh5 sh2 λ(a,b)=>aHk a b
def wN.k:=cn 412 bDc sh2 wN
def uP.k:=cn 402 bFb sh2 λ(a,b)=>uP a b
def wU.k:=cn 333 bOt sh2 λ(a,b,c,d,e,f,g,h)=>wU a b c (d,e,f,g,h)
def fB.k:=cn 256 bOt aY2 λ(a,b,c,d,e,f,g,h)=>fB a b c (d,e,f,g,h)
def fZ.k:=cn 165 ⟨[e9,(1,ag1),e4],[o1]⟩ bYb λ(a,b,c,d,e,f)=>fZ (d,e,f) (a,b) c
def eG.k:=cn 205 aKy bMy λ(a,b,c)=>eG (a,b,c)
def fE.k:=cn 107 ⟨[(0,aXd)],[]⟩ aTc fE
def kF.k:=cn 399 aY2 sh1 λ(a,b,c,d,e)=>kF (a,b,c,d,e)
def jF.k:=cn 328 aYs sh1 λ(a,b,c,d,e)=>jF (a,b) (c,d,e)
def gE.k:=cn 400 bW3 sh1 λ(a,b,c,d,e,f,g,h,i)=>gE (a,b) c d (e,f,g,h,i)
def gO.k:=cn 329 aYs sh2 λ(a,b,c,d,e)=>gO (a,b) (c,d,e)
def dE.k:=cn 289 aKy sh2 λ(a,b,c)=>dE (a,b,c)
def fM.k:=cn 255 aYs sh2 λ(a,b,c,d,e)=>fM (a,b) (c,d,e)
def jN.k:=cn 252 aYs sh1 λ(a,b,c,d,e)=>jN (a,b) (c,d,e)
def jH.k:=cn 253 aKy sh1 λ(a,b,c)=>jH (a,b,c)
def jE.k:=cn 417 bNd sh1 λ(a,b)=>jE a b
def kA.k:=cn 401 aR7 sh1 λ(a,b,c,d,e,f)=>kA (a,b,c) (d,e,f)
def uO.k:=cn 331 ⟨[(0,aXd),e21],[]⟩ sh1 λ(a,b,c,d)=>uO a (b,c,d)
def oR.k:=cn 254 ⟨[e36,e21],[]⟩ sh1 λ(a,b,c,d,e)=>oR (a,b) (c,d,e)
def gY.k:=cn 163 ⟨[e5,e43,(2,ag2)],[]⟩ bW1 λ(a,b,c,d,e,f,g)=>gY (a,b) (c,d) (e,f,g)
def yC.k:=cn 174 sh7 bYa λ(a,b,c)=>yC (a,b,c)
def vU.k:=cn 175 ⟨[e9,e21],[o1]⟩ bYb λ(a,b,c,d,e,f)=>vU (d,e,f) (a,b,c)
def aAw.k:=cn 75 sh7 bYa λ(a,b,c)=>aAw (a,b,c)
def cH.k:=cn 78 ⟨[e9,e50],[o1]⟩ aXo λ(a,b,c,d)=>cH (b,c,d) a
def zL.k:=cn 77 sh7 bY2 λ(a,b,c)=>zL (a,b,c)
def eA.k:=cn 79 sh7 aXo λ(a,b,c)=>eA (a,b,c)
def kM.k:=cn 29 aId ⟨[e5,(1,bMx),e4,e6],[o21,(1,ow1)]⟩ kM
def cJ.k:=cn 60 bO6 sh1 λ(a,b,c)=>cJ a b c
def vJ.k:=cn 152 sh2 sh1 vJ
def jB.k:=cn 62 bGm sh1 λ(a,b,c)=>jB (a,b) c
def aA8.k:=cn 153 ⟨[e5,(1,ag5)],[]⟩ sh1 λ(a,b,c,d,e,f,g)=>aA8 (a,b) (c,d,e,f,g)
def fU.k:=cn 133 bQ3 sh1 λ(a,b,c,d,e,f,g)=>fU (a,b,c,d,e) f g
def iD.k:=cn 59 bD8 sh1 λ(a,b)=>iD (a,b)
def jJ.k:=cn 80 bD8 ⟨[e59],[o12,o13]⟩ λ(a,b)=>jJ (a,b)
def lR.k:=cn 225 bEx bOx lR
def eQ.k:=cn 267 aKy bMy λ(a,b,c)=>eQ (a,b,c)
def lP.k:=cn 176 ⟨[(0,aXd)],[]⟩ aTc lP
def jM.k:=cn 81 ⟨[e36],[]⟩ bW1 λ(a,b)=>jM (a,b)
def nU.k:=cn 82 sh2 aSs nU
def pC.k:=cn 30 bDj bF0 λ(a,b,c,d,e,f)=>pC (a,b) (c,d) e f
def wC.k:=cn 164 aYs bMy λ(a,b,c,d,e)=>wC (a,b) (c,d,e)
def wD.k:=cn 202 sh2 sh1 wD
def iC.k:=cn 104 bD8 sh1 λ(a,b)=>iC (a,b)
def rO.k:=cn 106 bD8 ⟨[e59],[o12,o13]⟩ λ(a,b)=>rO (a,b)
def fH.k:=cn 108 sh2 aSs fH
def kU.k:=cn 37 bDj bF0 λ(a,b,c,d,e,f)=>kU (a,b) (c,d) e f
def eV.k:=cn 177 aKy sh2 λ(a,b,c)=>eV (a,b,c)
def rQ.k:=cn 83 ⟨[e9,e43],[o1]⟩ ⟨[e2,e3],[o1]⟩ λ(a,b,c,d,e)=>rQ (c,d,e) (a,b)
def tY.k:=cn 84 bO6 aTi λ(a,b,c)=>tY a b c
def dS.k:=cn 166 aSq ⟨[e7],[o40,o1]⟩ λ(a,b,c,d)=>dS (b,c,d) a
def qZ.k:=cn 268 ⟨[(0,bGd)],[]⟩ ⟨[e7],[o8]⟩ qZ
def pP.k:=cn 354 bMw bE5 λ(a,b,c,d)=>pP (a,b,c,d)
def iU.k:=cn 283 sh6 aPl iU
def yA.k:=cn 269 aIg aPj yA
def eK.k:=cn 178 aPd aTi λ(a,b,c,d,e,f,g,h,i)=>eK (a,b,c,d,e,f,g,h,i)
def aCf.k:=cn 188 sh5 sh2 λ(a,b)=>aCf a b
def bW.k:=cn 189 bOm sh1 λ(a,b,c)=>bW (a,b,c)
def jO.k:=cn 91 aPd sh1 λ(a,b,c,d,e,f,g,h,i)=>jO (a,b,c,d,e,f,g,h,i)
def nP.k:=cn 85 ⟨[e25,(1,vr6)],[]⟩ ⟨[e52,e37],[o8,o27,o39]⟩ λ(a,b,c,d,e,f,g,h,i,j)=>nP (a,b,c,d,e,f,g,h,i) j
def iK.k:=cn 184 ⟨[e34],[]⟩ aSs λ(a,b,c)=>iK (a,b,c)
def fQ.k:=cn 219 aL1 aS9 λ(a,b,c,d,e,f,g,h,i,j)=>fQ (a,b,c,d,e,f,g,h,i,j)
def uK.k:=cn 185 ⟨[(0,.one (.var (.sl tFy)))],[]⟩ ⟨[e7],[(0,aDt)]⟩ uK
def oD.k:=cn 186 ⟨[(0,.one (.var (.sl tFl)))],[]⟩ ⟨[e7],[(0,aH9)]⟩ oD
def tT.k:=cn 281 bF3 aXr λ(a,b,c,d)=>tT (a,b,c,d)
def pA.k:=cn 187 ⟨[(0,bWo)],[]⟩ ⟨[e7],[(0,aG0)]⟩ pA
def mF.k:=cn 90 bAd bF0 λ(a,b,c,d,e,f,g,h,i,j,k,l,m)=>mF ((a,b),(c,d),(e,f,g),h,i,j,k,l,m)
def jI.k:=cn 93 bXr sh2 λ(a,b,c)=>jI a b c
def dD.k:=cn 286 ⟨[e36,e3],[]⟩ aTc λ(a,b,c)=>dD (a,b) c
def oI.k:=cn 358 aS7 sh2 λ(a,b,c,d)=>oI (a,b,c) d
def dI.k:=cn 413 sh2 sh1 dI
def cB.k:=cn 359 ⟨[e14,e3,e4],[]⟩ bE5 λ(a,b,c,d,e)=>cB (a,b,c) d e
def kV.k:=cn 361 bOz aTc λ(a,b,c,d)=>kV (a,b) c d
def mL.k:=cn 362 bXp aPl λ(a,b,c,d,e,f,g,h,i,j)=>mL (a,b,c) (d,e,f) g (h,i,j)
def fR.k:=cn 288 bWl aPj λ(a,b,c,d,e,f,g,h,i,j)=>fR (a,b) (c,d,e) f g (h,i,j)
def sZ.k:=cn 285 bOz aPj λ(a,b,c,d)=>sZ (a,b) c d
def pZ.k:=cn 360 aR7 aPl λ(a,b,c,d,e,f)=>pZ (a,b,c) (d,e,f)
def kT.k:=cn 287 aR7 aPl λ(a,b,c,d,e,f)=>kT (a,b,c) (d,e,f)
def lY.k:=cn 192 bDj aPj λ(a,b,c,d,e,f)=>lY (a,b) (c,d) e f
def tH.k:=cn 434 bMw sh9 λ(a,b,c,d)=>tH (a,b,c,d)
def dH.k:=cn 382 aPe sh2 λ(a,b,c,d,e)=>dH (a,b,c,d) e
def eP.k:=cn 378 aPe sh2 λ(a,b,c,d,e)=>eP (a,b,c,d) e
def uA.k:=cn 414 bGs sh1 λ(a,b,c,d,e,f)=>uA (a,b) (c,d,e,f)
def wA.k:=cn 415 sh2 sh2 wA
def kW.k:=cn 363 aSl sh1 λ(a,b,c)=>kW (a,b) c
def eJ.k:=cn 313 sh6 bPo eJ
def gD.k:=cn 364 sh6 sh9 gD
def kO.k:=cn 290 aSl sh1 λ(a,b,c)=>kO (a,b) c
def xC.k:=cn 432 sh5 sh2 λ(a,b)=>xC a b
def iE.k:=cn 407 aPe sh2 λ(a,b,c,d,e)=>iE (a,b,c,d) e
def yG.k:=cn 416 aPe sh2 λ(a,b,c,d,e)=>yG (a,b,c,d) e
def oS.k:=cn 365 bGs sh1 λ(a,b,c,d,e,f)=>oS (a,b) (c,d,e,f)
def oF.k:=cn 291 aSl sh1 λ(a,b,c)=>oF (a,b) c
def mR.k:=cn 292 ⟨[e33,e3],[]⟩ sh1 λ(a,b,c,d,e,f)=>mR (a,b,c,d,e) f
def oH.k:=cn 193 ⟨[e5,e19,e4],[]⟩ sh1 λ(a,b,c,d)=>oH (a,b) c d
def rM.k:=cn 366 bQa sh1 λ(a,b,c,d,e,f,g,h)=>rM (a,b,c,d) (e,f,g,h)
def lE.k:=cn 293 aZw sh1 λ(a,b)=>lE a b
def vX.k:=cn 194 ⟨[e29,e19],[]⟩ sh1 λ(a,b)=>vX a b
def hP.k:=cn 95 bYh aIg λ(a,b,c,d,e,f,g)=>hP (a,b) (c,d) e f g
def mJ.k:=cn 355 sh6 sh2 mJ
def lB.k:=cn 356 sh6 sh2 lB
def pD.k:=cn 357 sh6 sh2 pD
def rT.k:=cn 284 aZw sh1 λ(a,b)=>rT a b
def tQ.k:=cn 191 aIg aIg tQ
def gI.k:=cn 352 ⟨[e39,e3],[]⟩ bQf λ(a,b)=>gI a b
def rJ.k:=cn 353 bW7 sh1 λ(a,b,c,d)=>rJ a (b,c,d)
def wE.k:=cn 282 ⟨[e39,e19,e4],[]⟩ sh1 λ(a,b,c)=>wE a b c
def jQ.k:=cn 190 bWq aPj λ(a,b,c)=>jQ a b c
def aAf.k:=cn 167 sh5 sh2 λ(a,b)=>aAf a b
def qP.k:=cn 94 bYj ⟨[(0,.agg [.var ti,.var ti,.var ti,.var ti,.row 0,.var (.sl tPt),.var ti,.var ti,.row 1])],[o8,(1,aBw)]⟩ λ(a,b,c,d,e,f,g,h,i,j,k)=>qP (a,b,c,d,e,f,g,h,i) j k
def tB.k:=cn 96 sh5 aXr λ(a,b)=>tB a b
def rN.k:=cn 33 bXi ⟨[e51,e37],[o12,o13,o33,o34,o35,o36,o19,o37,(8,ow4),o38]⟩ λ(a,b,c,d,e,f,g,h,i,j,k,l,m,n,o,p,q,r,s,t,u,v)=>rN ((a,b),(c,d),(e,f,g),h,i,j,k,l,m) (n,o,p,q,r,s,t,u,v)
def pX.k:=cn 262 sh6 bPo pX
def mH.k:=cn 297 ⟨[e28,(1,ag5)],[]⟩ bQq λ(a,b,c,d,e,f)=>mH a (b,c,d,e,f)
def eO.k:=cn 296 aY2 sh1 λ(a,b,c,d,e)=>eO (a,b,c,d,e)
def zJ.k:=cn 299 ⟨[e33,e3,e4,e6],[]⟩ sh1 λ(a,b,c,d,e,f,g,h)=>zJ (a,b,c,d,e) f g h
def fF.k:=cn 298 bWt sh2 λ(a,b,c,d)=>fF a b c d
def zK.k:=cn 263 ⟨[e28,(1,ag5),e4,e6],[]⟩ ⟨[e7,e37],[o10]⟩ λ(a,b,c,d,e,f,g,h)=>zK a (b,c,d,e,f) g h
def dG.k:=cn 168 ⟨[e28,e3,(2,ag3),e6,e11,e8,e13],[]⟩ ⟨[e7,e37],[o10]⟩ λ(a,b,c,d,e,f,g)=>dG a b c d e f g
def wW.k:=cn 68 sh7 ⟨[e51],[o12,o13,o33,o34,o35,o36,o19,o37,(8,ow4),o38,o1]⟩ λ(a,b,c)=>wW (a,b,c)
def pQ.k:=cn 31 aId ⟨[(0,.agg [.row 0,.row 1,.var (.sl tSg),.var (.sl tSg),.var ti,.row 2,.row 3,.var ti,.row 4,.row 5,.row 6,.row 7,.var ti]),(1,.agg [.var ti,.var ti,.var ti,.var ti,.row 8,.row 9,.var ti,.var ti,.row 10])],[o12,o13,(2,ow6),(3,aEc),(4,ow3),(5,aDt),(6,ow4),(7,aG0),(8,aE4),(9,ow2),(10,aBw)]⟩ pQ
def iR.k:=cn 229 ⟨[e28],[]⟩ bQq iR
def mE.k:=cn 144 ⟨[e34],[]⟩ aSs λ(a,b,c)=>mE (a,b,c)
def vM.k:=cn 145 bDc sh9 vM
def iY.k:=cn 135 sh6 aPl iY
def nY.k:=cn 136 aId bDa nY
def rS.k:=cn 48 aL1 aS9 λ(a,b,c,d,e,f,g,h,i,j)=>rS (a,b,c,d,e,f,g,h,i,j)
def jK.k:=cn 230 ⟨[(0,bGd)],[]⟩ ⟨[e7],[o8]⟩ jK
def tO.k:=cn 231 aIg aPj tO
def jR.k:=cn 232 ⟨[e39],[]⟩ bQf jR
def qM.k:=cn 146 aPd aTi λ(a,b,c,d,e,f,g,h,i)=>qM (a,b,c,d,e,f,g,h,i)
def uC.k:=cn 147 bF3 aXr λ(a,b,c,d)=>uC (a,b,c,d)
def pS.k:=cn 57 bAd bF0 λ(a,b,c,d,e,f,g,h,i,j,k,l,m)=>pS ((a,b),(c,d),(e,f,g),h,i,j,k,l,m)
def dM.k:=cn 157 bOm sh1 λ(a,b,c)=>dM (a,b,c)
def oB.k:=cn 63 aPd sh1 λ(a,b,c,d,e,f,g,h,i)=>oB (a,b,c,d,e,f,g,h,i)
def tS.k:=cn 86 bXr sh2 λ(a,b,c)=>tS a b c
def sL.k:=cn 346 aKy sh2 λ(a,b,c)=>sL (a,b,c)
def gS.k:=cn 272 ⟨[e36,e3],[]⟩ aTc λ(a,b,c)=>gS (a,b) c
def kZ.k:=cn 273 aS7 sh2 λ(a,b,c,d)=>kZ (a,b,c) d
def aA1.k:=cn 410 bEx sh9 aA1
def fA.k:=cn 137 sh2 sh1 fA
def wO.k:=cn 50 sh5 sh2 λ(a,b)=>wO a b
def vG.k:=cn 409 bFb sh2 λ(a,b)=>vG a b
def sJ.k:=cn 347 aS7 sh2 λ(a,b,c,d)=>sJ (a,b,c) d
def eE.k:=cn 51 sh2 sh1 eE
def nQ.k:=cn 249 bEx bOx nQ
def eI.k:=cn 274 ⟨[e14,e3,e4],[]⟩ bE5 λ(a,b,c,d,e)=>eI (a,b,c) d e
def iT.k:=cn 278 aKy sh2 λ(a,b,c)=>iT (a,b,c)
def oY.k:=cn 348 bOz aTc λ(a,b,c,d)=>oY (a,b) c d
def fG.k:=cn 411 ⟨[e14,e3,(2,.one (.ptr 1000002 0))],[(1000002,.box [.row 0]),(0,aSn)]⟩ ⟨[],[(0,aSn),(1000002,.box [.row 0])]⟩ λ(a,b,c,d,e)=>fG (a,b,c) d e
def mN.k:=cn 349 bXp ⟨[e46],[(0,aSn)]⟩ λ(a,b,c,d,e,f,g,h,i,j)=>mN (a,b,c) (d,e,f) g (h,i,j)
def dF.k:=cn 275 bWl aIg λ(a,b,c,d,e,f,g,h,i,j)=>dF (a,b) (c,d,e) f g (h,i,j)
def qR.k:=cn 350 aS7 sh2 λ(a,b,c,d)=>qR (a,b,c) d
def oP.k:=cn 276 aR7 aPl λ(a,b,c,d,e,f)=>oP (a,b,c) (d,e,f)
def yZ.k:=cn 277 bGm sh1 λ(a,b,c)=>yZ (a,b) c
def lK.k:=cn 181 bDj aIg λ(a,b,c,d,e,f)=>lK (a,b) (c,d) e f
def qN.k:=cn 138 aY2 sh1 λ(a,b,c,d,e)=>qN (a,b,c,d,e)
def aA3.k:=cn 227 ⟨[e5,(1,bPd)],[]⟩ sh1 λ(a,b,c)=>aA3 (a,b) c
def kS.k:=cn 129 aPe sh2 λ(a,b,c,d,e)=>kS (a,b,c,d) e
def uB.k:=cn 46 aR8 sh2 λ(a,b,c,d)=>uB (a,b) c d
def tN.k:=cn 228 aR8 sh5 λ(a,b,c,d)=>tN (a,b) c d
def lH.k:=cn 124 aPe sh2 λ(a,b,c,d,e)=>lH (a,b,c,d) e
def tM.k:=cn 140 bGs sh1 λ(a,b,c,d,e,f)=>tM (a,b) (c,d,e,f)
def vY.k:=cn 141 sh2 sh2 vY
def kX.k:=cn 55 aSl sh1 λ(a,b,c)=>kX (a,b) c
def nX.k:=cn 143 sh6 bPo nX
def yW.k:=cn 142 ⟨[(0,.one (.var (.sl aBe)))],[]⟩ sh9 yW
def gC.k:=cn 56 sh6 sh9 gC
def wZ.k:=cn 45 ⟨[e49,e3],[]⟩ sh1 λ(a,b)=>wZ a b
def oV.k:=cn 14 aSl sh1 λ(a,b,c)=>oV (a,b) c
def aAs.k:=cn 52 sh5 sh2 λ(a,b)=>aAs a b
def mU.k:=cn 248 aPe sh2 λ(a,b,c,d,e)=>mU (a,b,c,d) e
def aHx.k:=cn 393 sh5 sh2 λ(a,b)=>aHx a b
def wX.k:=cn 317 bDc sh2 wX
def uL.k:=cn 226 bFb sh2 λ(a,b)=>uL a b
def aA0.k:=cn 139 bOt sh2 λ(a,b,c,d,e,f,g,h)=>aA0 a b c (d,e,f,g,h)
def qS.k:=cn 53 bW3 sh1 λ(a,b,c,d,e,f,g,h,i)=>qS (a,b) c d (e,f,g,h,i)
def pH.k:=cn 351 bGs sh1 λ(a,b,c,d,e,f)=>pH (a,b) (c,d,e,f)
def oK.k:=cn 279 aSl sh1 λ(a,b,c)=>oK (a,b) c
def gR.k:=cn 280 bEx sh2 gR
def oQ.k:=cn 182 ⟨[e5,e19,e4],[]⟩ sh1 λ(a,b,c,d)=>oQ (a,b) c d
def iA.k:=cn 300 bNd sh1 λ(a,b)=>iA a b
def rW.k:=cn 301 bQa sh1 λ(a,b,c,d,e,f,g,h)=>rW (a,b,c,d) (e,f,g,h)
def gZ.k:=cn 213 aZw sh1 λ(a,b)=>gZ a b
def vS.k:=cn 183 ⟨[e29,e19],[]⟩ sh1 λ(a,b)=>vS a b
def oA.k:=cn 88 bYh aIg λ(a,b,c,d,e,f,g)=>oA (a,b) (c,d) e f g
def rR.k:=cn 240 sh6 sh2 rR
def aAu.k:=cn 408 sh6 bOx aAu
def oU.k:=cn 344 sh6 sh2 oU
def oW.k:=cn 345 sh6 sh2 oW
def rP.k:=cn 271 aZw sh1 λ(a,b)=>rP a b
def tJ.k:=cn 180 aIg aIg tJ
def gJ.k:=cn 342 ⟨[e39,e3],[]⟩ bQf λ(a,b)=>gJ a b
def xX.k:=cn 343 bW7 sh1 λ(a,b,c,d)=>xX a (b,c,d)
def yE.k:=cn 270 ⟨[e39,e19,e4],[]⟩ sh1 λ(a,b,c)=>yE a b c
def jS.k:=cn 179 bWq aPj λ(a,b,c)=>jS a b c
def aKz.k:=cn 23 sh5 sh2 λ(a,b)=>aKz a b
def vI.k:=cn 87 bYj aTi λ(a,b,c,d,e,f,g,h,i,j,k)=>vI (a,b,c,d,e,f,g,h,i) j k
def yQ.k:=cn 89 sh5 aXr λ(a,b)=>yQ a b
def vV.k:=cn 32 bXi ⟨[e51,e37],[o12,o13,o33,o34,o35,o36,o19,o37,(8,aH9),o38]⟩ λ(a,b,c,d,e,f,g,h,i,j,k,l,m,n,o,p,q,r,s,t,u,v)=>vV ((a,b),(c,d),(e,f,g),h,i,j,k,l,m) (n,o,p,q,r,s,t,u,v)
def tR.k:=cn 418 sh7 ⟨[e5,(1,bYo)],[o7,o1]⟩ λ(a,b,c)=>tR (a,b,c)
def tI.k:=cn 405 sh6 sh5 tI
def cN.k:=cn 340 ⟨[e2,e19,e4,e6,(4,vr6)],[]⟩ aS9 λ(a,b,c,d,e)=>cN a b c d e
def xY.k:=cn 368 sh7 ⟨[e5,(1,bXm)],[o7,o9,o1]⟩ λ(a,b,c)=>xY (a,b,c)
def nD.k:=cn 303 sh7 aXo λ(a,b,c)=>nD (a,b,c)
def aAp.k:=cn 369 sh7 ⟨[(0,.agg [.any,.any]),e19],[o1]⟩ λ(a,b,c)=>aAp (a,b,c)
def aA5.k:=cn 302 sh7 ⟨[e5,(1,.agg [.var ti,.var ti,.var ti,.var (.sl tPp),.var ti,.var ti,.var ti,.var ti,.var ti,.row 0])],[o40,o1]⟩ λ(a,b,c)=>aA5 (a,b,c)
def tG.k:=cn 435 aKy sh1 λ(a,b,c)=>tG (a,b,c)
def mD.k:=cn 419 sh6 sh1 mD
def jD.k:=cn 370 aL1 sh1 λ(a,b,c,d,e,f,g,h,i,j)=>jD (a,b,c,d,e,f,g,h,i,j)
def pF.k:=cn 371 ⟨[e35,e3,e4],[]⟩ sh1 λ(a,b,c,d,e,f,g,h,i,j,k,l,m,n,o)=>pF ((a,b),(c,d),(e,f,g),h,i,j,k,l,m) n o
def mS.k:=cn 210 bOh sh1 λ(a,b)=>mS a b
def lU.k:=cn 372 bQn sh1 λ(a,b,c,d,e,f,g,h,i,j,k,l,m,n,o,p,q,r,s,t)=>lU (a,b,c,d,e,f,g,h,i,j) (k,l,m,n,o,p,q,r,s,t)
def qQ.k:=cn 304 ⟨[e35,(1,bXf)],[]⟩ sh1 λ(a,b,c,d,e,f,g,h,i,j,k,l,m,n,o,p,q,r,s,t,u,v,w,x,y,z,A,B)=>qQ ((a,b),(c,d),(e,f,g),h,i,j,k,l,m) (n,o,p,(q,r,(s,t,u,v,w,x,y,z,A,B)))
def fT.k:=cn 373 ⟨[e28,e3],[]⟩ bQq λ(a,b)=>fT a b
def wR.k:=cn 305 bMu aSs λ(a,b,c,d)=>wR (a,b,c) d
def eN.k:=cn 374 aPd bM4 λ(a,b,c,d,e,f,g,h,i)=>eN (a,b,c,d,e,f,g,h,i)
def tU.k:=cn 375 aPd aTi λ(a,b,c,d,e,f,g,h,i)=>tU (a,b,c,d,e,f,g,h,i)
def wG.k:=cn 306 aPd ⟨[e52,(1,.agg [.var ti,.var ti,.var ti,.row 3,.var ti,.var ti,.var ti,.var ti,.var ti,.row 4]),e17],[o8,o27,o39,(3,ow7),(4,ow9)]⟩ λ(a,b,c,d,e,f,g,h,i)=>wG (a,b,c,d,e,f,g,h,i)
def pV.k:=cn 218 bO4 aTk λ(a,b,c,d,e,f,g,h,i,j,k,l,m,n,o,p,q,r,s,t,u,v,w,x,y)=>pV ((m,n),(o,p),(q,r,s),t,u,w,x,y,v) a b (c,d,e,f,g,h,i,j,k,l)
def qW.k:=cn 423 sh2 sh1 qW
def zN.k:=cn 424 sh2 sh1 zN
def rI.k:=cn 385 sh5 sh2 λ(a,b)=>rI a b
def eM.k:=cn 308 ⟨[e5,e50,e4],[]⟩ sh2 λ(a,b,c,d)=>eM (a,b) c d
def dY.k:=cn 376 aL1 sh2 λ(a,b,c,d,e,f,g,h,i,j)=>dY (a,b,c,d,e,f,g,h,i,j)
def uG.k:=cn 377 ⟨[e2,e40],[]⟩ bZg λ(a,b,c,d,e,f,g,h,i,j,k)=>uG a (b,c,d,e,f,g,h,i,j,k)
def iL.k:=cn 420 ⟨[e5,e40],[]⟩ bM4 λ(a,b,c,d,e,f,g,h,i,j,k,l)=>iL (a,b) (c,d,e,f,g,h,i,j,k,l)
def jW.k:=cn 421 ⟨[e31,e3],[]⟩ sh1 λ(a,b,c,d,e,f,g,h,i,j,k)=>jW (a,b,c,d,e,f,g,h,i,j) k
def oX.k:=cn 379 ⟨[e5,e3,(2,ag4)],[]⟩ ⟨[e38,e3],[o7,o9]⟩ λ(a,b,c,d,e,f,g,h,i,j,k,l,m)=>oX (a,b) c (d,e,f,g,h,i,j,k,l,m)
def mP.k:=cn 381 aL1 sh1 λ(a,b,c,d,e,f,g,h,i,j)=>mP (a,b,c,d,e,f,g,h,i,j)
def gW.k:=cn 380 aL1 aS9 λ(a,b,c,d,e,f,g,h,i,j)=>gW (a,b,c,d,e,f,g,h,i,j)
def lA.k:=cn 422 sh5 sh1 λ(a,b)=>lA a b
def qB.k:=cn 383 ⟨[e5,(1,aYi)],[]⟩ sh1 λ(a,b,c,d,e)=>qB (a,b) (c,d,e)
def wH.k:=cn 384 sh5 sh1 λ(a,b)=>wH a b
def tK.k:=cn 307 ⟨[e5,e3,e4,e6,e11,(5,ag4)],[]⟩ bZg λ(a,b,c,d,e,f,g,h,i,j,k,l,m,n,o,p)=>tK (a,b) c d e f (g,h,i,j,k,l,m,n,o,p)
def wQ.k:=cn 425 bP0 sh1 λ(a,b,c,d,e,f,g,h,i,j,k,l,m,n)=>wQ (a,b,c,d) (e,f,g,h,i,j,k,l,m,n)
def oN.k:=cn 386 bP0 aXr λ(a,b,c,d,e,f,g,h,i,j,k,l,m,n)=>oN (a,b,c,d) (e,f,g,h,i,j,k,l,m,n)
def nA.k:=cn 406 sh2 sh2 nA
def pR.k:=cn 341 bMw bE5 λ(a,b,c,d)=>pR (a,b,c,d)
def lJ.k:=cn 266 sh6 aPl lJ
def aC3.k:=cn 426 ⟨[e31,e3,e4,(3,vr6)],[]⟩ aS9 λ(a,b,c,d,e,f,g,h,i,j,k,l,m)=>aC3 (a,b,c,d,e,f,g,h,i,j) k l m
def vL.k:=cn 387 bP0 bM4 λ(a,b,c,d,e,f,g,h,i,j,k,l,m,n)=>vL (a,b,c,d) (e,f,g,h,i,j,k,l,m,n)
def qT.k:=cn 388 ⟨[e25,e40],[]⟩ aTi λ(a,b,c,d,e,f,g,h,i,j,k,l,m,n,o,p,q,r,s)=>qT (a,b,c,d,e,f,g,h,i) (j,k,l,m,n,o,p,q,r,s)
def rK.k:=cn 440 bFl ⟨[e2,e3,e17],[]⟩ λ(a,b)=>rK a b
def rU.k:=cn 437 ⟨[e20,e3,e4],[]⟩ ⟨[e7,e3,e17],[o17]⟩ λ(a,b,c)=>rU a b c
def iO.k:=cn 428 aId ⟨[(0,aYi),e37],[]⟩ iO
def mB.k:=cn 429 ⟨[e39,(1,aYi)],[]⟩ ⟨[e39],[]⟩ λ(a,b,c,d)=>mB a (b,c,d)
def iS.k:=cn 392 ⟨[e25,e40,e4],[]⟩ ⟨[(0,.agg [.var ti,.var ti,.var ti,.var ti,.row 0,.row 1,.var ti,.var ti,.var (.sl tRv)])],[o8,o27]⟩ λ(a,b,c,d,e,f,g,h,i,j,k,l,m,n,o,p,q,r,s,t)=>iS (a,b,c,d,e,f,g,h,i) (j,k,l,m,n,o,p,q,r,s) t
def nI.k:=cn 315 bPi aTk λ(a,b,c,d,e,f,g,h,i,j,k,l,m,n,o,p,q,r,s,t,u,v,w,x)=>nI ((l,m),(n,o),(p,q,r),s,t,v,w,x,u) a (b,c,d,e,f,g,h,i,j,k)
def tL.k:=cn 309 bPi aTk λ(a,b,c,d,e,f,g,h,i,j,k,l,m,n,o,p,q,r,s,t,u,v,w,x)=>tL ((l,m),(n,o),(p,q,r),s,t,v,w,x,u) a (b,c,d,e,f,g,h,i,j,k)
def mW.k:=cn 209 ⟨[(0,.one (.var (.sl tUs))),e3,e4,e6],[]⟩ sh2 λ(a,b,c,d)=>mW a b c d
def qJ.k:=cn 389 bN5 sh2 λ(a,b,c,d,e,f)=>qJ (a,b,c) d e f
def fC.k:=cn 207 bG3 sh2 λ(a,b,c,d,e)=>fC a b c d e
def wI.k:=cn 390 bN5 aSs λ(a,b,c,d,e,f)=>wI (a,b,c) d e f
def qK.k:=cn 208 bG3 sh2 λ(a,b,c,d,e)=>qK a b c d e
def lO.k:=cn 310 bS5 ⟨[e44,e37],[o10,o26]⟩ λ(a,b,c,d,e,f,g)=>lO (a,b,c) d e f g
def tZ.k:=cn 312 aL1 sh2 λ(a,b,c,d,e,f,g,h,i,j)=>tZ (a,b,c,d,e,f,g,h,i,j)
def gV.k:=cn 314 aL1 ⟨[e46],[(0,aSn)]⟩ λ(a,b,c,d,e,f,g,h,i,j)=>gV (a,b,c,d,e,f,g,h,i,j)
def nO.k:=cn 436 bFl bDa λ(a,b)=>nO a b
def rL.k:=cn 427 bDc bDa rL
def iQ.k:=cn 391 bOm bDa λ(a,b,c)=>iQ (a,b,c)
def gA.k:=cn 311 ⟨[e5,e3,e4,e6,(4,ag4)],[]⟩ aS9 λ(a,b,c,d,e,f,g,h,i,j,k,l,m,n,o)=>gA (a,b) c d e (f,g,h,i,j,k,l,m,n,o)
def gQ.k:=cn 218 bO4 aTk λ(a,b,c,d,e,f,g,h,i,j,k,l,m,n,o,p,q,r,s,t,u,v,w,x,y)=>gQ ((m,n),(o,p),(q,r,s),t,u,w,x,y,v) a b (c,d,e,f,g,h,i,j,k,l)
def jT.k:=cn 309 bPi aTk λ(a,b,c,d,e,f,g,h,i,j,k,l,m,n,o,p,q,r,s,t,u,v,w,x)=>jT ((l,m),(n,o),(p,q,r),s,t,v,w,x,u) a (b,c,d,e,f,g,h,i,j,k)
def dZ.k:=cn 218 bO4 aTk λ(a,b,c,d,e,f,g,h,i,j,k,l,m,n,o,p,q,r,s,t,u,v,w,x,y)=>dZ ((m,n),(o,p),(q,r,s),t,u,w,x,y,v) a b (c,d,e,f,g,h,i,j,k,l)
def vT.k:=cn 216 ⟨[e9],[o5,o3,o2,o4]⟩ bFp λ(a,b,c,d,e,f,g,h,i,j,k,l,m)=>vT ((a,b),(c,d),(e,f,g),h,i,k,l,m,j)
def vO.k:=cn 217 ⟨[e9,e3],[o5,o3,o2,o4]⟩ ⟨[(0,.agg [.var ti,.var ti,.var ti,.var ti,.var ti,.var (.sl tPp),.var ti,.var ti,.var ti,.var ti,.var ti,.var (.sl tb)])],[o3,o2,o4,o5]⟩ λ(a,b,c,d,e,f,g,h,i,j,k,l,m,n)=>vO ((b,c),(d,e),(f,g,h),i,j,l,m,n,k) a
def yH.k:=cn 220 ⟨[e9,e3,e17],[o5,o3,o2,o4]⟩ bFp λ(a,b,c,d,e,f,g,h,i,j,k,l,m,n,o)=>yH ((c,d),(e,f),(g,h,i),j,k,m,n,o,l) a b
def aA7.k:=cn 221 bTb bFp λ(a,b,c,d,e,f,g,h,i,j,k,l,m,n,o,p,q,r,s,t,u,v,w,x,y,z,A,B)=>aA7 ((p,q),(r,s),(t,u,v),w,x,z,A,B,y) (a,b,c,(d,e,(f,g,h,i,j,k,l,m,n,o)))
def aCx.k:=cn 121 bTb bFp λ(a,b,c,d,e,f,g,h,i,j,k,l,m,n,o,p,q,r,s,t,u,v,w,x,y,z,A,B)=>aCx ((p,q),(r,s),(t,u,v),w,x,z,A,B,y) (a,b,c,(d,e,(f,g,h,i,j,k,l,m,n,o)))
def oO.k:=cn 215 bR4 ⟨[(0,.agg [.var ti,.var ti,.row 1,.var ti,.var ti,.var ti,.var ti,.var ti,.var (.sl tPp),.var ti,.var ti,.var ti,.var ti,.var ti,.row 0])],[o40,o9,o1,o50,o51,o52]⟩ λ(a,b,c,d,e,f,g,h,i,j,k,l,m,n,o,p)=>oO (k,l,m) ((a,b),(c,d),(e,f,g),h,i,n,o,p,j)
def tV.k:=cn 120 bR4 ⟨[(0,.agg [.var ti,.var ti,.row 0,.var ti,.var ti,.var ti,.var ti,.var ti,.var (.sl tPp),.var ti,.var ti,.var ti,.var ti,.var ti,.row 1])],[o40,o9,o1,o50,o51,o52]⟩ λ(a,b,c,d,e,f,g,h,i,j,k,l,m,n,o,p)=>tV (k,l,m) ((a,b),(c,d),(e,f,g),h,i,n,o,p,j)
def aAv.k:=cn 41 aSq ⟨[e51,(1,.one (.var (.sl iI))),(2,.agg [.var (.sl tAS),.var (.sl tLk),.var (.sl tSg),.var (.sl tSg),.var ti,.var (.sl tRs),.var (.sl tUs),.var ti,.var (.sl ti),.row 10,.row 11,.row 12,.var ti])],[o12,o13,o33,o34,o35,o36,o19,o37,(8,ow4),o38,(10,ow5),(11,ow4),(12,ow8),o1]⟩ λ(a,b,c,d)=>aAv (b,c,d) a
def lW.k:=cn 71 aSq bS3 λ(a,b,c,d)=>lW (b,c,d) a
def qI.k:=cn 404 sh7 ⟨[e33],[o1]⟩ λ(a,b,c)=>qI (a,b,c)
def xZ.k:=cn 337 sh7 bSe λ(a,b,c)=>xZ (a,b,c)
def aBa.k:=cn 338 sh7 ⟨[e33],[o1]⟩ λ(a,b,c)=>aBa (a,b,c)
def aAz.k:=cn 264 sh7 bSe λ(a,b,c)=>aAz (a,b,c)
def aA6.k:=cn 171 aSq bS3 λ(a,b,c,d)=>aA6 (b,c,d) a
def pY.k:=cn 72 bFl ⟨[(0,.one (.ptr 0 0)),(1,.agg [.var (.sl tAS),.var (.sl tLk),.var (.sl tSg),.var (.sl tSg),.var ti,.var (.sl tRs),.var (.sl tUs),.var ti,.var (.sl ti),.row 1,.row 2,.row 3,.var ti])],[(0,ob1),(1,ow5),(2,ow4),(3,ow8)]⟩ λ(a,b)=>pY a b
def iN.k:=cn 34 aId bRs iN
def yV.k:=cn 42 bFl sh2 λ(a,b)=>yV a b
def qA.k:=cn 24 aId bRs qA
def gM.k:=cn 35 aId ⟨[(0,bPm),(1,.agg [.var (.sl tAS),.var (.sl tLk),.var (.sl tSg),.var (.sl tSg),.var ti,.var (.sl tRs),.var (.sl tUs),.var ti,.var (.sl ti),.row 3,.row 4,.row 5,.var ti])],[o3,o2,o4,(3,ow5),(4,ow4),(5,ow8)]⟩ gM
def oJ.k:=cn 97 ⟨[e5,(1,ag1)],[]⟩ sh1 λ(a,b,c,d)=>oJ (a,b) (c,d)
def mZ.k:=cn 367 bNd sh1 λ(a,b)=>mZ a b
def rH.k:=cn 294 aR7 sh1 λ(a,b,c,d,e,f)=>rH (a,b,c) (d,e,f)
def oL.k:=cn 195 bSo sh1 λ(a,b)=>oL a b
def qF.k:=cn 98 ⟨[e36,e43],[]⟩ sh1 λ(a,b,c,d)=>qF (a,b) (c,d)
def mM.k:=cn 196 bTm sh1 λ(a,b)=>mM a b
def mX.k:=cn 99 bR3 sh1 λ(a,b,c,d,e,f)=>mX (a,b,c) (d,e,f)
def oE.k:=cn 100 ⟨[e49,e50],[]⟩ sh1 λ(a,b)=>oE a b
def nB.k:=cn 295 bQa sh1 λ(a,b,c,d,e,f,g,h)=>nB (a,b,c,d) (e,f,g,h)
def mY.k:=cn 197 aZw sh1 λ(a,b)=>mY a b
def zG.k:=cn 198 bOh sh1 λ(a,b)=>zG a b
def mO.k:=cn 101 bQn sh1 λ(a,b,c,d,e,f,g,h,i,j,k,l,m,n,o,p,q,r,s,t)=>mO (a,b,c,d,e,f,g,h,i,j) (k,l,m,n,o,p,q,r,s,t)
def jC.k:=cn 199 bSz sh1 λ(a,b)=>jC a b
def oC.k:=cn 200 bTh sh1 λ(a,b)=>oC a b
def nZ.k:=cn 201 ⟨[e39,(1,bMz)],[]⟩ sh1 λ(a,b)=>nZ a b
def qO.k:=cn 102 bS9 sh1 λ(a,b,c,d,e,f,g,h,i,j,k,l,m,n,o,p,q,r)=>qO (a,b,c,d,e,f,g,h,i) (j,k,l,m,n,o,p,q,r)
def tP.k:=cn 103 bSx sh1 λ(a,b,c,d,e,f,g,h)=>tP (a,b,c,d) (e,f,g,h)
def dN.k:=cn 36 bSl sh1 λ(a,b,c,d,e,f,g,h,i,j,k,l,m,n,o,p,q,r,s,t,u,v,w,x,y,z)=>dN ((a,b),(c,d),(e,f,g),h,i,j,k,l,m) ((n,o),(p,q),(r,s,t),u,v,w,x,y,z)
def iM.k:=cn 242 aY2 sh1 λ(a,b,c,d,e)=>iM (a,b,c,d,e)
def eB.k:=cn 244 bQ3 sh1 λ(a,b,c,d,e,f,g)=>eB (a,b,c,d,e) f g
def jL.k:=cn 243 bWt sh2 λ(a,b,c,d)=>jL a b c d
def gN.k:=cn 154 ⟨[e28,e3,e4],[]⟩ sh1 λ(a,b,c)=>gN a b c
def yB.k:=cn 155 bN5 sh2 λ(a,b,c,d,e,f)=>yB (a,b,c) d e f
def aJ5.k:=cn 74 sh5 sh2 λ(a,b)=>aJ5 a b
def vW.k:=cn 245 bG3 sh2 λ(a,b,c,d,e)=>vW a b c d e
def jP.k:=cn 246 bG3 sh2 λ(a,b,c,d,e)=>jP a b c d e
def aBc.k:=cn 156 bS5 sh2 λ(a,b,c,d,e,f,g)=>aBc (a,b,c) d e f g
def kR.k:=cn 61 bMu sh1 λ(a,b,c,d)=>kR (a,b,c) d
def rC.k:=cn 64 bF3 sh1 λ(a,b,c,d)=>rC (a,b,c,d)
def mQ.k:=cn 158 bOh sh1 λ(a,b)=>mQ a b
def dK.k:=cn 65 bSz sh1 λ(a,b)=>dK a b
def kL.k:=cn 19 bTk sh1 λ(a,b,c,d,e,f,g,h,i,j,k,l,m)=>kL (a,b,c,d,e,f,g,h,i) (j,k,l,m)
def fI.k:=cn 17 bAd sh1 λ(a,b,c,d,e,f,g,h,i,j,k,l,m)=>fI ((a,b),(c,d),(e,f,g),h,i,j,k,l,m)
def gK.k:=cn 206 ⟨[e28,e3,e4],[]⟩ sh1 λ(a,b,c)=>gK a b c
def kY.k:=cn 109 bMu sh1 λ(a,b,c,d)=>kY (a,b,c) d
def yD.k:=cn 110 bAd sh1 λ(a,b,c,d,e,f,g,h,i,j,k,l,m)=>yD ((a,b),(c,d),(e,f,g),h,i,j,k,l,m)
def rD.k:=cn 111 bF3 sh1 λ(a,b,c,d)=>rD (a,b,c,d)
def lC.k:=cn 112 bTk sh1 λ(a,b,c,d,e,f,g,h,i,j,k,l,m)=>lC (a,b,c,d,e,f,g,h,i) (j,k,l,m)
def nH.k:=cn 38 bAd sh1 λ(a,b,c,d,e,f,g,h,i,j,k,l,m)=>nH ((a,b),(c,d),(e,f,g),h,i,j,k,l,m)
def jU.k:=cn 113 ⟨[e5,(1,ag1)],[]⟩ sh1 λ(a,b,c,d)=>jU (a,b) (c,d)
def mG.k:=cn 211 aR7 sh1 λ(a,b,c,d,e,f)=>mG (a,b,c) (d,e,f)
def eX.k:=cn 114 bSo sh1 λ(a,b)=>eX a b
def gL.k:=cn 212 bTm sh1 λ(a,b)=>gL a b
def jV.k:=cn 115 bR3 sh1 λ(a,b,c,d,e,f)=>jV (a,b,c) (d,e,f)
def tX.k:=cn 116 ⟨[e49,e50],[]⟩ sh1 λ(a,b)=>tX a b
def nM.k:=cn 117 bQn sh1 λ(a,b,c,d,e,f,g,h,i,j,k,l,m,n,o,p,q,r,s,t)=>nM (a,b,c,d,e,f,g,h,i,j) (k,l,m,n,o,p,q,r,s,t)
def kN.k:=cn 214 bTh sh1 λ(a,b)=>kN a b
def rG.k:=cn 118 bS9 sh1 λ(a,b,c,d,e,f,g,h,i,j,k,l,m,n,o,p,q,r)=>rG (a,b,c,d,e,f,g,h,i) (j,k,l,m,n,o,p,q,r)
def nJ.k:=cn 119 bSx sh1 λ(a,b,c,d,e,f,g,h)=>nJ (a,b,c,d) (e,f,g,h)
def kG.k:=cn 39 bSl sh1 λ(a,b,c,d,e,f,g,h,i,j,k,l,m,n,o,p,q,r,s,t,u,v,w,x,y,z)=>kG ((a,b),(c,d),(e,f,g),h,i,j,k,l,m) ((n,o),(p,q),(r,s,t),u,v,w,x,y,z)
def l_FnWorlds.k:=cn 7 aId sh1 l_FnWorlds
end

end Go.Proofs.YtnkjolpkcmgcaaaGreat
