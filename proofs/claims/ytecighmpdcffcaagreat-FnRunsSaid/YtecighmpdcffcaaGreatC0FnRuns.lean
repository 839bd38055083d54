/-
  Contracts of the functions of the program. Conditions: none.
-/
import Derived.Test.YtecighmpdcffcaaGreatT0FnRuns
import Derived.Test.YtecighmpdcffcaaGreatProg
import Derived.KernelRfl
set_option linter.unusedVariables false
set_option linter.unusedSimpArgs false
set_option maxRecDepth 100000
namespace Go.Proofs.YtecighmpdcffcaaGreat
open Go.Ab Go.V
noncomputable section
theorem follows:Tryz.prog.follows .mixedOrders=true:=by kernel_rfl
theorem _root_.Go.V.Con.Ok.c {P:Program} {c:Con} {E:List Con} (h:c.Ok P) (k:aFm P E):aFm P (c::E):=⟨h,k⟩
theorem fk {E:List Con} {c:Con} {fn:Func} (hf:Tryz.prog.funcs[c.f]? =some fn) (k:aFm Tryz.prog E) (pl:Plan) (e: ∀ x,bL7 Tryz.prog E fn pl c.pre c.post x=c.sem x:=by intro x;kernel_rfl) (hn:(fn.name=="runtime.NumGoroutine")=false:=by rfl):c.Ok Tryz.prog:=bXb hf hn follows (aFm.mem k) fun x y h=>(e x).trans h
theorem nok:aFm Tryz.prog []:=trivial
abbrev _root_.Go.V.Plan.q (p:Plan):Plan:= .seq .z p
def ow1:OT:= .row 79 9 tFl false
def ow2:OT:= .row 3 1 ti true
def ow3:OT:= .row 231 3 tSg true
def ow4:OT:= .row 43 1 tPt true
def ow5:OT:= .row 62 12 tFy false
def ow6:OT:= .row 82 4 tIb false
def ow7:OT:= .row 108 4 tPp true
def ow8:OT:= .row 5 1 tb true
def ow9:OT:= .row 199 5 tRs true
def aGo:OT:= .row 163 3 tAS true
def aB8:OT:= .row 125 5 tLk true
def aDc:OT:= .row 216 1 tMs true
def aKn:OT:= .row 179 5 cH true
def aCf:OT:= .row 128 4 tUs true
def aEc:OT:= .row 116 3 tRv true
def aWz:OT:= .row 43 1 tPt false
def aAw:OT:= .row 62 12 tFy true
def aB9:OT:= .row 82 4 tIb true
def aEe:OT:= .row 79 9 tFl true
def aR0:OT:= .row 192 3 aAf true
def aRz:OT:= .row 108 4 tPp false
def bL0:OT:= .row 73 15 gC false
def ob1:OT:= .box [.var (.sl tb),.var ti,.var ti]
def ob2:OT:= .box [.var (.sl tAS),.var (.sl tLk),.var (.sl tSg),.var (.sl tSg),.var ti,.var (.sl tRs),.var (.sl tUs),.var ti,.var (.sl ti),.row 0,.row 1,.row 2,.var ti]
def ob3:OT:= .box [.var (.sl tAS),.var (.sl tLk),.var (.sl tSg),.var (.sl tSg),.var ti,.var (.sl tRs),.var (.sl tUs),.var ti,.var (.sl ti),.row 300001,.row 300002,.row 300003,.var ti]
def ob4:OT:= .box [.row 300001]
def ob5:OT:= .box [.row 300001,.row 300003]
def ob6:OT:= .box [.var (.sl tAS),.var (.sl tLk)]
def ob7:OT:= .box [.var ti,.var ti,.var ti,.var (.sl tPp),.var ti,.var ti,.var ti,.var ti,.var ti,.var (.sl tb)]
def ob8:OT:= .box [.var ti,.var ti,.var ti,.row 300001]
def ob9:OT:= .box [.var ti,.var ti,.row 300003]
def bB0:OT:= .box [.row 300005]
def bLg:OT:= .box [.row 300001,.nil]
def bMy:OT:= .box [.var ti,.var ti,.row 300004]
def bVr:OT:= .box [.var ti,.var ti,.var ti,.var ti,.row 1144,.row 1145,.var ti,.var ti,.row 1146]
def bJ2:OT:= .box [.row 1208,.row 1209,.row 1272,.row 1273,.var ti,.row 1336,.row 1337,.var ti,.row 1400,.row 300001,.nil,.nil,.var ti]
def bLw:OT:= .box [.row 1208,.row 1209,.row 1272,.row 1273,.var ti,.row 1336,.row 1337,.var ti,.row 1400,.row 300001,.row 300002,.nil,.var ti]
def bVj:OT:= .box [.var ti,.var ti,.row 300001]
def bVu:OT:= .box [.row 1160,.row 1208]
def bT2:OT:= .box [.var ti,.var ti,.var ti,.nil]
def bTw:OT:= .box [.var ti,.var ti,.var ti]
def bVf:OT:= .box [.row 300001,.row 300002]
def bT8:OT:= .box [.row 300007,.row 300008,.row 300009,.row 300010,.var ti,.row 300006,.row 300011,.var ti,.row 300012,.row 300013,.row 300014,.row 300015,.var ti]
def bTy:OT:= .box [.var ti,.var ti,.var ti,.var ti,.row 300003,.row 300004,.var ti,.var ti,.row 300005]
def bUs:OT:= .box [.var (.sl tPp)]
def bUm:OT:= .box [.var ti,.var ti,.var ti,.var (.sl tPp),.var ti,.var ti,.var ti,.var ti,.var ti,.row 1161]
def bYi:OT:= .box [.var ti,.var ti,.var ti,.row 1192,.var ti,.var ti,.var ti,.var ti,.var ti,.row 1193]
def bVs:OT:= .box [.var ti,.var ti,.var ti,.row 300001,.var ti,.var ti,.var ti,.var ti,.var ti,.row 300002]
def bY3:OT:= .box [.var ti,.var ti,.var ti,.row 1112]
def bYr:OT:= .box [.var ti,.var ti,.var ti,.var ti,.row 1112,.row 1113,.var ti,.var ti,.row 1114]
def bX4:OT:= .box [.var ti,.var ti,.var ti,.row 1544]
def bYs:OT:= .box [.var ti,.var ti,.var ti,.var ti,.row 2312,.row 2313,.var ti,.var ti,.row 2314]
def bX7:OT:= .box [.var ti,.var ti,.var ti,.var ti,.var ti,.row 1560,.var ti,.var ti,.var ti,.var ti,.var ti,.row 1561]
def bY2:OT:= .box [.var ti,.row 2152,.row 2153]
def bX9:OT:= .box [.var (.sl tAS),.var (.sl tLk),.var (.sl tSg),.var (.sl tSg),.var ti,.row 2152,.row 2153,.var ti,.var (.sl ti),.row 0,.row 1,.row 2,.var ti]
def bXx:OT:= .box [.var ti,.var ti,.var ti,.row 2904,.var ti,.var ti,.var ti,.var ti,.var ti,.row 2905]
def bV7:OT:= .box [.var ti,.var ti,.var ti,.var ti,.var (.sl tMs),.var (.sl tPt),.var ti,.var ti,.var (.sl tRv)]
def bX2:OT:= .box [.var (.sl tAS),.var (.sl tLk),.var (.sl tSg),.var (.sl tSg),.var ti,.var (.sl tRs),.var (.sl tUs),.var ti,.var (.sl ti),.row 14,.row 1,.row 2,.var ti]
def bTk:OT:= .box [.var ti,.var ti,.nil,.var ti,.var ti,.var ti,.var ti,.var ti,.var (.sl tPp),.var ti,.var ti,.var ti,.var ti,.var ti,.row 300001]
def bUa:OT:= .box [.row 1208,.row 1209,.row 1272,.row 1273,.var ti,.row 1336,.row 1337,.var ti,.row 1400,.row 300001,.row 300002,.row 300003,.var ti]
def bU3:OT:= .box [.var ti,.var .bool,.var ti]
def bYw:OT:= .box [.var ti,.var ti,.var ti,.var ti,.var ti,.var (.sl tPp),.var ti,.var ti,.var ti,.var ti,.var ti,.var (.sl tb)]
def bYn:OT:= .box [.var ti,.var ti,.var ti,.row 2584,.var ti,.var ti,.var ti,.var ti,.var ti,.row 2585]
def bYb:OT:= .box [.var ti,.var ti,.var ti,.row 3176,.var ti,.var ti,.var ti,.var ti,.var ti,.row 3177]
def bT4:OT:= .box [.row 300001,.row 300002,.row 300003,.row 300004,.var ti,.row 300005,.row 300006,.var ti,.row 300007,.row 300008,.row 300009,.row 300010,.var ti]
def bV0:OT:= .box [.row 1464,.row 1465,.row 1466,.row 1467,.var ti,.row 1468,.row 1469,.var ti,.row 1470,.row 1471,.row 1472,.row 1473,.var ti]
def bVo:OT:= .box [.var (.sl tAS),.var (.sl tLk),.var (.sl tSg),.var (.sl tSg),.var ti,.var (.sl tRs),.var (.sl tUs),.var ti,.var (.sl ti),.var (.sl tFy),.var (.sl tFl),.var (.sl tIb),.var ti]
def bUd:OT:= .box [.var (.sl tAS),.var (.sl tLk),.var (.sl tSg),.var (.sl tSg),.var ti,.var (.sl tRs),.var (.sl tUs),.var ti,.var (.sl ti),.row 1448,.row 1449,.row 1450,.var ti]
def ag1:ST:= .agg [.var (.sl tAS),.var (.sl tLk)]
def ag2:ST:= .agg [.var ti,.var ti,.var ti,.var (.sl tPp),.var ti,.var ti,.var ti,.var ti,.var ti,.var (.sl tb)]
def ag3:ST:= .agg [.var (.sl tPp)]
def ag4:ST:= .agg [.var ti,.var ti,.var (.sl cH)]
def ag5:ST:= .agg [.var ti,.var ti,.var ti,.var ti,.var (.sl tMs),.var (.sl tPt),.var ti,.var ti,.var (.sl tRv)]
def ag6:ST:= .agg [.var ti,.var ti,.var ti,.var (.sl cH)]
def ag7:ST:= .agg [.var ti,.var ti,.var ti,.var ti,.var ti]
def ag8:ST:= .agg [.var (.sl tSg),.var (.sl tSg)]
def ag9:ST:= .agg [.var ti,.var ti,.var ti,.row 0,.var ti,.var ti,.var ti,.var ti,.var ti,.row 1]
def bVq:ST:= .agg [.var (.sl tAS),.var (.sl tLk),.var (.sl tSg),.var (.sl tSg),.var ti,.var (.sl tRs),.var (.sl tUs),.var ti,.var (.sl ti),.var (.sl tFy),.var (.sl tFl),.var (.sl tIb),.var ti]
def bTr:ST:= .agg [.var ti,.var (.sl tRs),.var (.sl tUs)]
def bNb:ST:= .agg [.var ti,.var ti,.var ti,.var (.sl tMs)]
def bX3:ST:= .agg [.var ti,.var ti,.var ti,.var ti,.row 0,.row 1,.var ti,.var ti,.row 2]
def bV3:ST:= .agg [.row 0]
def bTb:ST:= .agg [.var ti,.var ti,.var ti]
def bXz:ST:= .agg [.row 0,.row 1,.row 2,.row 3,.var ti,.row 4,.row 5,.var ti,.row 6,.row 7,.row 8,.row 9,.var ti]
def bYd:ST:= .agg [.var ti,.var ti,.var ti,.row 0]
def bYc:ST:= .agg [.var ti,.row 0,.row 1]
def bYx:ST:= .agg [.var ti,.var ti,.var (.sl tb),.var ti,.var ti,.var ti,.var ti,.var ti,.var (.sl tPp),.var ti,.var ti,.var ti,.var ti,.var ti,.var (.sl tb)]
def bMh:ST:= .agg [.row 0,.row 1]
def bWc:ST:= .agg [.var ti,.var ti,.row 0]
def bKn:ST:= .agg [.var ti,.var ti,.var ti,.var ti,.var ti,.var (.sl tPp),.var ti,.var ti,.var ti,.var ti,.var ti,.var (.sl tb)]
def bU4:ST:= .agg [.var ti,.var ti,.var ti,.var ti,.var ti,.row 0,.var ti,.var ti,.var ti,.var ti,.var ti,.row 1]
def bYg:ST:= .agg [.var ti,.var ti,.var ti,.row 3,.var ti,.var ti,.var ti,.var ti,.var ti,.row 4]
def bXy:ST:= .agg [.var (.sl tAS),.var (.sl tLk),.var (.sl tSg),.var (.sl tSg),.var ti,.var (.sl tRs),.var (.sl tUs),.var ti,.var (.sl ti),.row 1001109,.row 1001110,.row 1001111,.var ti]
def bUl:ST:= .agg [.var (.sl tAS),.var (.sl tLk),.var (.sl tSg),.var (.sl tSg),.var ti,.var (.sl tRs),.var (.sl tUs),.var ti,.var (.sl ti),.row 0,.row 1,.row 2,.var ti]
def vr1:ST:= .one (.var ti)
def vr2:ST:= .one (.var .bool)
def vr3:ST:= .one (.row 300001)
def vr4:ST:= .one (.row 0)
def vr5:ST:= .one (.ptr 1000000 0)
def vr6:ST:= .one (.var (.sl tb))
def vr7:ST:= .one (.var (.sl ti))
def vr8:ST:= .one (.row 7)
def vr9:ST:= .one (.row 6)
def bCj:ST:= .one (.var (.sl tPt))
def bTo:ST:= .one (.var (.sl tRs))
def aSi:ST:= .one (.row 10)
def bMc:ST:= .one (.var (.sl tRv))
def bX6:ST:= .one (.row 1624)
def bKr:ST:= .one (.var (.sl cH))
def aW8:ST:= .one (.row 15)
def bYu:ST:= .one (.ptr 7 0)
def bYe:ST:= .one (.var (.sl gC))
def bFg:ST:= .one (.var (.sl tMs))
def bYj:ST:= .one (.row 5)
def bYo:ST:= .one (.ptr 11 0)
def aVy:ST:= .one (.var (.sl tSg))
def aYh:ST:= .one (.row 14)
def bM9:ST:= .one (.ptr 8 0)
def bYy:ST:= .one (.ptr 13 0)
def bC9:ST:= .one (.row 16)
def bTh:ST:= .one (.var (.sl tIb))
def bLo:ST:= .one (.row 127)
def bMd:ST:= .one (.ptr 6 0)
def bLt:ST:= .one (.row 300002)
def e1:Nat×ST:=(1,vr1)
def e2:Nat×ST:=(0,vr1)
def e3:Nat×ST:=(0,vr2)
def e4:Nat×ST:=(2,vr1)
def e5:Nat×ST:=(0,ag1)
def e6:Nat×ST:=(3,vr1)
def e7:Nat×ST:=(5,vr1)
def e8:Nat×ST:=(0,vr4)
def e9:Nat×ST:=(4,vr2)
def e10:Nat×ST:=(0,vr5)
def e11:Nat×ST:=(4,vr1)
def e12:Nat×ST:=(3,vr3)
def e13:Nat×ST:=(0,ag3)
def e14:Nat×ST:=(6,vr1)
def e15:Nat×ST:=(2,vr2)
def e16:Nat×ST:=(11,vr3)
def e17:Nat×ST:=(0,ag4)
def e18:Nat×ST:=(0,vr6)
def e19:Nat×ST:=(9,vr1)
def e20:Nat×ST:=(7,vr1)
def e21:Nat×ST:=(0,ag2)
def e22:Nat×ST:=(0,ag5)
def e23:Nat×ST:=(1,ag3)
def e24:Nat×ST:=(8,vr1)
def e25:Nat×ST:=(3,vr9)
def e26:Nat×ST:=(1,vr2)
def e27:Nat×ST:=(0,ag9)
def e28:Nat×ST:=(1,ag4)
def e29:Nat×ST:=(0,bVq)
def e30:Nat×ST:=(5,vr8)
def e31:Nat×ST:=(0,bTo)
def e32:Nat×ST:=(1,ag2)
def e33:Nat×ST:=(0,ag6)
def e34:Nat×ST:=(0,bTr)
def e35:Nat×ST:=(5,vr3)
def e36:Nat×ST:=(10,vr1)
def e37:Nat×ST:=(0,bCj)
def e38:Nat×ST:=(13,vr1)
def e39:Nat×ST:=(9,bX6)
def e40:Nat×ST:=(0,bX3)
def e41:Nat×ST:=(0,ag7)
def e42:Nat×ST:=(0,vr7)
def e43:Nat×ST:=(0,bXz)
def e44:Nat×ST:=(0,bV3)
def e45:Nat×ST:=(0,bNb)
def e46:Nat×ST:=(0,bMc)
def e47:Nat×ST:=(12,vr2)
def e48:Nat×ST:=(0,ag8)
def e49:Nat×ST:=(0,bYd)
def e50:Nat×ST:=(1,vr7)
def e51:Nat×ST:=(7,aSi)
def e52:Nat×ST:=(7,bYu)
def e53:Nat×ST:=(34,vr2)
def e54:Nat×ST:=(0,bKr)
def e55:Nat×ST:=(1,ag8)
def e56:Nat×ST:=(0,bYc)
def e57:Nat×ST:=(1,bYe)
def e58:Nat×ST:=(6,vr2)
def e59:Nat×ST:=(5,vr7)
def e60:Nat×ST:=(1,ag6)
def e61:Nat×ST:=(11,vr1)
def e62:Nat×ST:=(12,vr1)
def e63:Nat×ST:=(0,bTb)
def e64:Nat×ST:=(1,bTb)
def e65:Nat×ST:=(1,bYx)
def e66:Nat×ST:=(31,vr2)
def e67:Nat×ST:=(3,bYj)
def e68:Nat×ST:=(7,aW8)
def e69:Nat×ST:=(15,vr1)
def e70:Nat×ST:=(11,bYo)
def e71:Nat×ST:=(13,bYy)
def e72:Nat×ST:=(7,.one (.row 18))
def e73:Nat×ST:=(7,.one (.row 9))
def e74:Nat×ST:=(7,.one (.row 29))
def o1:Nat×OT:=(1000000,ob1)
def o2:Nat×OT:=(1,ow1)
def o3:Nat×OT:=(0,ow5)
def o4:Nat×OT:=(1000000,ob2)
def o5:Nat×OT:=(2,ow6)
def o6:Nat×OT:=(0,ow7)
def o7:Nat×OT:=(300001,aWz)
def o8:Nat×OT:=(1,ow8)
def o9:Nat×OT:=(0,aDc)
def o10:Nat×OT:=(300001,ow2)
def o11:Nat×OT:=(300002,ow1)
def o12:Nat×OT:=(300001,ow5)
def o13:Nat×OT:=(300003,ow6)
def o14:Nat×OT:=(6,ow2)
def o15:Nat×OT:=(0,aGo)
def o16:Nat×OT:=(1,aB8)
def o17:Nat×OT:=(0,ow9)
def o18:Nat×OT:=(300001,aGo)
def o19:Nat×OT:=(300001,ow7)
def o20:Nat×OT:=(0,ow2)
def o21:Nat×OT:=(1,ow4)
def o22:Nat×OT:=(1624,ow4)
def o23:Nat×OT:=(0,aKn)
def o24:Nat×OT:=(2,aEc)
def o25:Nat×OT:=(2,ow3)
def o26:Nat×OT:=(3,ow3)
def o27:Nat×OT:=(4,ow9)
def o28:Nat×OT:=(5,aCf)
def o29:Nat×OT:=(7,aAw)
def o30:Nat×OT:=(9,aB9)
def o31:Nat×OT:=(300001,aKn)
def o32:Nat×OT:=(3,ob4)
def o33:Nat×OT:=(1000000,ob3)
def o34:Nat×OT:=(300001,ow4)
def o35:Nat×OT:=(15,ow4)
def o36:Nat×OT:=(300001,ow3)
def o37:Nat×OT:=(0,ow8)
def o38:Nat×OT:=(300003,aB8)
def o39:Nat×OT:=(0,ow3)
def o40:Nat×OT:=(1,aCf)
def o41:Nat×OT:=(3,ob5)
def o42:Nat×OT:=(0,ow4)
def o43:Nat×OT:=(8,aEe)
def o44:Nat×OT:=(10,aR0)
def o45:Nat×OT:=(10,ow4)
def o46:Nat×OT:=(300001,aR0)
def o47:Nat×OT:=(300001,ow9)
def o48:Nat×OT:=(1001109,ow5)
def o49:Nat×OT:=(1001110,ow1)
def o50:Nat×OT:=(1001111,ow6)
def o51:Nat×OT:=(300003,aKn)
def o52:Nat×OT:=(300002,ow4)
def o53:Nat×OT:=(300001,aEc)
def o54:Nat×OT:=(0,.row 163 3 tAS false)
def o55:Nat×OT:=(1,.row 125 5 tLk false)
def k0:Nat×ST:=(0,.keep)
def k1:Nat×ST:=(1,.keep)
def k2:Nat×ST:=(2,.keep)
def k3:Nat×ST:=(3,.keep)
def k4:Nat×ST:=(4,.keep)
def k5:Nat×ST:=(5,.keep)
def k6:Nat×ST:=(6,.keep)
def k7:Nat×ST:=(7,.keep)
def k8:Nat×ST:=(8,.keep)
def k9:Nat×ST:=(9,.keep)
def k10:Nat×ST:=(10,.keep)
def k11:Nat×ST:=(11,.keep)
def k12:Nat×ST:=(12,.keep)
def k13:Nat×ST:=(13,.keep)
def k14:Nat×ST:=(14,.keep)
def k15:Nat×ST:=(15,.keep)
def k16:Nat×ST:=(16,.keep)
def k17:Nat×ST:=(17,.keep)
def k18:Nat×ST:=(18,.keep)
def k19:Nat×ST:=(19,.keep)
def k20:Nat×ST:=(20,.keep)
def k21:Nat×ST:=(21,.keep)
def k22:Nat×ST:=(22,.keep)
def k23:Nat×ST:=(23,.keep)
def k25:Nat×ST:=(25,.keep)
def k26:Nat×ST:=(26,.keep)
def k28:Nat×ST:=(28,.keep)
def k31:Nat×ST:=(31,.keep)
def k32:Nat×ST:=(32,.keep)
def k33:Nat×ST:=(33,.keep)
def k35:Nat×ST:=(35,.keep)
def k36:Nat×ST:=(36,.keep)
def k37:Nat×ST:=(37,.keep)
def k38:Nat×ST:=(38,.keep)
def k39:Nat×ST:=(39,.keep)
def k49:Nat×ST:=(49,.keep)
def k50:Nat×ST:=(50,.keep)
def k51:Nat×ST:=(51,.keep)
def k52:Nat×ST:=(52,.keep)
def k53:Nat×ST:=(53,.keep)
def k54:Nat×ST:=(54,.keep)
def k56:Nat×ST:=(56,.keep)
def k57:Nat×ST:=(57,.keep)
def k58:Nat×ST:=(58,.keep)
def k64:Nat×ST:=(64,.keep)
def k65:Nat×ST:=(65,.keep)
def k66:Nat×ST:=(66,.keep)
def k67:Nat×ST:=(67,.keep)
def k72:Nat×ST:=(72,.keep)
def k73:Nat×ST:=(73,.keep)
def k74:Nat×ST:=(74,.keep)
def k87:Nat×ST:=(87,.keep)
def k88:Nat×ST:=(88,.keep)
def bB1:Nat×ST:=(100,.keep)
def aJm:Nat×ST:=(101,.keep)
def aMs:Nat×ST:=(102,.keep)
def bCw:Nat×ST:=(103,.keep)
def bUy:Nat×ST:=(106,.keep)
def bV9:Nat×ST:=(107,.keep)
def bYz:Nat×ST:=(108,.keep)
def bYq:Nat×ST:=(128,.keep)
def bY1:Nat×ST:=(129,.keep)
def bJv:Nat×ST:=(147,.keep)
def bKz:Nat×ST:=(148,.keep)
def bJs:Nat×ST:=(149,.keep)
def bVc:Nat×ST:=(150,.keep)
def bX1:Nat×ST:=(151,.keep)
def bLy:Nat×ST:=(163,.keep)
def bJz:Nat×ST:=(164,.keep)
def bVe:Nat×ST:=(165,.keep)
def bYp:Nat×ST:=(169,.keep)
def bYv:Nat×ST:=(170,.keep)
def j0:Nat×OT:=(0,.keep)
def j1:Nat×OT:=(1,.keep)
def j2:Nat×OT:=(2,.keep)
def j3:Nat×OT:=(3,.keep)
def j4:Nat×OT:=(4,.keep)
def j5:Nat×OT:=(5,.keep)
def j6:Nat×OT:=(6,.keep)
def j7:Nat×OT:=(7,.keep)
def j8:Nat×OT:=(8,.keep)
def j9:Nat×OT:=(9,.keep)
def j10:Nat×OT:=(10,.keep)
def j11:Nat×OT:=(11,.keep)
def j12:Nat×OT:=(12,.keep)
def j13:Nat×OT:=(13,.keep)
def j14:Nat×OT:=(14,.keep)
def j15:Nat×OT:=(15,.keep)
def j16:Nat×OT:=(16,.keep)
def j19:Nat×OT:=(19,.keep)
def j26:Nat×OT:=(26,.keep)
def j28:Nat×OT:=(28,.keep)
def j29:Nat×OT:=(29,.keep)
def aVn:Nat×OT:=(1080,.keep)
def aU8:Nat×OT:=(1081,.keep)
def bXk:Nat×OT:=(1082,.keep)
def aRa:Nat×OT:=(1112,.keep)
def bEj:Nat×OT:=(1113,.keep)
def bD6:Nat×OT:=(1114,.keep)
def aFr:Nat×OT:=(1128,.keep)
def bP4:Nat×OT:=(1129,.keep)
def bN0:Nat×OT:=(1130,.keep)
def bOi:Nat×OT:=(1131,.keep)
def bPj:Nat×OT:=(1132,.keep)
def bNy:Nat×OT:=(1133,.keep)
def bQm:Nat×OT:=(1134,.keep)
def bN5:Nat×OT:=(1135,.keep)
def bWu:Nat×OT:=(1136,.keep)
def bP9:Nat×OT:=(1137,.keep)
def bP7:Nat×OT:=(1144,.keep)
def bPa:Nat×OT:=(1145,.keep)
def bOd:Nat×OT:=(1146,.keep)
def aH3:Nat×OT:=(1160,.keep)
def bQi:Nat×OT:=(1161,.keep)
def aQw:Nat×OT:=(1176,.keep)
def bEi:Nat×OT:=(1177,.keep)
def bD3:Nat×OT:=(1178,.keep)
def aFq:Nat×OT:=(1192,.keep)
def aVd:Nat×OT:=(1193,.keep)
def bQj:Nat×OT:=(1194,.keep)
def bOx:Nat×OT:=(1195,.keep)
def bPg:Nat×OT:=(1196,.keep)
def bOv:Nat×OT:=(1197,.keep)
def bOq:Nat×OT:=(1198,.keep)
def bOy:Nat×OT:=(1199,.keep)
def bO6:Nat×OT:=(1200,.keep)
def bPw:Nat×OT:=(1201,.keep)
def wU:Nat×OT:=(1208,.keep)
def aB3:Nat×OT:=(1209,.keep)
def aVp:Nat×OT:=(1210,.keep)
def aU9:Nat×OT:=(1211,.keep)
def aVk:Nat×OT:=(1212,.keep)
def aVf:Nat×OT:=(1213,.keep)
def aU7:Nat×OT:=(1214,.keep)
def aVt:Nat×OT:=(1215,.keep)
def aVl:Nat×OT:=(1216,.keep)
def aU1:Nat×OT:=(1217,.keep)
def bWz:Nat×OT:=(1224,.keep)
def aDk:Nat×OT:=(1272,.keep)
def aEr:Nat×OT:=(1273,.keep)
def bB5:Nat×OT:=(1288,.keep)
def aNl:Nat×OT:=(1304,.keep)
def aH6:Nat×OT:=(1320,.keep)
def aHt:Nat×OT:=(1336,.keep)
def aHq:Nat×OT:=(1337,.keep)
def bWo:Nat×OT:=(1368,.keep)
def aDj:Nat×OT:=(1400,.keep)
def bWs:Nat×OT:=(1401,.keep)
def bW5:Nat×OT:=(1416,.keep)
def bW3:Nat×OT:=(1417,.keep)
def bW9:Nat×OT:=(1418,.keep)
def bW1:Nat×OT:=(1419,.keep)
def bWx:Nat×OT:=(1420,.keep)
def bW6:Nat×OT:=(1421,.keep)
def bXv:Nat×OT:=(1422,.keep)
def bWp:Nat×OT:=(1423,.keep)
def bXp:Nat×OT:=(1424,.keep)
def bXs:Nat×OT:=(1425,.keep)
def bXw:Nat×OT:=(1528,.keep)
def bWl:Nat×OT:=(1529,.keep)
def bWj:Nat×OT:=(1530,.keep)
def bOk:Nat×OT:=(1560,.keep)
def bNg:Nat×OT:=(1561,.keep)
def bXo:Nat×OT:=(1576,.keep)
def bW8:Nat×OT:=(1592,.keep)
def bXr:Nat×OT:=(1593,.keep)
def bWw:Nat×OT:=(1608,.keep)
def bXq:Nat×OT:=(1609,.keep)
def aVo:Nat×OT:=(1624,.keep)
def yH:Nat×OT:=(1672,.keep)
def yI:Nat×OT:=(1720,.keep)
def bPx:Nat×OT:=(1736,.keep)
def bXc:Nat×OT:=(1755,.keep)
def bWn:Nat×OT:=(1756,.keep)
def vC:Nat×OT:=(1768,.keep)
def bXn:Nat×OT:=(1787,.keep)
def bWt:Nat×OT:=(1788,.keep)
def vQ:Nat×OT:=(1816,.keep)
def bWe:Nat×OT:=(1944,.keep)
def bPf:Nat×OT:=(2152,.keep)
def bNh:Nat×OT:=(2153,.keep)
def bCu:Nat×OT:=(2312,.keep)
def bE4:Nat×OT:=(2313,.keep)
def bFb:Nat×OT:=(2314,.keep)
def bEw:Nat×OT:=(2315,.keep)
def bEl:Nat×OT:=(2316,.keep)
def bDh:Nat×OT:=(2317,.keep)
def bD5:Nat×OT:=(2318,.keep)
def bE2:Nat×OT:=(2319,.keep)
def bPr:Nat×OT:=(2320,.keep)
def bDp:Nat×OT:=(2321,.keep)
def cU:Nat×OT:=(300001,.keep)
def uN:Nat×OT:=(300002,.keep)
def oS:Nat×OT:=(300003,.keep)
def aC0:Nat×OT:=(300004,.keep)
def aSv:Nat×OT:=(300005,.keep)
def aI5:Nat×OT:=(300006,.keep)
def aIx:Nat×OT:=(300007,.keep)
def aIp:Nat×OT:=(300008,.keep)
def aIt:Nat×OT:=(300009,.keep)
def aIy:Nat×OT:=(300010,.keep)
def aR8:Nat×OT:=(300011,.keep)
def aRk:Nat×OT:=(300012,.keep)
def aSm:Nat×OT:=(300013,.keep)
def aSe:Nat×OT:=(300014,.keep)
def aS3:Nat×OT:=(300015,.keep)
def aL:Nat×OT:=(1000000,.keep)
def aCm:Nat×OT:=(1001109,.keep)
def aCg:Nat×OT:=(1001110,.keep)
def aCd:Nat×OT:=(1001111,.keep)
def sh1:Sh:=⟨[e3],[]⟩
def sh2:Sh:=⟨[e2],[]⟩
def sh3:Sh:=⟨[],[]⟩
def sh4:Sh:=⟨[e9],[]⟩
def sh5:Sh:=⟨[e2,e1],[]⟩
def sh6:Sh:=⟨[e13],[]⟩
def sh7:Sh:=⟨[e15],[]⟩
def sh8:Sh:=⟨[e21],[]⟩
def sh9:Sh:=⟨[e18],[]⟩
def aFg:Sh:=⟨[k0,k1,e7],[]⟩
def aG1:Sh:=⟨[e8],[o20]⟩
def aG5:Sh:=⟨[],[o3,o2,o5,o4]⟩
def aGu:Sh:=⟨[k2,k3,e7],[j2,j3]⟩
def aGx:Sh:=⟨[k1],[j1]⟩
def aIe:Sh:=⟨[e37],[]⟩
def aIn:Sh:=⟨[e22],[]⟩
def aIb:Sh:=⟨[e27],[o6,o8]⟩
def aJq:Sh:=⟨[e17],[]⟩
def aL2:Sh:=⟨[e10],[o1]⟩
def aMc:Sh:=⟨[e40],[o9,o21,o24]⟩
def aMp:Sh:=⟨[e44],[o6]⟩
def aLn:Sh:=⟨[k1,e6],[j1]⟩
def aOc:Sh:=⟨[e5,e1,e4],[]⟩
def aOj:Sh:=⟨[e42],[]⟩
def aPe:Sh:=⟨[e8],[o42]⟩
def aOd:Sh:=⟨[e33,e1],[]⟩
def aOr:Sh:=⟨[e58],[]⟩
def aS9:Sh:=⟨[e17,e1],[]⟩
def aTc:Sh:=⟨[e8],[o39]⟩
def aSw:Sh:=⟨[e56],[o17,o40]⟩
def aSt:Sh:=⟨[e5,e23],[]⟩
def aR6:Sh:=⟨[e27,e26],[o6,o8]⟩
def aRu:Sh:=⟨[e10,e1,e4,(3,ag2)],[o4,o3,o2,o5]⟩
def aSq:Sh:=⟨[e45,e32],[]⟩
def aR2:Sh:=⟨[e3],[o3,o2,o5,o4]⟩
def aTd:Sh:=⟨[k0,k1,e47],[]⟩
def aXs:Sh:=⟨[e5,e1],[]⟩
def aV9:Sh:=⟨[e41],[]⟩
def aW6:Sh:=⟨[e5,e28],[]⟩
def aYz:Sh:=⟨[e17,e28],[]⟩
def aWh:Sh:=⟨[e49],[o23]⟩
def aW9:Sh:=⟨[e49],[o9]⟩
def aX2:Sh:=⟨[e29],[]⟩
def aXl:Sh:=⟨[e13,e23],[]⟩
def aYb:Sh:=⟨[e18,e1],[]⟩
def aXp:Sh:=⟨[e8],[o37]⟩
def aWm:Sh:=⟨[e54],[]⟩
def aWf:Sh:=⟨[e29,e57],[]⟩
def bDk:Sh:=⟨[e2],[o1]⟩
def bBr:Sh:=⟨[e10,e1],[o1]⟩
def bCd:Sh:=⟨[e2,e50],[]⟩
def bEn:Sh:=⟨[e5],[]⟩
def bB8:Sh:=⟨[e43],[o15,o16,o25,o26,o27,o28,o14,o29,o43,o30]⟩
def bC5:Sh:=⟨[e33],[]⟩
def bDj:Sh:=⟨[e63],[]⟩
def bC1:Sh:=⟨[e45],[]⟩
def bE9:Sh:=⟨[e5,e60],[]⟩
def bC7:Sh:=⟨[e8],[(0,aEc)]⟩
def bCl:Sh:=⟨[e8],[o17]⟩
def bDo:Sh:=⟨[e34,e1],[]⟩
def bDc:Sh:=⟨[e10,e1,(2,ag2)],[o4,o3,o2,o5]⟩
def bEu:Sh:=⟨[e34,e1,e4,e6],[]⟩
def bD9:Sh:=⟨[e31,e1,e4,e6,e11],[]⟩
def bD2:Sh:=⟨[e6],[]⟩
def bB2:Sh:=⟨[e7],[]⟩
def bDg:Sh:=⟨[k2,k3],[j2,o32,o19]⟩
def bCc:Sh:=⟨[k0],[o12,o11,o13,o33]⟩
def bLq:Sh:=⟨[e2,e1,e4],[]⟩
def bLl:Sh:=⟨[e41,e1,e4],[]⟩
def bL1:Sh:=⟨[e42,e1],[]⟩
def bK9:Sh:=⟨[e2,e1,e4,(3,ag7)],[]⟩
def bLu:Sh:=⟨[(0,bWc)],[o23]⟩
def bMq:Sh:=⟨[e54,(1,bKr)],[]⟩
def bJ8:Sh:=⟨[e5,e55,e4,e6],[]⟩
def bM5:Sh:=⟨[e48,e1,e4],[]⟩
def bLs:Sh:=⟨[e8],[(0,aR0)]⟩
def bLn:Sh:=⟨[e33,e60],[]⟩
def bLm:Sh:=⟨[e18,(1,vr6)],[]⟩
def bMa:Sh:=⟨[e29,e65],[]⟩
def bK8:Sh:=⟨[e21,e1],[]⟩
def bM6:Sh:=⟨[e34,e1,e4,e6,e11],[]⟩
def bMr:Sh:=⟨[e44],[(0,aRz)]⟩
def bNa:Sh:=⟨[e10,e65],[o4,o3,o2,o5]⟩
def bKh:Sh:=⟨[e8],[o23]⟩
def bLi:Sh:=⟨[(8,vr2)],[]⟩
def bK0:Sh:=⟨[k0,k1,k5,(25,vr2)],[]⟩
def bJ3:Sh:=⟨[k1,k2,k3,e11],[j1,j2,o32,o19]⟩
def bKu:Sh:=⟨[k1,k2,e7],[j2]⟩
def bM2:Sh:=⟨[e12],[o10]⟩
def bKk:Sh:=⟨[e16],[o7]⟩
def bKc:Sh:=⟨[k2,k3],[j2,j3]⟩
def bT9:Sh:=⟨[e5,e1,e4,(3,ag7)],[]⟩
def bS9:Sh:=⟨[(0,bMh)],[o39,(1,ow3)]⟩
def bV6:Sh:=⟨[(0,bMh)],[o15,o16]⟩
def bTu:Sh:=⟨[e22,(1,vr6)],[]⟩
def bUe:Sh:=⟨[e40,e26],[o9,o21,o24]⟩
def bTt:Sh:=⟨[(0,bTh),e1,e4],[]⟩
def bTe:Sh:=⟨[e17,e28,e15,(3,ag4)],[]⟩
def bUo:Sh:=⟨[e48,e28,e4,e6,(4,ag4)],[]⟩
def bO0:Sh:=⟨[e5,e55,e4,e6,e11],[]⟩
def bPe:Sh:=⟨[e46,(1,bCj),e4],[]⟩
def bPn:Sh:=⟨[e22,(1,bCj),e4],[]⟩
def bPb:Sh:=⟨[e31,e1,e4,e6],[]⟩
def bP5:Sh:=⟨[e2,e23,e4,e6,(4,vr6)],[]⟩
def bOs:Sh:=⟨[e40,(1,bYg),e15],[o9,o21,o24,(3,ow7),(4,ow8)]⟩
def bNu:Sh:=⟨[(0,bU4)],[o6,o8]⟩
def bOa:Sh:=⟨[e5,e1,(2,ag2)],[]⟩
def bP0:Sh:=⟨[e5,e1,e4,e6,e11,(5,ag2)],[]⟩
def bQr:Sh:=⟨[e21,e1,e4,(3,vr6)],[]⟩
def bQb:Sh:=⟨[e8,e1,e15],[o20]⟩
def bP8:Sh:=⟨[e56,e26],[o17,o40]⟩
def bNn:Sh:=⟨[e5,e1,e4,e6,(4,ag2)],[]⟩
def bQt:Sh:=⟨[e10],[o4,o3,o2,o5]⟩
def bOg:Sh:=⟨[e10,e1],[o4,o3,o2,o5]⟩
def bNr:Sh:=⟨[(0,bKn)],[o3,o2,o5,o4]⟩
def bN6:Sh:=⟨[e10,(1,bXy)],[o1,o48,o49,o50]⟩
def bQl:Sh:=⟨[e43,e57],[o15,o16,o25,o26,o27,o28,o14,o29,(8,ow1),o30]⟩
def bN1:Sh:=⟨[(0,bFg),(1,bFg)],[]⟩
def bPi:Sh:=⟨[e22,(1,bNb)],[]⟩
def bNk:Sh:=⟨[k1,k2,e35,k6],[j2,o10]⟩
def bQh:Sh:=⟨[k2,k3,(37,vr2)],[j2,j3]⟩
def bP1:Sh:=⟨[k0,k2,k3,k4,k8],[j2,o41,o18,o38,o1]⟩
def bO7:Sh:=⟨[k1,k2,k3,e20],[j3]⟩
def bQf:Sh:=⟨[k9,(30,vr2)],[j9]⟩
def bPt:Sh:=⟨[k1,e67,e11],[j1,(5,ow2)]⟩
def bP6:Sh:=⟨[k2,k3,(22,vr2)],[j2,j3]⟩
def bOn:Sh:=⟨[k2,k3,e59,e14],[j2,j3]⟩
def bNw:Sh:=⟨[k2,k3,k5,k6],[j2,j3]⟩
def bNm:Sh:=⟨[k2],[(2,.box [.row 3,.row 7]),(3,aGo),(7,aB8)]⟩
def bPq:Sh:=⟨[k0,k1,k2,e20],[]⟩
def bQp:Sh:=⟨[k6,k7],[j6,(7,ob8),o31]⟩
def bOb:Sh:=⟨[k1,k2,k3,e68],[j3,o35]⟩
def bN7:Sh:=⟨[k2,k3,e66],[j2,j3]⟩
def bO3:Sh:=⟨[e25,k4,k5],[o14,aFr]⟩
def bNe:Sh:=⟨[k2,k4,(18,vr2)],[j4]⟩
def bNs:Sh:=⟨[k0,k3,k4,e7],[cU]⟩
def bOl:Sh:=⟨[k1,k2,(21,vr2)],[j1,j2]⟩
def bQo:Sh:=⟨[k2,k3,e9],[(2,bVr),(3,bYi),bP7,bPa,bOd,aFq,aVd]⟩
def bN3:Sh:=⟨[k4,k5],[j4,(5,bY3),(1112,aDc)]⟩
def bPc:Sh:=⟨[k3,k4,(16,vr2)],[j3,j4]⟩
def bPp:Sh:=⟨[k4,k5],[j4,(5,bYr),aRa,bEj,bD6]⟩
def bPd:Sh:=⟨[k2,k4,(21,vr2)],[j2,aH3]⟩
def bNf:Sh:=⟨[k3,k6,k7,k8,(24,vr2)],[j3,j6,j7,j8,aQw,bEi,bD3]⟩
def bPy:Sh:=⟨[k3,k6,k7,k8,(42,vr2)],[j3,j6,j7,j8,aQw,bEi,bD3]⟩
def bPv:Sh:=⟨[k0,k1,k5,k6,e52],[j0,j1,j2,j5,(7,bX4),(1544,aDc),aL]⟩
def bOj:Sh:=⟨[k0,k1,k5,e36],[j0,o2,j2,j5,aL]⟩
def bN9:Sh:=⟨[k0,k1,k5,k10],[j0,o2,j2,j5,aL]⟩
def bPm:Sh:=⟨[k0,k1,k5,k10,e70],[j0,j1,j2,j5,(11,bYs),(2312,aDc),(2313,ow4),(2314,aEc),aL]⟩
def bQk:Sh:=⟨[e1,(5,vr9)],[(6,ow8)]⟩
def bN2:Sh:=⟨[k0,k1,k7,(8,bM9)],[j0,j1,j2,j7,(8,bX7),(1560,ow7),(1561,ow8),aL]⟩
def bNo:Sh:=⟨[k0,k8,k9,k10,e70,e47],[j0,j1,j2,j8,(11,bY2),bOk,bNg,(2152,ow9),(2153,aCf),aL]⟩
def bPk:Sh:=⟨[k0,k8,k9,k10,k11,(83,vr2)],[j0,j1,j2,j8,j11,bOk,bNg,bPf,bNh,aL]⟩
def bPs:Sh:=⟨[],[o3,j1,j2,bPf,bNh,(1000000,bX9)]⟩
def bOp:Sh:=⟨[k0,k1,k7,e71],[j0,j1,j2,j7,(13,bXx),(2904,ow7),(2905,ow8),aL]⟩
def bQa:Sh:=⟨[],[o12,o11,o13,o33]⟩
def bPu:Sh:=⟨[k4,k5],[j1,j2,j4,j5,(14,ow5),(1000000,bX2)]⟩
def bQd:Sh:=⟨[],[o3,j1,j2,o4]⟩
def bNz:Sh:=⟨[k0,k1,k12,e38],[]⟩
def bNi:Sh:=⟨[k1,(54,vr2)],[j1]⟩
def bQe:Sh:=⟨[e12,k6,k7,e24],[o10]⟩
def bN4:Sh:=⟨[e6,k6,k7,e24],[]⟩
def bO2:Sh:=⟨[e1,(5,.one (.row 1112))],[(1112,ow8)]⟩
def bNp:Sh:=⟨[k0,k1,k7,(8,bM9),e19],[j0,j1,j2,j7,(8,bYw),aL]⟩
def bOe:Sh:=⟨[k0,k1,k7,k8,k9,(54,vr2)],[j0,j1,j2,j7,j8,aL]⟩
def bQs:Sh:=⟨[k0,k1,e70,e47],[j0,j1,j2,(11,bYn),(2584,ow7),(2585,ow8),aL]⟩
def bO8:Sh:=⟨[k0,k1,k7,k9,(116,vr2)],[j0,j1,j2,j7,aL]⟩
def bPo:Sh:=⟨[k0,k1,k7,e71],[j0,j1,j2,j7,(13,bYb),(3176,ow7),(3177,ow8),aL]⟩
def bPl:Sh:=⟨[k2,k3,k4,k5,k9,k10,e16],[j4,j5,vC,vQ,o34]⟩
def bNj:Sh:=⟨[k3,k5,e14,k7,k8,k9],[j5,cU]⟩
def bQn:Sh:=⟨[k2,k3,e14],[j2,j3]⟩
def aHz.con:Con:=⟨7,sh9,sh1,false,fun x=>aHz x⟩
def aCw.con:Con:=⟨70,sh9,⟨[(0,.one (.ptr 0 0))],[(0,ob1)]⟩,false,fun x=>aCw x⟩
def pR.con:Con:=⟨86,aL2,bDk,false,fun (x0,x1,x2)=>pR (x0,x1,x2)⟩
def aE.con:Con:=⟨38,bBr,bDk,false,fun (x0,x1,x2,x3)=>aE (x1,x2,x3) x0⟩
def vU.con:Con:=⟨285,⟨[e8,e1],[(0,.row 3 1 ti false)]⟩,aG1,false,fun (x0,x1)=>vU x1 x0⟩
def gY.con:Con:=⟨197,aXs,aG1,false,fun (x0,x1,x2)=>gY (x0,x1) x2⟩
def uO.con:Con:=⟨308,⟨[e10,e1,e4,e6],[(1000000,.box [.row 0,.row 1]),o54,o55]⟩,⟨[],[o54,o55,(1000000,.box [.row 0,.row 1])]⟩,false,fun (x0,x1,x2,x3,x4)=>uO (x3,x4) x0 x1 x2⟩
def dM.con:Con:=⟨37,bBr,⟨[e3],[o1]⟩,false,fun (x0,x1,x2,x3)=>dM (x1,x2,x3) x0⟩
def aJ.con:Con:=⟨126,bLq,sh1,false,fun (x0,x1,x2)=>aJ x0 x1 x2⟩
def cW.con:Con:=⟨240,aXs,sh1,false,fun (x0,x1,x2)=>cW (x0,x1) x2⟩
def pX.con:Con:=⟨309,⟨[e5,(1,ag7)],[]⟩,sh1,false,fun (x0,x1,x2,x3,x4,x5,x6)=>pX (x0,x1) (x2,x3,x4,x5,x6)⟩
def wJ.con:Con:=⟨226,aL2,⟨[(0,bMh)],[o15,o16,o1]⟩,false,fun (x0,x1,x2)=>wJ (x0,x1,x2)⟩
def uB.con:Con:=⟨286,bLl,sh1,false,fun (x0,x1,x2,x3,x4,x5,x6)=>uB (x0,x1,x2,x3,x4) x5 x6⟩
def kS.con:Con:=⟨199,aOc,sh2,false,fun (x0,x1,x2,x3)=>kS (x0,x1) x2 x3⟩
def dV.con:Con:=⟨282,aOc,sh2,false,fun (x0,x1,x2,x3)=>dV (x0,x1) x2 x3⟩
def iP.con:Con:=⟨316,aOc,aG1,false,fun (x0,x1,x2,x3)=>iP (x0,x1) x2 x3⟩
def fW.con:Con:=⟨118,aOc,sh5,false,fun (x0,x1,x2,x3)=>fW (x0,x1) x2 x3⟩
def dB.con:Con:=⟨317,aJq,aG1,false,fun (x0,x1,x2)=>dB (x0,x1,x2)⟩
def fK.con:Con:=⟨198,bL1,sh1,false,fun (x0,x1)=>fK x0 x1⟩
def uU.con:Con:=⟨360,aS9,aG1,false,fun (x0,x1,x2,x3)=>uU (x0,x1,x2) x3⟩
def lJ.con:Con:=⟨275,sh2,sh1,false,fun x=>lJ x⟩
def rZ.con:Con:=⟨301,sh5,sh2,false,fun (x0,x1)=>rZ x0 x1⟩
def vR.con:Con:=⟨359,bCd,sh2,false,fun (x0,x1)=>vR x0 x1⟩
def hO.con:Con:=⟨315,aS9,sh2,false,fun (x0,x1,x2,x3)=>hO (x0,x1,x2) x3⟩
def aHp.con:Con:=⟨415,sh5,sh2,false,fun (x0,x1)=>aHp x0 x1⟩
def wD.con:Con:=⟨404,aOj,sh2,false,fun x=>wD x⟩
def uA.con:Con:=⟨388,bCd,sh2,false,fun (x0,x1)=>uA x0 x1⟩
def wB.con:Con:=⟨358,bK9,sh2,false,fun (x0,x1,x2,x3,x4,x5,x6,x7)=>wB x0 x1 x2 (x3,x4,x5,x6,x7)⟩
def fC.con:Con:=⟨314,bK9,aV9,false,fun (x0,x1,x2,x3,x4,x5,x6,x7)=>fC x0 x1 x2 (x3,x4,x5,x6,x7)⟩
def jN.con:Con:=⟨229,⟨[e10,(1,ag1),e4],[o1]⟩,⟨[(0,bWc)],[o23,o1]⟩,false,fun (x0,x1,x2,x3,x4,x5)=>jN (x3,x4,x5) (x0,x1) x2⟩
def fX.con:Con:=⟨183,aJq,bLu,false,fun (x0,x1,x2)=>fX (x0,x1,x2)⟩
def vS.con:Con:=⟨228,aW6,bLu,false,fun (x0,x1,x2,x3,x4)=>vS (x0,x1) (x2,x3,x4)⟩
def fE.con:Con:=⟨110,⟨[(0,aVy)],[]⟩,aTc,false,fun x=>fE x⟩
def jQ.con:Con:=⟨383,aV9,sh1,false,fun (x0,x1,x2,x3,x4)=>jQ (x0,x1,x2,x3,x4)⟩
def iZ.con:Con:=⟨355,aW6,sh1,false,fun (x0,x1,x2,x3,x4)=>iZ (x0,x1) (x2,x3,x4)⟩
def fV.con:Con:=⟨349,bT9,sh1,false,fun (x0,x1,x2,x3,x4,x5,x6,x7,x8)=>fV (x0,x1) x2 x3 (x4,x5,x6,x7,x8)⟩
def gM.con:Con:=⟨356,aW6,sh2,false,fun (x0,x1,x2,x3,x4)=>gM (x0,x1) (x2,x3,x4)⟩
def cI.con:Con:=⟨264,aJq,sh2,false,fun (x0,x1,x2)=>cI (x0,x1,x2)⟩
def gN.con:Con:=⟨313,aW6,sh2,false,fun (x0,x1,x2,x3,x4)=>gN (x0,x1) (x2,x3,x4)⟩
def lE.con:Con:=⟨310,aW6,sh1,false,fun (x0,x1,x2,x3,x4)=>lE (x0,x1) (x2,x3,x4)⟩
def lC.con:Con:=⟨311,aJq,sh1,false,fun (x0,x1,x2)=>lC (x0,x1,x2)⟩
def iV.con:Con:=⟨403,bMq,sh1,false,fun (x0,x1)=>iV x0 x1⟩
def jR.con:Con:=⟨387,aYz,sh1,false,fun (x0,x1,x2,x3,x4,x5)=>jR (x0,x1,x2) (x3,x4,x5)⟩
def tP.con:Con:=⟨357,⟨[(0,aVy),e28],[]⟩,sh1,false,fun (x0,x1,x2,x3)=>tP x0 (x1,x2,x3)⟩
def oJ.con:Con:=⟨312,⟨[e48,e28],[]⟩,sh1,false,fun (x0,x1,x2,x3,x4)=>oJ (x0,x1) (x2,x3,x4)⟩
def oA.con:Con:=⟨227,⟨[e5,e55,(2,ag4)],[]⟩,bS9,false,fun (x0,x1,x2,x3,x4,x5,x6)=>oA (x0,x1) (x2,x3) (x4,x5,x6)⟩
def vL.con:Con:=⟨341,sh2,sh1,false,fun x=>vL x⟩
def hZ.con:Con:=⟨254,bEn,sh1,false,fun (x0,x1)=>hZ (x0,x1)⟩
def rD.con:Con:=⟨109,bEn,bV6,false,fun (x0,x1)=>rD (x0,x1)⟩
def nE.con:Con:=⟨318,sh2,aSw,false,fun x=>nE x⟩
def qZ.con:Con:=⟨230,bJ8,bB8,false,fun (x0,x1,x2,x3,x4,x5)=>qZ (x0,x1) (x2,x3) x4 x5⟩
def eI.con:Con:=⟨265,aJq,sh2,false,fun (x0,x1,x2)=>eI (x0,x1,x2)⟩
def xT.con:Con:=⟨231,⟨[e10,e55],[o1]⟩,⟨[e2,e1],[o1]⟩,false,fun (x0,x1,x2,x3,x4)=>xT (x2,x3,x4) (x0,x1)⟩
def oT.con:Con:=⟨89,⟨[e10,e50],[o1]⟩,bDk,false,fun (x0,x1,x2,x3)=>oT (x1,x2,x3) x0⟩
def aAp.con:Con:=⟨232,bLq,aMc,false,fun (x0,x1,x2)=>aAp x0 x1 x2⟩
def dP.con:Con:=⟨170,bBr,⟨[e8],[o37,o1]⟩,false,fun (x0,x1,x2,x3)=>dP (x1,x2,x3) x0⟩
def qJ.con:Con:=⟨272,⟨[(0,bFg)],[]⟩,⟨[e8],[o9]⟩,false,fun x=>qJ x⟩
def oY.con:Con:=⟨54,bC5,aWh,false,fun (x0,x1,x2,x3)=>oY (x0,x1,x2,x3)⟩
def iH.con:Con:=⟨133,sh6,aMp,false,fun x=>iH x⟩
def yA.con:Con:=⟨273,aIe,aPe,false,fun x=>yA x⟩
def eR.con:Con:=⟨185,aIn,aMc,false,fun (x0,x1,x2,x3,x4,x5,x6,x7,x8)=>eR (x0,x1,x2,x3,x4,x5,x6,x7,x8)⟩
def aB5.con:Con:=⟨291,sh5,sh2,false,fun (x0,x1)=>aB5 x0 x1⟩
def bV.con:Con:=⟨135,bDj,sh1,false,fun (x0,x1,x2)=>bV (x0,x1,x2)⟩
def jD.con:Con:=⟨257,aIn,sh1,false,fun (x0,x1,x2,x3,x4,x5,x6,x7,x8)=>jD (x0,x1,x2,x3,x4,x5,x6,x7,x8)⟩
def rL.con:Con:=⟨233,bTu,bUe,false,fun (x0,x1,x2,x3,x4,x5,x6,x7,x8,x9)=>rL (x0,x1,x2,x3,x4,x5,x6,x7,x8) x9⟩
def iM.con:Con:=⟨111,⟨[e34],[]⟩,aSw,false,fun (x0,x1,x2)=>iM (x0,x1,x2)⟩
def fN.con:Con:=⟨184,sh8,aIb,false,fun (x0,x1,x2,x3,x4,x5,x6,x7,x8,x9)=>fN (x0,x1,x2,x3,x4,x5,x6,x7,x8,x9)⟩
def uE.con:Con:=⟨112,⟨[(0,.one (.var (.sl tFy)))],[]⟩,⟨[e8],[(0,aAw)]⟩,false,fun x=>uE x⟩
def oO.con:Con:=⟨113,⟨[(0,.one (.var (.sl tFl)))],[]⟩,⟨[e8],[(0,aEe)]⟩,false,fun x=>oO x⟩
def sP.con:Con:=⟨186,bC1,aW9,false,fun (x0,x1,x2,x3)=>sP (x0,x1,x2,x3)⟩
def oC.con:Con:=⟨114,⟨[(0,bTh)],[]⟩,⟨[e8],[(0,aB9)]⟩,false,fun x=>oC x⟩
def gH.con:Con:=⟨48,aX2,bB8,false,fun (x0,x1,x2,x3,x4,x5,x6,x7,x8,x9,x10,x11,x12)=>gH ((x0,x1),(x2,x3),(x4,x5,x6),x7,x8,x9,x10,x11,x12)⟩
def jF.con:Con:=⟨201,bTt,sh2,false,fun (x0,x1,x2)=>jF x0 x1 x2⟩
def dL.con:Con:=⟨392,⟨[e48,e1],[]⟩,aTc,false,fun (x0,x1,x2)=>dL (x0,x1) x2⟩
def oH.con:Con:=⟨409,aS9,sh2,false,fun (x0,x1,x2,x3)=>oH (x0,x1,x2) x3⟩
def dI.con:Con:=⟨278,sh2,sh1,false,fun x=>dI x⟩
def bQ.con:Con:=⟨263,⟨[e17,e1,e4],[]⟩,aWh,false,fun (x0,x1,x2,x3,x4)=>bQ (x0,x1,x2) x3 x4⟩
def nX.con:Con:=⟨410,bM5,aTc,false,fun (x0,x1,x2,x3)=>nX (x0,x1) x2 x3⟩
def mC.con:Con:=⟨411,bTe,aMp,false,fun (x0,x1,x2,x3,x4,x5,x6,x7,x8,x9)=>mC (x0,x1,x2) (x3,x4,x5) x6 (x7,x8,x9)⟩
def iS.con:Con:=⟨394,bUo,aPe,false,fun (x0,x1,x2,x3,x4,x5,x6,x7,x8,x9)=>iS (x0,x1) (x2,x3,x4) x5 x6 (x7,x8,x9)⟩
def vJ.con:Con:=⟨391,bM5,aPe,false,fun (x0,x1,x2,x3)=>vJ (x0,x1) x2 x3⟩
def jI.con:Con:=⟨262,aYz,aMp,false,fun (x0,x1,x2,x3,x4,x5)=>jI (x0,x1,x2) (x3,x4,x5)⟩
def iW.con:Con:=⟨393,aYz,aMp,false,fun (x0,x1,x2,x3,x4,x5)=>iW (x0,x1,x2) (x3,x4,x5)⟩
def nM.con:Con:=⟨363,bJ8,aPe,false,fun (x0,x1,x2,x3,x4,x5)=>nM (x0,x1) (x2,x3) x4 x5⟩
def tK.con:Con:=⟨384,bC5,aG1,false,fun (x0,x1,x2,x3)=>tK (x0,x1,x2,x3)⟩
def dK.con:Con:=⟨194,aOd,sh2,false,fun (x0,x1,x2,x3,x4)=>dK (x0,x1,x2,x3) x4⟩
def eY.con:Con:=⟨190,aOd,sh2,false,fun (x0,x1,x2,x3,x4)=>eY (x0,x1,x2,x3) x4⟩
def tH.con:Con:=⟨347,bE9,sh1,false,fun (x0,x1,x2,x3,x4,x5)=>tH (x0,x1) (x2,x3,x4,x5)⟩
def uR.con:Con:=⟨348,sh2,sh2,false,fun x=>uR x⟩
def kL.con:Con:=⟨276,aSt,sh1,false,fun (x0,x1,x2)=>kL (x0,x1) x2⟩
def eV.con:Con:=⟨121,sh6,bLs,false,fun x=>eV x⟩
def fU.con:Con:=⟨277,sh6,aG1,false,fun x=>fU x⟩
def mF.con:Con:=⟨188,aSt,sh1,false,fun (x0,x1,x2)=>mF (x0,x1) x2⟩
def wO.con:Con:=⟨300,sh5,sh2,false,fun (x0,x1)=>wO x0 x1⟩
def iB.con:Con:=⟨215,aOd,sh2,false,fun (x0,x1,x2,x3,x4)=>iB (x0,x1,x2,x3) x4⟩
def yC.con:Con:=⟨416,aOd,sh2,false,fun (x0,x1,x2,x3,x4)=>yC (x0,x1,x2,x3) x4⟩
def oE.con:Con:=⟨412,bE9,sh1,false,fun (x0,x1,x2,x3,x4,x5)=>oE (x0,x1) (x2,x3,x4,x5)⟩
def qY.con:Con:=⟨395,aSt,sh1,false,fun (x0,x1,x2)=>qY (x0,x1) x2⟩
def mL.con:Con:=⟨350,⟨[e41,e1],[]⟩,sh1,false,fun (x0,x1,x2,x3,x4,x5)=>mL (x0,x1,x2,x3,x4) x5⟩
def rM.con:Con:=⟨364,⟨[e5,e23,e4],[]⟩,sh1,false,fun (x0,x1,x2,x3)=>rM (x0,x1) x2 x3⟩
def kC.con:Con:=⟨413,bLn,sh1,false,fun (x0,x1,x2,x3,x4,x5,x6,x7)=>kC (x0,x1,x2,x3) (x4,x5,x6,x7)⟩
def iY.con:Con:=⟨396,aXl,sh1,false,fun (x0,x1)=>iY x0 x1⟩
def xZ.con:Con:=⟨365,⟨[e37,e23],[]⟩,sh1,false,fun (x0,x1)=>xZ x0 x1⟩
def kV.con:Con:=⟨320,bO0,aIe,false,fun (x0,x1,x2,x3,x4,x5,x6)=>kV (x0,x1) (x2,x3) x4 x5 x6⟩
def mM.con:Con:=⟨406,sh6,sh2,false,fun x=>mM x⟩
def jZ.con:Con:=⟨407,sh6,sh2,false,fun x=>jZ x⟩
def oF.con:Con:=⟨408,sh6,sh2,false,fun x=>oF x⟩
def rH.con:Con:=⟨390,aXl,sh1,false,fun (x0,x1)=>rH x0 x1⟩
def sS.con:Con:=⟨362,aIe,aIe,false,fun x=>sS x⟩
def gJ.con:Con:=⟨405,⟨[e46,e1],[]⟩,bC7,false,fun (x0,x1)=>gJ x0 x1⟩
def qW.con:Con:=⟨294,⟨[e13,e64],[]⟩,sh1,false,fun (x0,x1,x2,x3)=>qW x0 (x1,x2,x3)⟩
def vK.con:Con:=⟨389,⟨[e46,e23,e4],[]⟩,sh1,false,fun (x0,x1,x2)=>vK x0 x1 x2⟩
def jG.con:Con:=⟨361,bPe,aPe,false,fun (x0,x1,x2)=>jG x0 x1 x2⟩
def aAe.con:Con:=⟨60,sh5,sh2,false,fun (x0,x1)=>aAe x0 x1⟩
def qH.con:Con:=⟨319,bPn,⟨[(0,.agg [.var ti,.var ti,.var ti,.var ti,.row 0,.var (.sl tPt),.var ti,.var ti,.row 1])],[o9,(1,aEc)]⟩,false,fun (x0,x1,x2,x3,x4,x5,x6,x7,x8,x9,x10)=>qH (x0,x1,x2,x3,x4,x5,x6,x7,x8) x9 x10⟩
def yW.con:Con:=⟨168,sh5,aW9,false,fun (x0,x1)=>yW x0 x1⟩
def xY.con:Con:=⟨234,⟨[e29,(1,ag5)],[]⟩,⟨[e43,e26],[o15,o16,o25,o26,o27,o28,o14,o29,(8,ow1),o30]⟩,false,fun (x0,x1,x2,x3,x4,x5,x6,x7,x8,x9,x10,x11,x12,x13,x14,x15,x16,x17,x18,x19,x20,x21)=>xY ((x0,x1),(x2,x3),(x4,x5,x6),x7,x8,x9,x10,x11,x12) (x13,x14,x15,x16,x17,x18,x19,x20,x21)⟩
def pH.con:Con:=⟨321,sh6,bLs,false,fun x=>pH x⟩
def mP.con:Con:=⟨366,⟨[e31,(1,ag7)],[]⟩,bCl,false,fun (x0,x1,x2,x3,x4,x5)=>mP x0 (x1,x2,x3,x4,x5)⟩
def eN.con:Con:=⟨367,aV9,sh1,false,fun (x0,x1,x2,x3,x4)=>eN (x0,x1,x2,x3,x4)⟩
def zM.con:Con:=⟨290,⟨[e41,e1,e4,e6],[]⟩,sh1,false,fun (x0,x1,x2,x3,x4,x5,x6,x7)=>zM (x0,x1,x2,x3,x4) x5 x6 x7⟩
def fJ.con:Con:=⟨292,bPb,sh2,false,fun (x0,x1,x2,x3)=>fJ x0 x1 x2 x3⟩
def aCn.con:Con:=⟨322,⟨[e31,(1,ag7),e4,e6],[]⟩,⟨[e8,e26],[o17]⟩,false,fun (x0,x1,x2,x3,x4,x5,x6,x7)=>aCn x0 (x1,x2,x3,x4,x5) x6 x7⟩
def dE.con:Con:=⟨235,⟨[e31,e1,(2,ag3),e6,e11,e7,e14],[]⟩,⟨[e8,e26],[o17]⟩,false,fun (x0,x1,x2,x3,x4,x5,x6)=>dE x0 x1 x2 x3 x4 x5 x6⟩
def aAu.con:Con:=⟨151,aL2,⟨[e43],[o15,o16,o25,o26,o27,o28,o14,o29,(8,ow1),o30,o1]⟩,false,fun (x0,x1,x2)=>aAu (x0,x1,x2)⟩
def sX.con:Con:=⟨169,aL2,⟨[e5,(1,bV3)],[o6,o1]⟩,false,fun (x0,x1,x2)=>sX (x0,x1,x2)⟩
def tB.con:Con:=⟨132,sh6,sh5,false,fun x=>tB x⟩
def cL.con:Con:=⟨61,bP5,aIb,false,fun (x0,x1,x2,x3,x4)=>cL x0 x1 x2 x3 x4⟩
def yB.con:Con:=⟨87,aL2,⟨[e5,(1,ag9)],[o6,o8,o1]⟩,false,fun (x0,x1,x2)=>yB (x0,x1,x2)⟩
def nA.con:Con:=⟨88,aL2,bDk,false,fun (x0,x1,x2)=>nA (x0,x1,x2)⟩
def aA1.con:Con:=⟨90,aL2,⟨[(0,.agg [.any,.any]),e23],[o1]⟩,false,fun (x0,x1,x2)=>aA1 (x0,x1,x2)⟩
def aAx.con:Con:=⟨39,aL2,⟨[e5,(1,.agg [.var ti,.var ti,.var ti,.var (.sl tPp),.var ti,.var ti,.var ti,.var ti,.var ti,.row 0])],[o37,o1]⟩,false,fun (x0,x1,x2)=>aAx (x0,x1,x2)⟩
def tD.con:Con:=⟨346,aJq,sh1,false,fun (x0,x1,x2)=>tD (x0,x1,x2)⟩
def lY.con:Con:=⟨274,sh6,sh1,false,fun x=>lY x⟩
def iX.con:Con:=⟨187,sh8,sh1,false,fun (x0,x1,x2,x3,x4,x5,x6,x7,x8,x9)=>iX (x0,x1,x2,x3,x4,x5,x6,x7,x8,x9)⟩
def oD.con:Con:=⟨368,⟨[e29,e1,e4],[]⟩,sh1,false,fun (x0,x1,x2,x3,x4,x5,x6,x7,x8,x9,x10,x11,x12,x13,x14)=>oD ((x0,x1),(x2,x3),(x4,x5,x6),x7,x8,x9,x10,x11,x12) x13 x14⟩
def mB.con:Con:=⟨343,bLm,sh1,false,fun (x0,x1)=>mB x0 x1⟩
def lA.con:Con:=⟨369,⟨[e21,e32],[]⟩,sh1,false,fun (x0,x1,x2,x3,x4,x5,x6,x7,x8,x9,x10,x11,x12,x13,x14,x15,x16,x17,x18,x19)=>lA (x0,x1,x2,x3,x4,x5,x6,x7,x8,x9) (x10,x11,x12,x13,x14,x15,x16,x17,x18,x19)⟩
def qE.con:Con:=⟨323,bMa,sh1,false,fun (x0,x1,x2,x3,x4,x5,x6,x7,x8,x9,x10,x11,x12,x13,x14,x15,x16,x17,x18,x19,x20,x21,x22,x23,x24,x25,x26,x27)=>qE ((x0,x1),(x2,x3),(x4,x5,x6),x7,x8,x9,x10,x11,x12) (x13,x14,x15,(x16,x17,(x18,x19,x20,x21,x22,x23,x24,x25,x26,x27)))⟩
def fR.con:Con:=⟨370,⟨[e31,e1],[]⟩,bCl,false,fun (x0,x1)=>fR x0 x1⟩
def wI.con:Con:=⟨324,bDo,aSw,false,fun (x0,x1,x2,x3)=>wI (x0,x1,x2) x3⟩
def eP.con:Con:=⟨371,aIn,aR6,false,fun (x0,x1,x2,x3,x4,x5,x6,x7,x8)=>eP (x0,x1,x2,x3,x4,x5,x6,x7,x8)⟩
def tA.con:Con:=⟨295,aIn,aMc,false,fun (x0,x1,x2,x3,x4,x5,x6,x7,x8)=>tA (x0,x1,x2,x3,x4,x5,x6,x7,x8)⟩
def uW.con:Con:=⟨325,aIn,bOs,false,fun (x0,x1,x2,x3,x4,x5,x6,x7,x8)=>uW (x0,x1,x2,x3,x4,x5,x6,x7,x8)⟩
def pC.con:Con:=⟨49,aRu,aG5,false,fun (x0,x1,x2,x3,x4,x5,x6,x7,x8,x9,x10,x11,x12,x13,x14,x15,x16,x17,x18,x19,x20,x21,x22,x23,x24)=>pC ((x12,x13),(x14,x15),(x16,x17,x18),x19,x20,x22,x23,x24,x21) x0 x1 (x2,x3,x4,x5,x6,x7,x8,x9,x10,x11)⟩
def pV.con:Con:=⟨283,sh2,sh1,false,fun x=>pV x⟩
def zH.con:Con:=⟨284,sh2,sh1,false,fun x=>zH x⟩
def rB.con:Con:=⟨200,sh5,sh2,false,fun (x0,x1)=>rB x0 x1⟩
def eM.con:Con:=⟨116,⟨[e5,e50,e4],[]⟩,sh2,false,fun (x0,x1,x2,x3)=>eM (x0,x1) x2 x3⟩
def eA.con:Con:=⟨53,sh8,sh2,false,fun (x0,x1,x2,x3,x4,x5,x6,x7,x8,x9)=>eA (x0,x1,x2,x3,x4,x5,x6,x7,x8,x9)⟩
def tM.con:Con:=⟨189,⟨[e2,e32],[]⟩,bNu,false,fun (x0,x1,x2,x3,x4,x5,x6,x7,x8,x9,x10)=>tM x0 (x1,x2,x3,x4,x5,x6,x7,x8,x9,x10)⟩
def iG.con:Con:=⟨279,⟨[e5,e32],[]⟩,aR6,false,fun (x0,x1,x2,x3,x4,x5,x6,x7,x8,x9,x10,x11)=>iG (x0,x1) (x2,x3,x4,x5,x6,x7,x8,x9,x10,x11)⟩
def jJ.con:Con:=⟨280,bK8,sh1,false,fun (x0,x1,x2,x3,x4,x5,x6,x7,x8,x9,x10)=>jJ (x0,x1,x2,x3,x4,x5,x6,x7,x8,x9) x10⟩
def oK.con:Con:=⟨191,bOa,⟨[e27,e1],[o6,o8]⟩,false,fun (x0,x1,x2,x3,x4,x5,x6,x7,x8,x9,x10,x11,x12)=>oK (x0,x1) x2 (x3,x4,x5,x6,x7,x8,x9,x10,x11,x12)⟩
def mK.con:Con:=⟨193,sh8,sh1,false,fun (x0,x1,x2,x3,x4,x5,x6,x7,x8,x9)=>mK (x0,x1,x2,x3,x4,x5,x6,x7,x8,x9)⟩
def gV.con:Con:=⟨192,sh8,aIb,false,fun (x0,x1,x2,x3,x4,x5,x6,x7,x8,x9)=>gV (x0,x1,x2,x3,x4,x5,x6,x7,x8,x9)⟩
def kJ.con:Con:=⟨281,sh5,sh1,false,fun (x0,x1)=>kJ x0 x1⟩
def pB.con:Con:=⟨195,⟨[e5,e64],[]⟩,sh1,false,fun (x0,x1,x2,x3,x4)=>pB (x0,x1) (x2,x3,x4)⟩
def vT.con:Con:=⟨196,sh5,sh1,false,fun (x0,x1)=>vT x0 x1⟩
def sV.con:Con:=⟨115,bP0,bNu,false,fun (x0,x1,x2,x3,x4,x5,x6,x7,x8,x9,x10,x11,x12,x13,x14,x15)=>sV (x0,x1) x2 x3 x4 x5 (x6,x7,x8,x9,x10,x11,x12,x13,x14,x15)⟩
def wA.con:Con:=⟨287,aSq,sh1,false,fun (x0,x1,x2,x3,x4,x5,x6,x7,x8,x9,x10,x11,x12,x13)=>wA (x0,x1,x2,x3) (x4,x5,x6,x7,x8,x9,x10,x11,x12,x13)⟩
def oG.con:Con:=⟨202,aSq,aW9,false,fun (x0,x1,x2,x3,x4,x5,x6,x7,x8,x9,x10,x11,x12,x13)=>oG (x0,x1,x2,x3) (x4,x5,x6,x7,x8,x9,x10,x11,x12,x13)⟩
def mW.con:Con:=⟨214,sh2,sh2,false,fun x=>mW x⟩
def pF.con:Con:=⟨134,bC5,aWh,false,fun (x0,x1,x2,x3)=>pF (x0,x1,x2,x3)⟩
def kQ.con:Con:=⟨62,sh6,aMp,false,fun x=>kQ x⟩
def aC3.con:Con:=⟨288,bQr,aIb,false,fun (x0,x1,x2,x3,x4,x5,x6,x7,x8,x9,x10,x11,x12)=>aC3 (x0,x1,x2,x3,x4,x5,x6,x7,x8,x9) x10 x11 x12⟩
def uT.con:Con:=⟨203,aSq,aR6,false,fun (x0,x1,x2,x3,x4,x5,x6,x7,x8,x9,x10,x11,x12,x13)=>uT (x0,x1,x2,x3) (x4,x5,x6,x7,x8,x9,x10,x11,x12,x13)⟩
def qC.con:Con:=⟨204,⟨[e22,e32],[]⟩,aMc,false,fun (x0,x1,x2,x3,x4,x5,x6,x7,x8,x9,x10,x11,x12,x13,x14,x15,x16,x17,x18)=>qC (x0,x1,x2,x3,x4,x5,x6,x7,x8) (x9,x10,x11,x12,x13,x14,x15,x16,x17,x18)⟩
def qN.con:Con:=⟨385,aYb,⟨[e2,e1,e15],[]⟩,false,fun (x0,x1)=>qN x0 x1⟩
def qQ.con:Con:=⟨351,⟨[e18,e1,e4],[]⟩,bQb,false,fun (x0,x1,x2)=>qQ x0 x1 x2⟩
def iJ.con:Con:=⟨293,sh9,⟨[e63,e26],[]⟩,false,fun x=>iJ x⟩
def lP.con:Con:=⟨296,⟨[e46,e64],[]⟩,⟨[e46],[]⟩,false,fun (x0,x1,x2,x3)=>lP x0 (x1,x2,x3)⟩
def iL.con:Con:=⟨209,⟨[e22,e32,e4],[]⟩,⟨[(0,.agg [.var ti,.var ti,.var ti,.var ti,.row 0,.row 1,.var ti,.var ti,.var (.sl tRv)])],[o9,o21]⟩,false,fun (x0,x1,x2,x3,x4,x5,x6,x7,x8,x9,x10,x11,x12,x13,x14,x15,x16,x17,x18,x19)=>iL (x0,x1,x2,x3,x4,x5,x6,x7,x8) (x9,x10,x11,x12,x13,x14,x15,x16,x17,x18) x19⟩
def nN.con:Con:=⟨122,bDc,aG5,false,fun (x0,x1,x2,x3,x4,x5,x6,x7,x8,x9,x10,x11,x12,x13,x14,x15,x16,x17,x18,x19,x20,x21,x22,x23)=>nN ((x11,x12),(x13,x14),(x15,x16,x17),x18,x19,x21,x22,x23,x20) x0 (x1,x2,x3,x4,x5,x6,x7,x8,x9,x10)⟩
def tC.con:Con:=⟨117,bDc,aG5,false,fun (x0,x1,x2,x3,x4,x5,x6,x7,x8,x9,x10,x11,x12,x13,x14,x15,x16,x17,x18,x19,x20,x21,x22,x23)=>tC ((x11,x12),(x13,x14),(x15,x16,x17),x18,x19,x21,x22,x23,x20) x0 (x1,x2,x3,x4,x5,x6,x7,x8,x9,x10)⟩
def mY.con:Con:=⟨289,⟨[(0,.one (.var (.sl tUs))),e1,e4,e6],[]⟩,sh2,false,fun (x0,x1,x2,x3)=>mY x0 x1 x2 x3⟩
def qG.con:Con:=⟨205,bEu,sh2,false,fun (x0,x1,x2,x3,x4,x5)=>qG (x0,x1,x2) x3 x4 x5⟩
def fD.con:Con:=⟨206,bD9,sh2,false,fun (x0,x1,x2,x3,x4)=>fD x0 x1 x2 x3 x4⟩
def vA.con:Con:=⟨207,bEu,aSw,false,fun (x0,x1,x2,x3,x4,x5)=>vA (x0,x1,x2) x3 x4 x5⟩
def pZ.con:Con:=⟨208,bD9,sh2,false,fun (x0,x1,x2,x3,x4)=>pZ x0 x1 x2 x3 x4⟩
def sK.con:Con:=⟨119,bM6,bP8,false,fun (x0,x1,x2,x3,x4,x5,x6)=>sK (x0,x1,x2) x3 x4 x5 x6⟩
def tE.con:Con:=⟨120,sh8,sh2,false,fun (x0,x1,x2,x3,x4,x5,x6,x7,x8,x9)=>tE (x0,x1,x2,x3,x4,x5,x6,x7,x8,x9)⟩
def gS.con:Con:=⟨16,sh8,bMr,false,fun (x0,x1,x2,x3,x4,x5,x6,x7,x8,x9)=>gS (x0,x1,x2,x3,x4,x5,x6,x7,x8,x9)⟩
def nF.con:Con:=⟨216,aYb,aXp,false,fun (x0,x1)=>nF x0 x1⟩
def qS.con:Con:=⟨136,aOj,aXp,false,fun x=>qS x⟩
def iI.con:Con:=⟨63,bDj,aXp,false,fun (x0,x1,x2)=>iI (x0,x1,x2)⟩
def fY.con:Con:=⟨19,bNn,aIb,false,fun (x0,x1,x2,x3,x4,x5,x6,x7,x8,x9,x10,x11,x12,x13,x14)=>fY (x0,x1) x2 x3 x4 (x5,x6,x7,x8,x9,x10,x11,x12,x13,x14)⟩
def gP.con:Con:=⟨49,aRu,aG5,false,fun (x0,x1,x2,x3,x4,x5,x6,x7,x8,x9,x10,x11,x12,x13,x14,x15,x16,x17,x18,x19,x20,x21,x22,x23,x24)=>gP ((x12,x13),(x14,x15),(x16,x17,x18),x19,x20,x22,x23,x24,x21) x0 x1 (x2,x3,x4,x5,x6,x7,x8,x9,x10,x11)⟩
def jH.con:Con:=⟨117,bDc,aG5,false,fun (x0,x1,x2,x3,x4,x5,x6,x7,x8,x9,x10,x11,x12,x13,x14,x15,x16,x17,x18,x19,x20,x21,x22,x23)=>jH ((x11,x12),(x13,x14),(x15,x16,x17),x18,x19,x21,x22,x23,x20) x0 (x1,x2,x3,x4,x5,x6,x7,x8,x9,x10)⟩
def dY.con:Con:=⟨49,aRu,aG5,false,fun (x0,x1,x2,x3,x4,x5,x6,x7,x8,x9,x10,x11,x12,x13,x14,x15,x16,x17,x18,x19,x20,x21,x22,x23,x24)=>dY ((x12,x13),(x14,x15),(x16,x17,x18),x19,x20,x22,x23,x24,x21) x0 x1 (x2,x3,x4,x5,x6,x7,x8,x9,x10,x11)⟩
def vI.con:Con:=⟨237,bQt,aR2,false,fun (x0,x1,x2,x3,x4,x5,x6,x7,x8,x9,x10,x11,x12)=>vI ((x0,x1),(x2,x3),(x4,x5,x6),x7,x8,x10,x11,x12,x9)⟩
def vP.con:Con:=⟨238,bOg,bNr,false,fun (x0,x1,x2,x3,x4,x5,x6,x7,x8,x9,x10,x11,x12,x13)=>vP ((x1,x2),(x3,x4),(x5,x6,x7),x8,x9,x11,x12,x13,x10) x0⟩
def xQ.con:Con:=⟨239,⟨[e10,e1,e15],[o4,o3,o2,o5]⟩,aR2,false,fun (x0,x1,x2,x3,x4,x5,x6,x7,x8,x9,x10,x11,x12,x13,x14)=>xQ ((x2,x3),(x4,x5),(x6,x7,x8),x9,x10,x12,x13,x14,x11) x0 x1⟩
def aAi.con:Con:=⟨241,bNa,aR2,false,fun (x0,x1,x2,x3,x4,x5,x6,x7,x8,x9,x10,x11,x12,x13,x14,x15,x16,x17,x18,x19,x20,x21,x22,x23,x24,x25,x26,x27)=>aAi ((x15,x16),(x17,x18),(x19,x20,x21),x22,x23,x25,x26,x27,x24) (x0,x1,x2,(x3,x4,(x5,x6,x7,x8,x9,x10,x11,x12,x13,x14)))⟩
def zK.con:Con:=⟨153,bNa,aR2,false,fun (x0,x1,x2,x3,x4,x5,x6,x7,x8,x9,x10,x11,x12,x13,x14,x15,x16,x17,x18,x19,x20,x21,x22,x23,x24,x25,x26,x27)=>zK ((x15,x16),(x17,x18),(x19,x20,x21),x22,x23,x25,x26,x27,x24) (x0,x1,x2,(x3,x4,(x5,x6,x7,x8,x9,x10,x11,x12,x13,x14)))⟩
def nY.con:Con:=⟨236,bN6,⟨[(0,.agg [.var ti,.var ti,.row 1,.var ti,.var ti,.var ti,.var ti,.var ti,.var (.sl tPp),.var ti,.var ti,.var ti,.var ti,.var ti,.row 0])],[o37,o8,o1,o48,o49,o50]⟩,false,fun (x0,x1,x2,x3,x4,x5,x6,x7,x8,x9,x10,x11,x12,x13,x14,x15)=>nY (x10,x11,x12) ((x0,x1),(x2,x3),(x4,x5,x6),x7,x8,x13,x14,x15,x9)⟩
def sU.con:Con:=⟨152,bN6,⟨[(0,.agg [.var ti,.var ti,.row 0,.var ti,.var ti,.var ti,.var ti,.var ti,.var (.sl tPp),.var ti,.var ti,.var ti,.var ti,.var ti,.row 1])],[o37,o8,o1,o48,o49,o50]⟩,false,fun (x0,x1,x2,x3,x4,x5,x6,x7,x8,x9,x10,x11,x12,x13,x14,x15)=>sU (x10,x11,x12) ((x0,x1),(x2,x3),(x4,x5,x6),x7,x8,x13,x14,x15,x9)⟩
def yX.con:Con:=⟨71,bBr,⟨[e43,e57,(2,.agg [.var (.sl tAS),.var (.sl tLk),.var (.sl tSg),.var (.sl tSg),.var ti,.var (.sl tRs),.var (.sl tUs),.var ti,.var (.sl ti),.row 10,.row 11,.row 12,.var ti])],[o15,o16,o25,o26,o27,o28,o14,o29,(8,ow1),o30,(10,ow5),(11,ow1),(12,ow6),o1]⟩,false,fun (x0,x1,x2,x3)=>yX (x1,x2,x3) x0⟩
def aAj.con:Con:=⟨82,sh9,bQl,false,fun x=>aAj x⟩
def lW.con:Con:=⟨31,sh9,bQl,false,fun x=>lW x⟩
def aKj.con:Con:=⟨30,aYb,sh2,false,fun (x0,x1)=>aKj x0 x1⟩
def nH.con:Con:=⟨91,bEn,bV6,false,fun (x0,x1)=>nH (x0,x1)⟩
def kY.con:Con:=⟨125,aWm,bKh,false,fun x=>kY x⟩
def gO.con:Con:=⟨266,aJq,bLu,false,fun (x0,x1,x2)=>gO (x0,x1,x2)⟩
def lB.con:Con:=⟨171,⟨[(0,aVy)],[]⟩,aTc,false,fun x=>lB x⟩
def pS.con:Con:=⟨92,⟨[e48],[]⟩,bS9,false,fun (x0,x1)=>pS (x0,x1)⟩
def eO.con:Con:=⟨172,⟨[e31],[]⟩,bCl,false,fun x=>eO x⟩
def eX.con:Con:=⟨93,⟨[e34],[]⟩,aSw,false,fun (x0,x1,x2)=>eX (x0,x1,x2)⟩
def qD.con:Con:=⟨94,aOj,aG1,false,fun x=>qD x⟩
def eH.con:Con:=⟨52,sh6,aMp,false,fun x=>eH x⟩
def eB.con:Con:=⟨127,sh9,aXp,false,fun x=>eB x⟩
def dO.con:Con:=⟨95,sh8,aIb,false,fun (x0,x1,x2,x3,x4,x5,x6,x7,x8,x9)=>dO (x0,x1,x2,x3,x4,x5,x6,x7,x8,x9)⟩
def jB.con:Con:=⟨173,⟨[(0,bFg)],[]⟩,⟨[e8],[o9]⟩,false,fun x=>jB x⟩
def tJ.con:Con:=⟨174,aIe,aPe,false,fun x=>tJ x⟩
def eF.con:Con:=⟨175,⟨[e46],[]⟩,bC7,false,fun x=>eF x⟩
def eJ.con:Con:=⟨96,aIn,aMc,false,fun (x0,x1,x2,x3,x4,x5,x6,x7,x8)=>eJ (x0,x1,x2,x3,x4,x5,x6,x7,x8)⟩
def nV.con:Con:=⟨97,bC1,aW9,false,fun (x0,x1,x2,x3)=>nV (x0,x1,x2,x3)⟩
def fH.con:Con:=⟨40,aX2,bB8,false,fun (x0,x1,x2,x3,x4,x5,x6,x7,x8,x9,x10,x11,x12)=>fH ((x0,x1),(x2,x3),(x4,x5,x6),x7,x8,x9,x10,x11,x12)⟩
def bE.con:Con:=⟨75,bLq,sh1,false,fun (x0,x1,x2)=>bE x0 x1 x2⟩
def vD.con:Con:=⟨159,sh2,sh1,false,fun x=>vD x⟩
def jU.con:Con:=⟨77,aXs,sh1,false,fun (x0,x1,x2)=>jU (x0,x1) x2⟩
def aAn.con:Con:=⟨160,⟨[e5,(1,ag7)],[]⟩,sh1,false,fun (x0,x1,x2,x3,x4,x5,x6)=>aAn (x0,x1) (x2,x3,x4,x5,x6)⟩
def fP.con:Con:=⟨149,bLl,sh1,false,fun (x0,x1,x2,x3,x4,x5,x6)=>fP (x0,x1,x2,x3,x4) x5 x6⟩
def lU.con:Con:=⟨74,bEn,sh1,false,fun (x0,x1)=>lU (x0,x1)⟩
def bX.con:Con:=⟨130,bDj,sh1,false,fun (x0,x1,x2)=>bX (x0,x1,x2)⟩
def iK.con:Con:=⟨249,aV9,sh1,false,fun (x0,x1,x2,x3,x4)=>iK (x0,x1,x2,x3,x4)⟩
def eC.con:Con:=⟨251,bLl,sh1,false,fun (x0,x1,x2,x3,x4,x5,x6)=>eC (x0,x1,x2,x3,x4) x5 x6⟩
def jA.con:Con:=⟨250,bPb,sh2,false,fun (x0,x1,x2,x3)=>jA x0 x1 x2 x3⟩
def gG.con:Con:=⟨161,⟨[e31,e1,e4],[]⟩,sh1,false,fun (x0,x1,x2)=>gG x0 x1 x2⟩
def pA.con:Con:=⟨162,bEu,sh2,false,fun (x0,x1,x2,x3,x4,x5)=>pA (x0,x1,x2) x3 x4 x5⟩
def aFv.con:Con:=⟨340,sh5,sh2,false,fun (x0,x1)=>aFv x0 x1⟩
def uV.con:Con:=⟨252,bD9,sh2,false,fun (x0,x1,x2,x3,x4)=>uV x0 x1 x2 x3 x4⟩
def jL.con:Con:=⟨253,bD9,sh2,false,fun (x0,x1,x2,x3,x4)=>jL x0 x1 x2 x3 x4⟩
def wK.con:Con:=⟨163,bM6,sh2,false,fun (x0,x1,x2,x3,x4,x5,x6)=>wK (x0,x1,x2) x3 x4 x5 x6⟩
def kN.con:Con:=⟨76,bDo,sh1,false,fun (x0,x1,x2,x3)=>kN (x0,x1,x2) x3⟩
def mE.con:Con:=⟨78,aIn,sh1,false,fun (x0,x1,x2,x3,x4,x5,x6,x7,x8)=>mE (x0,x1,x2,x3,x4,x5,x6,x7,x8)⟩
def rA.con:Con:=⟨79,bC1,sh1,false,fun (x0,x1,x2,x3)=>rA (x0,x1,x2,x3)⟩
def tQ.con:Con:=⟨164,bLm,sh1,false,fun (x0,x1)=>tQ x0 x1⟩
def lR.con:Con:=⟨80,bN1,sh1,false,fun (x0,x1)=>lR x0 x1⟩
def kA.con:Con:=⟨28,bPi,sh1,false,fun (x0,x1,x2,x3,x4,x5,x6,x7,x8,x9,x10,x11,x12)=>kA (x0,x1,x2,x3,x4,x5,x6,x7,x8) (x9,x10,x11,x12)⟩
def nJ.con:Con:=⟨27,aX2,sh1,false,fun (x0,x1,x2,x3,x4,x5,x6,x7,x8,x9,x10,x11,x12)=>nJ ((x0,x1),(x2,x3),(x4,x5,x6),x7,x8,x9,x10,x11,x12)⟩
def fQ.con:Con:=⟨326,⟨[e31,e1],[]⟩,bCl,false,fun (x0,x1)=>fQ x0 x1⟩
def wC.con:Con:=⟨242,bDo,aSw,false,fun (x0,x1,x2,x3)=>wC (x0,x1,x2) x3⟩
def dJ.con:Con:=⟨221,sh2,sh1,false,fun x=>dJ x⟩
def fS.con:Con:=⟨145,aOd,sh2,false,fun (x0,x1,x2,x3,x4)=>fS (x0,x1,x2,x3) x4⟩
def fL.con:Con:=⟨140,aOd,sh2,false,fun (x0,x1,x2,x3,x4)=>fL (x0,x1,x2,x3) x4⟩
def kW.con:Con:=⟨181,sh6,bLs,false,fun x=>kW x⟩
def tF.con:Con:=⟨128,sh6,sh5,false,fun x=>tF x⟩
def kR.con:Con:=⟨57,bP5,aIb,false,fun (x0,x1,x2,x3,x4)=>kR x0 x1 x2 x3 x4⟩
def eQ.con:Con:=⟨327,aIn,aR6,false,fun (x0,x1,x2,x3,x4,x5,x6,x7,x8)=>eQ (x0,x1,x2,x3,x4,x5,x6,x7,x8)⟩
def qK.con:Con:=⟨270,aIn,sh2,false,fun (x0,x1,x2,x3,x4,x5,x6,x7,x8)=>qK (x0,x1,x2,x3,x4,x5,x6,x7,x8)⟩
def vH.con:Con:=⟨243,aIn,bOs,false,fun (x0,x1,x2,x3,x4,x5,x6,x7,x8)=>vH (x0,x1,x2,x3,x4,x5,x6,x7,x8)⟩
def mA.con:Con:=⟨41,aRu,aG5,false,fun (x0,x1,x2,x3,x4,x5,x6,x7,x8,x9,x10,x11,x12,x13,x14,x15,x16,x17,x18,x19,x20,x21,x22,x23,x24)=>mA ((x12,x13),(x14,x15),(x16,x17,x18),x19,x20,x22,x23,x24,x21) x0 x1 (x2,x3,x4,x5,x6,x7,x8,x9,x10,x11)⟩
def mI.con:Con:=⟨148,bL1,aOj,false,fun (x0,x1)=>mI x0 x1⟩
def qV.con:Con:=⟨65,aXs,aOj,false,fun (x0,x1,x2)=>qV (x0,x1) x2⟩
def kU.con:Con:=⟨67,aOc,sh2,false,fun (x0,x1,x2,x3)=>kU (x0,x1) x2 x3⟩
def mZ.con:Con:=⟨66,bL1,sh1,false,fun (x0,x1)=>mZ x0 x1⟩
def qB.con:Con:=⟨150,sh2,sh1,false,fun x=>qB x⟩
def rC.con:Con:=⟨68,sh5,sh2,false,fun (x0,x1)=>rC x0 x1⟩
def eL.con:Con:=⟨21,⟨[e5,e50,e4],[]⟩,sh2,false,fun (x0,x1,x2,x3)=>eL (x0,x1) x2 x3⟩
def lG.con:Con:=⟨137,⟨[e2,(1,.one (.ptr 1000001 0))],[(1000001,ob7)]⟩,⟨[(0,bU4)],[o6,o8,(1000001,ob7)]⟩,false,fun (x0,x1,x2,x3,x4,x5,x6,x7,x8,x9,x10)=>lG x0 (x1,x2,x3,x4,x5,x6,x7,x8,x9,x10)⟩
def dH.con:Con:=⟨218,sh2,sh1,false,fun x=>dH x⟩
def mS.con:Con:=⟨352,aV9,sh1,false,fun (x0,x1,x2,x3,x4)=>mS (x0,x1,x2,x3,x4)⟩
def lN.con:Con:=⟨302,aWm,sh1,false,fun x=>lN x⟩
def lO.con:Con:=⟨217,sh6,sh1,false,fun x=>lO x⟩
def vZ.con:Con:=⟨124,sh8,sh1,false,fun (x0,x1,x2,x3,x4,x5,x6,x7,x8,x9)=>vZ (x0,x1,x2,x3,x4,x5,x6,x7,x8,x9)⟩
def dX.con:Con:=⟨51,sh8,sh2,false,fun (x0,x1,x2,x3,x4,x5,x6,x7,x8,x9)=>dX (x0,x1,x2,x3,x4,x5,x6,x7,x8,x9)⟩
def pG.con:Con:=⟨138,sh8,sh1,false,fun (x0,x1,x2,x3,x4,x5,x6,x7,x8,x9)=>pG (x0,x1,x2,x3,x4,x5,x6,x7,x8,x9)⟩
def aAz.con:Con:=⟨353,⟨[e5,(1,bKr)],[]⟩,sh1,false,fun (x0,x1,x2)=>aAz (x0,x1) x2⟩
def nS.con:Con:=⟨22,aOc,sh5,false,fun (x0,x1,x2,x3)=>nS (x0,x1) x2 x3⟩
def sW.con:Con:=⟨303,bE9,sh1,false,fun (x0,x1,x2,x3,x4,x5)=>sW (x0,x1) (x2,x3,x4,x5)⟩
def vW.con:Con:=⟨304,sh2,sh2,false,fun x=>vW x⟩
def kH.con:Con:=⟨219,aSt,sh1,false,fun (x0,x1,x2)=>kH (x0,x1) x2⟩
def yY.con:Con:=⟨305,⟨[(0,.one (.var (.sl aAf)))],[]⟩,aG1,false,fun x=>yY x⟩
def fZ.con:Con:=⟨220,sh6,aG1,false,fun x=>fZ x⟩
def mQ.con:Con:=⟨139,aSt,sh1,false,fun (x0,x1,x2)=>mQ (x0,x1) x2⟩
def sA.con:Con:=⟨298,sh5,sh2,false,fun (x0,x1)=>sA x0 x1⟩
def wH.con:Con:=⟨297,sh5,sh2,false,fun (x0,x1)=>wH x0 x1⟩
def aHu.con:Con:=⟨414,sh5,sh2,false,fun (x0,x1)=>aHu x0 x1⟩
def vY.con:Con:=⟨398,aOj,sh2,false,fun x=>vY x⟩
def uD.con:Con:=⟨386,bCd,sh2,false,fun (x0,x1)=>uD x0 x1⟩
def aAq.con:Con:=⟨354,bK9,sh2,false,fun (x0,x1,x2,x3,x4,x5,x6,x7)=>aAq x0 x1 x2 (x3,x4,x5,x6,x7)⟩
def nU.con:Con:=⟨306,bT9,sh1,false,fun (x0,x1,x2,x3,x4,x5,x6,x7,x8)=>nU (x0,x1) x2 x3 (x4,x5,x6,x7,x8)⟩
def iE.con:Con:=⟨222,⟨[e5,e32],[]⟩,aR6,false,fun (x0,x1,x2,x3,x4,x5,x6,x7,x8,x9,x10,x11)=>iE (x0,x1) (x2,x3,x4,x5,x6,x7,x8,x9,x10,x11)⟩
def tY.con:Con:=⟨307,⟨[e41,e1],[]⟩,sh1,false,fun (x0,x1,x2,x3,x4,x5)=>tY (x0,x1,x2,x3,x4) x5⟩
def gL.con:Con:=⟨223,bK8,sh1,false,fun (x0,x1,x2,x3,x4,x5,x6,x7,x8,x9,x10)=>gL (x0,x1,x2,x3,x4,x5,x6,x7,x8,x9) x10⟩
def kX.con:Con:=⟨141,bOa,bK8,false,fun (x0,x1,x2,x3,x4,x5,x6,x7,x8,x9,x10,x11,x12)=>kX (x0,x1) x2 (x3,x4,x5,x6,x7,x8,x9,x10,x11,x12)⟩
def gT.con:Con:=⟨142,sh8,sh1,false,fun (x0,x1,x2,x3,x4,x5,x6,x7,x8,x9)=>gT (x0,x1,x2,x3,x4,x5,x6,x7,x8,x9)⟩
def kP.con:Con:=⟨143,sh8,sh1,false,fun (x0,x1,x2,x3,x4,x5,x6,x7,x8,x9)=>kP (x0,x1,x2,x3,x4,x5,x6,x7,x8,x9)⟩
def mO.con:Con:=⟨144,sh8,aIb,false,fun (x0,x1,x2,x3,x4,x5,x6,x7,x8,x9)=>mO (x0,x1,x2,x3,x4,x5,x6,x7,x8,x9)⟩
def jO.con:Con:=⟨225,aOc,sh2,false,fun (x0,x1,x2,x3)=>jO (x0,x1) x2 x3⟩
def kB.con:Con:=⟨224,sh5,sh1,false,fun (x0,x1)=>kB x0 x1⟩
def oX.con:Con:=⟨146,⟨[e5,e64],[]⟩,sh1,false,fun (x0,x1,x2,x3,x4)=>oX (x0,x1) (x2,x3,x4)⟩
def uQ.con:Con:=⟨147,sh5,sh1,false,fun (x0,x1)=>uQ x0 x1⟩
def wM.con:Con:=⟨64,bP0,⟨[(0,bKn),e1],[]⟩,false,fun (x0,x1,x2,x3,x4,x5,x6,x7,x8,x9,x10,x11,x12,x13,x14,x15)=>wM (x0,x1) x2 x3 x4 x5 (x6,x7,x8,x9,x10,x11,x12,x13,x14,x15)⟩
def sQ.con:Con:=⟨267,bEu,sh2,false,fun (x0,x1,x2,x3,x4,x5)=>sQ (x0,x1,x2) x3 x4 x5⟩
def vB.con:Con:=⟨176,bM6,bP8,false,fun (x0,x1,x2,x3,x4,x5,x6)=>vB (x0,x1,x2) x3 x4 x5 x6⟩
def lH.con:Con:=⟨98,⟨[e10,e1,(2,bKn)],[o4,o3,o2,o5]⟩,aG5,false,fun (x0,x1,x2,x3,x4,x5,x6,x7,x8,x9,x10,x11,x12,x13,x14,x15,x16,x17,x18,x19,x20,x21,x22,x23,x24,x25)=>lH ((x13,x14),(x15,x16),(x17,x18,x19),x20,x21,x23,x24,x25,x22) x0 (x1,x2,(x3,x4,x5,x6,x7,x8,x9,x10,x11,x12))⟩
def qA.con:Con:=⟨99,bTt,sh2,false,fun (x0,x1,x2)=>qA x0 x1 x2⟩
def sY.con:Con:=⟨177,aSq,sh1,false,fun (x0,x1,x2,x3,x4,x5,x6,x7,x8,x9,x10,x11,x12,x13)=>sY (x0,x1,x2,x3) (x4,x5,x6,x7,x8,x9,x10,x11,x12,x13)⟩
def oR.con:Con:=⟨100,aSq,aW9,false,fun (x0,x1,x2,x3,x4,x5,x6,x7,x8,x9,x10,x11,x12,x13)=>oR (x0,x1,x2,x3) (x4,x5,x6,x7,x8,x9,x10,x11,x12,x13)⟩
def oZ.con:Con:=⟨210,sh2,sh2,false,fun x=>oZ x⟩
def mN.con:Con:=⟨211,aOd,sh2,false,fun (x0,x1,x2,x3,x4)=>mN (x0,x1,x2,x3) x4⟩
def jC.con:Con:=⟨212,aWm,bKh,false,fun x=>jC x⟩
def pI.con:Con:=⟨129,bC5,aWh,false,fun (x0,x1,x2,x3)=>pI (x0,x1,x2,x3)⟩
def kT.con:Con:=⟨58,sh6,aMp,false,fun x=>kT x⟩
def aCq.con:Con:=⟨178,bQr,aIb,false,fun (x0,x1,x2,x3,x4,x5,x6,x7,x8,x9,x10,x11,x12)=>aCq (x0,x1,x2,x3,x4,x5,x6,x7,x8,x9) x10 x11 x12⟩
def uZ.con:Con:=⟨101,aSq,aR6,false,fun (x0,x1,x2,x3,x4,x5,x6,x7,x8,x9,x10,x11,x12,x13)=>uZ (x0,x1,x2,x3) (x4,x5,x6,x7,x8,x9,x10,x11,x12,x13)⟩
def tG.con:Con:=⟨179,⟨[e22,e32],[]⟩,aMc,false,fun (x0,x1,x2,x3,x4,x5,x6,x7,x8,x9,x10,x11,x12,x13,x14,x15,x16,x17,x18)=>tG (x0,x1,x2,x3,x4,x5,x6,x7,x8) (x9,x10,x11,x12,x13,x14,x15,x16,x17,x18)⟩
def rI.con:Con:=⟨382,aYb,⟨[e2,e1,e15],[]⟩,false,fun (x0,x1)=>rI x0 x1⟩
def rG.con:Con:=⟨345,⟨[e18,e1,e4],[]⟩,bQb,false,fun (x0,x1,x2)=>rG x0 x1 x2⟩
def iO.con:Con:=⟨268,sh9,⟨[e63,e26],[]⟩,false,fun x=>iO x⟩
def rK.con:Con:=⟨269,⟨[e13,e64],[]⟩,sh1,false,fun (x0,x1,x2,x3)=>rK x0 (x1,x2,x3)⟩
def lS.con:Con:=⟨271,⟨[e46,e64],[]⟩,bC7,false,fun (x0,x1,x2,x3)=>lS x0 (x1,x2,x3)⟩
def iF.con:Con:=⟨180,⟨[e22,e32,e4],[]⟩,aMc,false,fun (x0,x1,x2,x3,x4,x5,x6,x7,x8,x9,x10,x11,x12,x13,x14,x15,x16,x17,x18,x19)=>iF (x0,x1,x2,x3,x4,x5,x6,x7,x8) (x9,x10,x11,x12,x13,x14,x15,x16,x17,x18) x19⟩
def gQ.con:Con:=⟨102,bDc,aG5,false,fun (x0,x1,x2,x3,x4,x5,x6,x7,x8,x9,x10,x11,x12,x13,x14,x15,x16,x17,x18,x19,x20,x21,x22,x23)=>gQ ((x11,x12),(x13,x14),(x15,x16,x17),x18,x19,x21,x22,x23,x20) x0 (x1,x2,x3,x4,x5,x6,x7,x8,x9,x10)⟩
def aFo.con:Con:=⟨56,sh5,sh2,false,fun (x0,x1)=>aFo x0 x1⟩
def gW.con:Con:=⟨15,sh8,bMr,false,fun (x0,x1,x2,x3,x4,x5,x6,x7,x8,x9)=>gW (x0,x1,x2,x3,x4,x5,x6,x7,x8,x9)⟩
def nI.con:Con:=⟨299,aYb,aXp,false,fun (x0,x1)=>nI x0 x1⟩
def qR.con:Con:=⟨213,⟨[e18,e50],[]⟩,sh9,false,fun (x0,x1)=>qR x0 x1⟩
def qL.con:Con:=⟨131,aOj,sh9,false,fun x=>qL x⟩
def iN.con:Con:=⟨59,bDj,sh9,false,fun (x0,x1,x2)=>iN (x0,x1,x2)⟩
def iU.con:Con:=⟨18,bNn,aIb,false,fun (x0,x1,x2,x3,x4,x5,x6,x7,x8,x9,x10,x11,x12,x13,x14)=>iU (x0,x1) x2 x3 x4 (x5,x6,x7,x8,x9,x10,x11,x12,x13,x14)⟩
def kK.con:Con:=⟨103,sh6,sh2,false,fun x=>kK x⟩
def dZ.con:Con:=⟨41,aRu,aG5,false,fun (x0,x1,x2,x3,x4,x5,x6,x7,x8,x9,x10,x11,x12,x13,x14,x15,x16,x17,x18,x19,x20,x21,x22,x23,x24)=>dZ ((x12,x13),(x14,x15),(x16,x17,x18),x19,x20,x22,x23,x24,x21) x0 x1 (x2,x3,x4,x5,x6,x7,x8,x9,x10,x11)⟩
def bW.con:Con:=⟨41,aRu,aG5,false,fun (x0,x1,x2,x3,x4,x5,x6,x7,x8,x9,x10,x11,x12,x13,x14,x15,x16,x17,x18,x19,x20,x21,x22,x23,x24)=>bW ((x12,x13),(x14,x15),(x16,x17,x18),x19,x20,x22,x23,x24,x21) x0 x1 (x2,x3,x4,x5,x6,x7,x8,x9,x10,x11)⟩
def nC.con:Con:=⟨154,bQt,aR2,false,fun (x0,x1,x2,x3,x4,x5,x6,x7,x8,x9,x10,x11,x12)=>nC ((x0,x1),(x2,x3),(x4,x5,x6),x7,x8,x10,x11,x12,x9)⟩
def nO.con:Con:=⟨155,bOg,bNr,false,fun (x0,x1,x2,x3,x4,x5,x6,x7,x8,x9,x10,x11,x12,x13)=>nO ((x1,x2),(x3,x4),(x5,x6,x7),x8,x9,x11,x12,x13,x10) x0⟩
def xU.con:Con:=⟨156,bTu,bUe,false,fun (x0,x1,x2,x3,x4,x5,x6,x7,x8,x9)=>xU (x0,x1,x2,x3,x4,x5,x6,x7,x8) x9⟩
def aA2.con:Con:=⟨375,aJq,sh2,false,fun (x0,x1,x2)=>aA2 (x0,x1,x2)⟩
def pU.con:Con:=⟨330,⟨[e48,e1],[]⟩,aTc,false,fun (x0,x1,x2)=>pU (x0,x1) x2⟩
def tU.con:Con:=⟨331,aS9,sh2,false,fun (x0,x1,x2,x3)=>tU (x0,x1,x2) x3⟩
def aEd.con:Con:=⟨400,aWm,aG1,false,fun x=>aEd x⟩
def aBa.con:Con:=⟨399,bCd,sh2,false,fun (x0,x1)=>aBa x0 x1⟩
def aAr.con:Con:=⟨376,aS9,sh2,false,fun (x0,x1,x2,x3)=>aAr (x0,x1,x2) x3⟩
def mV.con:Con:=⟨332,⟨[e17,e1,e4],[]⟩,aWh,false,fun (x0,x1,x2,x3,x4)=>mV (x0,x1,x2) x3 x4⟩
def qM.con:Con:=⟨336,aJq,sh2,false,fun (x0,x1,x2)=>qM (x0,x1,x2)⟩
def yP.con:Con:=⟨377,bM5,aTc,false,fun (x0,x1,x2,x3)=>yP (x0,x1) x2 x3⟩
def pE.con:Con:=⟨401,⟨[e17,e1,(2,.one (.ptr 1000002 0))],[(1000002,.box [.row 0]),(0,aRz)]⟩,⟨[],[(0,aRz),(1000002,.box [.row 0])]⟩,false,fun (x0,x1,x2,x3,x4)=>pE (x0,x1,x2) x3 x4⟩
def wF.con:Con:=⟨378,bTe,bMr,false,fun (x0,x1,x2,x3,x4,x5,x6,x7,x8,x9)=>wF (x0,x1,x2) (x3,x4,x5) x6 (x7,x8,x9)⟩
def mX.con:Con:=⟨333,bUo,aIe,false,fun (x0,x1,x2,x3,x4,x5,x6,x7,x8,x9)=>mX (x0,x1) (x2,x3,x4) x5 x6 (x7,x8,x9)⟩
def zJ.con:Con:=⟨379,aS9,sh2,false,fun (x0,x1,x2,x3)=>zJ (x0,x1,x2) x3⟩
def wY.con:Con:=⟨334,aYz,aMp,false,fun (x0,x1,x2,x3,x4,x5)=>wY (x0,x1,x2) (x3,x4,x5)⟩
def aCh.con:Con:=⟨335,aXs,sh1,false,fun (x0,x1,x2)=>aCh (x0,x1) x2⟩
def tN.con:Con:=⟨246,bJ8,aIe,false,fun (x0,x1,x2,x3,x4,x5)=>tN (x0,x1) (x2,x3) x4 x5⟩
def xI.con:Con:=⟨380,bE9,sh1,false,fun (x0,x1,x2,x3,x4,x5)=>xI (x0,x1) (x2,x3,x4,x5)⟩
def xK.con:Con:=⟨337,aSt,sh1,false,fun (x0,x1,x2)=>xK (x0,x1) x2⟩
def pD.con:Con:=⟨338,aWm,sh2,false,fun x=>pD x⟩
def xN.con:Con:=⟨247,⟨[e5,e23,e4],[]⟩,sh1,false,fun (x0,x1,x2,x3)=>xN (x0,x1) x2 x3⟩
def rW.con:Con:=⟨402,bMq,sh1,false,fun (x0,x1)=>rW x0 x1⟩
def wZ.con:Con:=⟨381,bLn,sh1,false,fun (x0,x1,x2,x3,x4,x5,x6,x7)=>wZ (x0,x1,x2,x3) (x4,x5,x6,x7)⟩
def xM.con:Con:=⟨339,aXl,sh1,false,fun (x0,x1)=>xM x0 x1⟩
def aCy.con:Con:=⟨248,⟨[e37,e23],[]⟩,sh1,false,fun (x0,x1)=>aCy x0 x1⟩
def zE.con:Con:=⟨158,bO0,aIe,false,fun (x0,x1,x2,x3,x4,x5,x6)=>zE (x0,x1) (x2,x3) x4 x5 x6⟩
def aC2.con:Con:=⟨397,sh6,bKh,false,fun x=>aC2 x⟩
def tT.con:Con:=⟨373,sh6,sh2,false,fun x=>tT x⟩
def tV.con:Con:=⟨374,sh6,sh2,false,fun x=>tV x⟩
def xC.con:Con:=⟨329,aXl,sh1,false,fun (x0,x1)=>xC x0 x1⟩
def zG.con:Con:=⟨245,aIe,aIe,false,fun x=>zG x⟩
def lZ.con:Con:=⟨372,⟨[e46,e1],[]⟩,bC7,false,fun (x0,x1)=>lZ x0 x1⟩
def aCz.con:Con:=⟨328,⟨[e46,e23,e4],[]⟩,sh1,false,fun (x0,x1,x2)=>aCz x0 x1 x2⟩
def oW.con:Con:=⟨244,bPe,aPe,false,fun (x0,x1,x2)=>oW x0 x1 x2⟩
def aBg.con:Con:=⟨157,bPn,aMc,false,fun (x0,x1,x2,x3,x4,x5,x6,x7,x8,x9,x10)=>aBg (x0,x1,x2,x3,x4,x5,x6,x7,x8) x9 x10⟩
def lV.con:Con:=⟨73,bNa,aR2,false,fun (x0,x1,x2,x3,x4,x5,x6,x7,x8,x9,x10,x11,x12,x13,x14,x15,x16,x17,x18,x19,x20,x21,x22,x23,x24,x25,x26,x27)=>lV ((x15,x16),(x17,x18),(x19,x20,x21),x22,x23,x25,x26,x27,x24) (x0,x1,x2,(x3,x4,(x5,x6,x7,x8,x9,x10,x11,x12,x13,x14)))⟩
def qU.con:Con:=⟨26,bMa,⟨[e43,e26],[o15,o16,o25,o26,o27,o28,o14,o29,o43,o30]⟩,false,fun (x0,x1,x2,x3,x4,x5,x6,x7,x8,x9,x10,x11,x12,x13,x14,x15,x16,x17,x18,x19,x20,x21,x22,x23,x24,x25,x26,x27)=>qU ((x0,x1),(x2,x3),(x4,x5,x6),x7,x8,x9,x10,x11,x12) (x13,x14,x15,(x16,x17,(x18,x19,x20,x21,x22,x23,x24,x25,x26,x27)))⟩
def aEs.con:Con:=⟨83,aWf,⟨[e43,e1],[o15,o16,o25,o26,o27,o28,o14,o29,o43,o30]⟩,false,fun (x0,x1,x2,x3,x4,x5,x6,x7,x8,x9,x10,x11,x12,x13)=>aEs ((x0,x1),(x2,x3),(x4,x5,x6),x7,x8,x9,x10,x11,x12) x13⟩
def nR.con:Con:=⟨32,aWf,bB8,false,fun (x0,x1,x2,x3,x4,x5,x6,x7,x8,x9,x10,x11,x12,x13)=>nR ((x0,x1),(x2,x3),(x4,x5,x6),x7,x8,x9,x10,x11,x12) x13⟩
def gI.con:Con:=⟨342,⟨[e31,e1,e4],[]⟩,sh1,false,fun (x0,x1,x2)=>gI x0 x1 x2⟩
def kM.con:Con:=⟨255,bDo,sh1,false,fun (x0,x1,x2,x3)=>kM (x0,x1,x2) x3⟩
def xV.con:Con:=⟨256,aX2,sh1,false,fun (x0,x1,x2,x3,x4,x5,x6,x7,x8,x9,x10,x11,x12)=>xV ((x0,x1),(x2,x3),(x4,x5,x6),x7,x8,x9,x10,x11,x12)⟩
def rJ.con:Con:=⟨258,bC1,sh1,false,fun (x0,x1,x2,x3)=>rJ (x0,x1,x2,x3)⟩
def kE.con:Con:=⟨259,bPi,sh1,false,fun (x0,x1,x2,x3,x4,x5,x6,x7,x8,x9,x10,x11,x12)=>kE (x0,x1,x2,x3,x4,x5,x6,x7,x8) (x9,x10,x11,x12)⟩
def nB.con:Con:=⟨165,aX2,sh1,false,fun (x0,x1,x2,x3,x4,x5,x6,x7,x8,x9,x10,x11,x12)=>nB ((x0,x1),(x2,x3),(x4,x5,x6),x7,x8,x9,x10,x11,x12)⟩
def mG.con:Con:=⟨84,bMa,⟨[(0,bUl),e26],[o3,o2,o5]⟩,false,fun (x0,x1,x2,x3,x4,x5,x6,x7,x8,x9,x10,x11,x12,x13,x14,x15,x16,x17,x18,x19,x20,x21,x22,x23,x24,x25,x26,x27)=>mG ((x0,x1),(x2,x3),(x4,x5,x6),x7,x8,x9,x10,x11,x12) (x13,x14,x15,(x16,x17,(x18,x19,x20,x21,x22,x23,x24,x25,x26,x27)))⟩
def tL.con:Con:=⟨33,aWf,⟨[(0,bUl)],[o3,o2,o5]⟩,false,fun (x0,x1,x2,x3,x4,x5,x6,x7,x8,x9,x10,x11,x12,x13)=>tL ((x0,x1),(x2,x3),(x4,x5,x6),x7,x8,x9,x10,x11,x12) x13⟩
def sG.con:Con:=⟨44,⟨[e5,(1,ag1)],[]⟩,sh1,false,fun (x0,x1,x2,x3)=>sG (x0,x1) (x2,x3)⟩
def pY.con:Con:=⟨123,bMq,sh1,false,fun (x0,x1)=>pY x0 x1⟩
def xW.con:Con:=⟨182,aYz,sh1,false,fun (x0,x1,x2,x3,x4,x5)=>xW (x0,x1,x2) (x3,x4,x5)⟩
def sL.con:Con:=⟨105,⟨[(0,aVy),(1,aVy)],[]⟩,sh1,false,fun (x0,x1)=>sL x0 x1⟩
def uX.con:Con:=⟨45,⟨[e48,e55],[]⟩,sh1,false,fun (x0,x1,x2,x3)=>uX (x0,x1) (x2,x3)⟩
def qX.con:Con:=⟨69,⟨[e31,(1,bTo)],[]⟩,sh1,false,fun (x0,x1)=>qX x0 x1⟩
def qI.con:Con:=⟨23,⟨[e34,(1,bTr)],[]⟩,sh1,false,fun (x0,x1,x2,x3,x4,x5)=>qI (x0,x1,x2) (x3,x4,x5)⟩
def sF.con:Con:=⟨24,⟨[e42,e50],[]⟩,sh1,false,fun (x0,x1)=>sF x0 x1⟩
def sE.con:Con:=⟨50,bLn,sh1,false,fun (x0,x1,x2,x3,x4,x5,x6,x7)=>sE (x0,x1,x2,x3) (x4,x5,x6,x7)⟩
def pW.con:Con:=⟨14,aXl,sh1,false,fun (x0,x1)=>pW x0 x1⟩
def aBw.con:Con:=⟨55,bLm,sh1,false,fun (x0,x1)=>aBw x0 x1⟩
def qT.con:Con:=⟨17,⟨[e21,e32],[]⟩,sh1,false,fun (x0,x1,x2,x3,x4,x5,x6,x7,x8,x9,x10,x11,x12,x13,x14,x15,x16,x17,x18,x19)=>qT (x0,x1,x2,x3,x4,x5,x6,x7,x8,x9) (x10,x11,x12,x13,x14,x15,x16,x17,x18,x19)⟩
def mH.con:Con:=⟨106,bN1,sh1,false,fun (x0,x1)=>mH x0 x1⟩
def sZ.con:Con:=⟨107,⟨[e37,(1,bCj)],[]⟩,sh1,false,fun (x0,x1)=>sZ x0 x1⟩
def sR.con:Con:=⟨108,⟨[e46,(1,bMc)],[]⟩,sh1,false,fun (x0,x1)=>sR x0 x1⟩
def vG.con:Con:=⟨46,⟨[e22,(1,ag5)],[]⟩,sh1,false,fun (x0,x1,x2,x3,x4,x5,x6,x7,x8,x9,x10,x11,x12,x13,x14,x15,x16,x17)=>vG (x0,x1,x2,x3,x4,x5,x6,x7,x8) (x9,x10,x11,x12,x13,x14,x15,x16,x17)⟩
def xX.con:Con:=⟨47,⟨[e45,(1,bNb)],[]⟩,sh1,false,fun (x0,x1,x2,x3,x4,x5,x6,x7)=>xX (x0,x1,x2,x3) (x4,x5,x6,x7)⟩
def nW.con:Con:=⟨12,⟨[e29,(1,bVq)],[]⟩,sh1,false,fun (x0,x1,x2,x3,x4,x5,x6,x7,x8,x9,x10,x11,x12,x13,x14,x15,x16,x17,x18,x19,x20,x21,x22,x23,x24,x25)=>nW ((x0,x1),(x2,x3),(x4,x5,x6),x7,x8,x9,x10,x11,x12) ((x13,x14),(x15,x16),(x17,x18,x19),x20,x21,x22,x23,x24,x25)⟩
def gZ.con:Con:=⟨34,aWf,sh2,false,fun (x0,x1,x2,x3,x4,x5,x6,x7,x8,x9,x10,x11,x12,x13)=>gZ ((x0,x1),(x2,x3),(x4,x5,x6),x7,x8,x9,x10,x11,x12) x13⟩
def nL.con:Con:=⟨35,aWf,sh2,false,fun (x0,x1,x2,x3,x4,x5,x6,x7,x8,x9,x10,x11,x12,x13)=>nL ((x0,x1),(x2,x3),(x4,x5,x6),x7,x8,x9,x10,x11,x12) x13⟩
def l_FnRuns.con:Con:=⟨6,sh9,sh1,false,fun x=>l_FnRuns x⟩
end

end Go.Proofs.YtecighmpdcffcaaGreat
