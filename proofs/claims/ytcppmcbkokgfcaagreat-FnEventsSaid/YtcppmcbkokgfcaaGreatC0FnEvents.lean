/-
  Contracts of the functions of the program. Conditions: none.
-/
import Derived.Test.YtcppmcbkokgfcaaGreatT1FnEvents
import Derived.Test.YtcppmcbkokgfcaaGreatProg
import Derived.KernelRfl
set_option linter.unusedVariables false
set_option linter.unusedSimpArgs false
set_option maxRecDepth 100000
namespace Go.Proofs.YtcppmcbkokgfcaaGreat
open Go.Ab Go.V
noncomputable section
theorem follows:Tryz.prog.follows .mixedOrders=true:=by kernel_rfl
theorem _root_.Go.V.Con.Ok.c {P:Program} {c:Con} {E:List Con} (h:c.Ok P) (k:aHh P E):aHh P (c::E):=⟨h,k⟩
theorem fk {E:List Con} {c:Con} {fn:Func} (hf:Tryz.prog.funcs[c.f]? =some fn) (k:aHh Tryz.prog E) (pl:Plan) (e: ∀ x,bQp Tryz.prog E fn pl c.pre c.post x=c.sem x:=by intro x;kernel_rfl) (hn:(fn.name=="runtime.NumGoroutine")=false:=by rfl):c.Ok Tryz.prog:=cB5 hf hn follows (aHh.mem k) fun x y h=>(e x).trans h
theorem nok:aHh Tryz.prog []:=trivial
abbrev cn (f:FuncId) (a b:Sh) (s:wS a.tys->Option (wS b.tys)):Con:=⟨f,a,b,false,s⟩
abbrev OK (c:Con):Prop:=c.Ok Tryz.prog
abbrev _root_.Go.V.Plan.q (p:Plan):Plan:= .seq .z p
def ow1:OT:= .row 48 9 tFl false
def ow2:OT:= .row 3 1 ti true
def ow3:OT:= .row 66 1 tPt true
def ow4:OT:= .row 70 12 tFy false
def ow5:OT:= .row 5 1 tb true
def ow6:OT:= .row 108 4 tIb false
def ow7:OT:= .row 203 4 tPp true
def ow8:OT:= .row 151 3 tSg true
def ow9:OT:= .row 238 5 tRs true
def aE3:OT:= .row 165 1 tMs true
def aL3:OT:= .row 221 5 bU true
def aOp:OT:= .row 144 3 tAS true
def aFj:OT:= .row 171 3 tRv true
def aIx:OT:= .row 146 5 tLk true
def aEx:OT:= .row 186 4 tUs true
def bAd:OT:= .row 66 1 tPt false
def aGz:OT:= .row 70 12 tFy true
def aUj:OT:= .row 236 3 aBz true
def aKi:OT:= .row 108 4 tIb true
def aK3:OT:= .row 48 9 tFl true
def aWd:OT:= .row 203 4 tPp false
def bOp:OT:= .row 72 15 dC false
def ob1:OT:= .box [.var (.sl tb),.var ti,.var ti]
def ob2:OT:= .box [.var (.sl tAS),.var (.sl tLk),.var (.sl tSg),.var (.sl tSg),.var ti,.var (.sl tRs),.var (.sl tUs),.var ti,.var (.sl ti),.row 0,.row 1,.row 2,.var ti]
def ob3:OT:= .box [.row 300001]
def ob4:OT:= .box [.var (.sl tAS),.var (.sl tLk),.var (.sl tSg),.var (.sl tSg),.var ti,.var (.sl tRs),.var (.sl tUs),.var ti,.var (.sl ti),.row 300001,.row 300002,.row 300003,.var ti]
def ob5:OT:= .box [.row 300001,.row 300003]
def ob6:OT:= .box [.var (.sl tAS),.var (.sl tLk)]
def ob7:OT:= .box [.var ti,.var ti,.var ti,.var (.sl tPp),.var ti,.var ti,.var ti,.var ti,.var ti,.var (.sl tb)]
def ob8:OT:= .box [.var ti,.var ti,.var ti,.row 300001]
def ob9:OT:= .box [.var ti,.var ti,.row 300003]
def bF7:OT:= .box [.row 300005]
def bGy:OT:= .box [.var ti,.var ti,.nil,.var ti,.var ti,.var ti,.var ti,.var ti,.var (.sl tPp),.var ti,.var ti,.var ti,.var ti,.var ti,.row 300001]
def bPc:OT:= .box [.row 300001,.nil]
def bQ0:OT:= .box [.var ti,.var ti,.row 300004]
def cAz:OT:= .box [.var ti,.var ti,.var ti,.var ti,.row 1144,.row 1145,.var ti,.var ti,.row 1146]
def bRd:OT:= .box [.var ti,.var ti,.row 300001,.var ti,.var ti,.var ti,.var ti,.var ti,.var (.sl tPp),.var ti,.var ti,.var ti,.var ti,.var ti,.row 300002]
def bPh:OT:= .box [.row 1208,.row 1209,.row 1272,.row 1273,.var ti,.row 1336,.row 1337,.var ti,.row 1400,.row 300001,.nil,.nil,.var ti]
def bPf:OT:= .box [.row 1208,.row 1209,.row 1272,.row 1273,.var ti,.row 1336,.row 1337,.var ti,.row 1400,.row 300001,.row 300002,.nil,.var ti]
def bZ4:OT:= .box [.var ti,.var ti,.row 300001]
def bY6:OT:= .box [.var ti,.var ti,.var ti,.var ti,.var ti]
def cA5:OT:= .box [.row 1160,.row 1208]
def cA0:OT:= .box [.var ti,.var ti,.var ti,.nil]
def bYm:OT:= .box [.var ti,.var ti,.var ti]
def cAx:OT:= .box [.row 300001,.row 300002]
def cBh:OT:= .box [.row 300007,.row 300008,.row 300009,.row 300010,.var ti,.row 300006,.row 300011,.var ti,.row 300012,.row 300013,.row 300014,.row 300015,.var ti]
def cA7:OT:= .box [.var ti,.var ti,.var ti,.var ti,.row 300003,.row 300004,.var ti,.var ti,.row 300005]
def cAh:OT:= .box [.var (.sl tPp)]
def cBi:OT:= .box [.var ti,.var ti,.var ti,.var (.sl tPp),.var ti,.var ti,.var ti,.var ti,.var ti,.row 1161]
def bZi:OT:= .box [.var ti,.var ti,.nil,.var ti,.var ti,.var ti,.var ti,.var ti,.var (.sl tPp),.var ti,.var ti,.var ti,.var ti,.var ti,.row 1160]
def bX6:OT:= .box [.var ti,.var ti,.nil,.var ti,.var ti,.var ti,.var ti,.var ti,.row 1672,.var ti,.var ti,.var ti,.var ti,.var ti,.row 1673]
def cC2:OT:= .box [.var ti,.var ti,.var ti,.row 1192,.var ti,.var ti,.var ti,.var ti,.var ti,.row 1193]
def bYz:OT:= .box [.var ti,.var ti,.var ti,.row 300001,.var ti,.var ti,.var ti,.var ti,.var ti,.row 300002]
def cD7:OT:= .box [.var ti,.var ti,.var ti,.row 1112]
def cDn:OT:= .box [.var ti,.var ti,.var ti,.var ti,.row 1112,.row 1113,.var ti,.var ti,.row 1114]
def cDl:OT:= .box [.var ti,.var ti,.var ti,.row 1544]
def cDw:OT:= .box [.var ti,.var ti,.var ti,.var ti,.row 2312,.row 2313,.var ti,.var ti,.row 2314]
def cC9:OT:= .box [.var ti,.var ti,.var ti,.var ti,.var ti,.row 1560,.var ti,.var ti,.var ti,.var ti,.var ti,.row 1561]
def cDr:OT:= .box [.var ti,.row 2152,.row 2153]
def cDg:OT:= .box [.var (.sl tAS),.var (.sl tLk),.var (.sl tSg),.var (.sl tSg),.var ti,.row 2152,.row 2153,.var ti,.var (.sl ti),.row 0,.row 1,.row 2,.var ti]
def cDu:OT:= .box [.var ti,.var ti,.var ti,.row 2904,.var ti,.var ti,.var ti,.var ti,.var ti,.row 2905]
def bYq:OT:= .box [.var ti,.var ti,.var ti,.var ti,.var (.sl tMs),.var (.sl tPt),.var ti,.var ti,.var (.sl tRv)]
def cDq:OT:= .box [.var (.sl tAS),.var (.sl tLk),.var (.sl tSg),.var (.sl tSg),.var ti,.var (.sl tRs),.var (.sl tUs),.var ti,.var (.sl ti),.row 14,.row 1,.row 2,.var ti]
def bZ6:OT:= .box [.var ti,.row 300001,.row 1177]
def bZw:OT:= .box [.var ti,.row 300001,.row 300002]
def cAk:OT:= .box [.var (.sl tAS),.var (.sl tLk),.var (.sl tSg),.var (.sl tSg),.var ti,.var (.sl tRs),.var (.sl tUs),.var ti,.var (.sl ti),.var (.sl tFy),.var (.sl tFl),.var (.sl tIb),.var ti]
def bZg:OT:= .box [.var ti,.var .bool,.var ti]
def cBb:OT:= .box [.row 1208,.row 1209,.row 1272,.row 1273,.var ti,.row 1336,.row 1337,.var ti,.row 1400,.row 300001,.row 300002,.row 300003,.var ti]
def cD6:OT:= .box [.var ti,.var ti,.var ti,.var ti,.var ti,.var (.sl tPp),.var ti,.var ti,.var ti,.var ti,.var ti,.var (.sl tb)]
def cDs:OT:= .box [.var ti,.var ti,.var ti,.row 2584,.var ti,.var ti,.var ti,.var ti,.var ti,.row 2585]
def cDo:OT:= .box [.var ti,.var ti,.var ti,.row 3176,.var ti,.var ti,.var ti,.var ti,.var ti,.row 3177]
def ag1:ST:= .agg [.var (.sl tAS),.var (.sl tLk)]
def ag2:ST:= .agg [.var ti,.var ti,.var ti,.var (.sl tPp),.var ti,.var ti,.var ti,.var ti,.var ti,.var (.sl tb)]
def ag3:ST:= .agg [.var (.sl tPp)]
def ag4:ST:= .agg [.var ti,.var ti,.var (.sl bU)]
def ag5:ST:= .agg [.var ti,.var ti,.var ti,.var ti,.var (.sl tMs),.var (.sl tPt),.var ti,.var ti,.var (.sl tRv)]
def ag6:ST:= .agg [.var ti,.var ti,.var ti,.var ti,.var ti]
def ag7:ST:= .agg [.var ti,.var ti,.var ti,.var (.sl bU)]
def ag8:ST:= .agg [.var (.sl tSg),.var (.sl tSg)]
def ag9:ST:= .agg [.var ti,.var ti,.var ti,.row 0,.var ti,.var ti,.var ti,.var ti,.var ti,.row 1]
def bO8:ST:= .agg [.var (.sl tAS),.var (.sl tLk),.var (.sl tSg),.var (.sl tSg),.var ti,.var (.sl tRs),.var (.sl tUs),.var ti,.var (.sl ti),.var (.sl tFy),.var (.sl tFl),.var (.sl tIb),.var ti]
def cA1:ST:= .agg [.var ti,.var (.sl tRs),.var (.sl tUs)]
def bOe:ST:= .agg [.var ti,.var ti,.var ti,.var (.sl tMs)]
def cDh:ST:= .agg [.var ti,.var ti,.var ti,.var ti,.row 0,.row 1,.var ti,.var ti,.row 2]
def bY0:ST:= .agg [.row 0]
def bZt:ST:= .agg [.var ti,.var ti,.var ti]
def cDz:ST:= .agg [.var ti,.row 0,.row 1]
def cC4:ST:= .agg [.var ti,.var ti,.var ti,.row 0]
def cDb:ST:= .agg [.row 0,.row 1,.row 2,.row 3,.var ti,.row 4,.row 5,.var ti,.row 6,.row 7,.row 8,.row 9,.var ti]
def cC8:ST:= .agg [.var ti,.var ti,.var (.sl tb),.var ti,.var ti,.var ti,.var ti,.var ti,.var (.sl tPp),.var ti,.var ti,.var ti,.var ti,.var ti,.var (.sl tb)]
def cDv:ST:= .agg [.row 0,.row 1]
def bF2:ST:= .agg [.var (.sl tAS),.var (.sl tLk),.var (.sl tSg),.var (.sl tSg),.var ti,.var (.sl tRs),.var (.sl tUs),.var ti,.var (.sl ti),.row 0,.row 1,.row 2,.var ti]
def bZh:ST:= .agg [.var ti,.var ti,.row 0]
def bNy:ST:= .agg [.var ti,.var ti,.var ti,.var ti,.var ti,.var (.sl tPp),.var ti,.var ti,.var ti,.var ti,.var ti,.var (.sl tb)]
def bNw:ST:= .agg [.var ti,.var ti,.row 0,.var ti,.var ti,.var ti,.var ti,.var ti,.var (.sl tPp),.var ti,.var ti,.var ti,.var ti,.var ti,.row 1]
def bY2:ST:= .agg [.var ti,.var ti,.var ti,.var ti,.var ti,.row 0,.var ti,.var ti,.var ti,.var ti,.var ti,.row 1]
def bYp:ST:= .agg [.var ti,.var ti,.row 1,.var ti,.var ti,.var ti,.var ti,.var ti,.var (.sl tPp),.var ti,.var ti,.var ti,.var ti,.var ti,.row 0]
def cDd:ST:= .agg [.var ti,.var ti,.var ti,.row 3,.var ti,.var ti,.var ti,.var ti,.var ti,.row 4]
def cD3:ST:= .agg [.var (.sl tAS),.var (.sl tLk),.var (.sl tSg),.var (.sl tSg),.var ti,.var (.sl tRs),.var (.sl tUs),.var ti,.var (.sl ti),.row 1001109,.row 1001110,.row 1001111,.var ti]
def vr1:ST:= .one (.var ti)
def vr2:ST:= .one (.var .bool)
def vr3:ST:= .one (.row 300001)
def vr4:ST:= .one (.row 0)
def vr5:ST:= .one (.ptr 1000000 0)
def vr6:ST:= .one (.var (.sl tb))
def vr7:ST:= .one (.var (.sl ti))
def vr8:ST:= .one (.row 7)
def vr9:ST:= .one (.row 6)
def bF6:ST:= .one (.var (.sl tPt))
def bZm:ST:= .one (.var (.sl tRs))
def aVx:ST:= .one (.row 10)
def bOu:ST:= .one (.var (.sl tRv))
def cD1:ST:= .one (.row 1624)
def bQs:ST:= .one (.var (.sl bU))
def aQz:ST:= .one (.row 15)
def cDx:ST:= .one (.ptr 7 0)
def bHz:ST:= .one (.var (.sl tMs))
def cDc:ST:= .one (.row 5)
def cDm:ST:= .one (.ptr 11 0)
def aVu:ST:= .one (.row 16)
def aZv:ST:= .one (.var (.sl tSg))
def bBl:ST:= .one (.row 14)
def cDk:ST:= .one (.ptr 13 0)
def bZ7:ST:= .one (.ptr 8 0)
def cAq:ST:= .one (.var (.sl tIb))
def bN4:ST:= .one (.row 127)
def bRq:ST:= .one (.ptr 6 0)
def bPk:ST:= .one (.row 300002)
def e1:Nat×ST:=(1,vr1)
def e2:Nat×ST:=(0,vr1)
def e3:Nat×ST:=(0,vr2)
def e4:Nat×ST:=(2,vr1)
def e5:Nat×ST:=(0,ag1)
def e6:Nat×ST:=(0,vr4)
def e7:Nat×ST:=(3,vr1)
def e8:Nat×ST:=(5,vr1)
def e9:Nat×ST:=(0,vr5)
def e10:Nat×ST:=(4,vr2)
def e11:Nat×ST:=(4,vr1)
def e12:Nat×ST:=(3,vr3)
def e13:Nat×ST:=(0,ag3)
def e14:Nat×ST:=(0,vr6)
def e15:Nat×ST:=(2,vr2)
def e16:Nat×ST:=(6,vr1)
def e17:Nat×ST:=(11,vr3)
def e18:Nat×ST:=(0,ag4)
def e19:Nat×ST:=(9,vr1)
def e20:Nat×ST:=(0,ag2)
def e21:Nat×ST:=(0,ag5)
def e22:Nat×ST:=(1,ag3)
def e23:Nat×ST:=(7,vr1)
def e24:Nat×ST:=(8,vr1)
def e25:Nat×ST:=(3,vr9)
def e26:Nat×ST:=(1,vr2)
def e27:Nat×ST:=(0,ag9)
def e28:Nat×ST:=(1,ag4)
def e29:Nat×ST:=(1,ag2)
def e30:Nat×ST:=(5,vr8)
def e31:Nat×ST:=(0,bO8)
def e32:Nat×ST:=(0,bZm)
def e33:Nat×ST:=(0,ag7)
def e34:Nat×ST:=(0,cA1)
def e35:Nat×ST:=(5,vr3)
def e36:Nat×ST:=(10,vr1)
def e37:Nat×ST:=(0,ag6)
def e38:Nat×ST:=(0,bF6)
def e39:Nat×ST:=(13,vr1)
def e40:Nat×ST:=(9,cD1)
def e41:Nat×ST:=(0,cDh)
def e42:Nat×ST:=(0,vr7)
def e43:Nat×ST:=(0,bY0)
def e44:Nat×ST:=(0,bOe)
def e45:Nat×ST:=(0,bOu)
def e46:Nat×ST:=(12,vr2)
def e47:Nat×ST:=(0,ag8)
def e48:Nat×ST:=(0,cDz)
def e49:Nat×ST:=(0,cC4)
def e50:Nat×ST:=(1,vr7)
def e51:Nat×ST:=(7,aVx)
def e52:Nat×ST:=(34,vr2)
def e53:Nat×ST:=(0,bQs)
def e54:Nat×ST:=(1,ag8)
def e55:Nat×ST:=(6,vr2)
def e56:Nat×ST:=(5,vr7)
def e57:Nat×ST:=(7,cDx)
def e58:Nat×ST:=(0,cDb)
def e59:Nat×ST:=(1,ag7)
def e60:Nat×ST:=(1,cC8)
def e61:Nat×ST:=(31,vr2)
def e62:Nat×ST:=(11,vr1)
def e63:Nat×ST:=(12,vr1)
def e64:Nat×ST:=(0,cDv)
def e65:Nat×ST:=(0,bZt)
def e66:Nat×ST:=(1,bZt)
def e67:Nat×ST:=(3,cDc)
def e68:Nat×ST:=(25,vr2)
def e69:Nat×ST:=(7,aQz)
def e70:Nat×ST:=(15,vr1)
def e71:Nat×ST:=(11,cDm)
def e72:Nat×ST:=(13,cDk)
def e73:Nat×ST:=(7,.one (.row 18))
def e74:Nat×ST:=(7,.one (.row 9))
def e75:Nat×ST:=(7,.one (.row 29))
def o1:Nat×OT:=(1000000,ob1)
def o2:Nat×OT:=(1,ow1)
def o3:Nat×OT:=(0,ow4)
def o4:Nat×OT:=(2,ow6)
def o5:Nat×OT:=(1000000,ob2)
def o6:Nat×OT:=(0,ow7)
def o7:Nat×OT:=(1,ow5)
def o8:Nat×OT:=(300001,bAd)
def o9:Nat×OT:=(0,aE3)
def o10:Nat×OT:=(300001,ow2)
def o11:Nat×OT:=(0,ow9)
def o12:Nat×OT:=(300002,ow1)
def o13:Nat×OT:=(0,ow2)
def o14:Nat×OT:=(300001,ow7)
def o15:Nat×OT:=(300001,ow4)
def o16:Nat×OT:=(300003,ow6)
def o17:Nat×OT:=(1,ow3)
def o18:Nat×OT:=(300001,aOp)
def o19:Nat×OT:=(1624,ow3)
def o20:Nat×OT:=(0,aL3)
def o21:Nat×OT:=(2,aFj)
def o22:Nat×OT:=(0,ow5)
def o23:Nat×OT:=(0,aOp)
def o24:Nat×OT:=(1,aIx)
def o25:Nat×OT:=(6,ow2)
def o26:Nat×OT:=(300001,aL3)
def o27:Nat×OT:=(3,ob3)
def o28:Nat×OT:=(1000000,ob4)
def o29:Nat×OT:=(300001,ow3)
def o30:Nat×OT:=(1,aEx)
def o31:Nat×OT:=(15,ow3)
def o32:Nat×OT:=(300001,ow8)
def o33:Nat×OT:=(300003,aIx)
def o34:Nat×OT:=(300001,ow9)
def o35:Nat×OT:=(0,ow8)
def o36:Nat×OT:=(3,ob5)
def o37:Nat×OT:=(2,ow8)
def o38:Nat×OT:=(3,ow8)
def o39:Nat×OT:=(4,ow9)
def o40:Nat×OT:=(5,aEx)
def o41:Nat×OT:=(7,aGz)
def o42:Nat×OT:=(9,aKi)
def o43:Nat×OT:=(0,ow3)
def o44:Nat×OT:=(10,aUj)
def o45:Nat×OT:=(10,ow3)
def o46:Nat×OT:=(300001,aUj)
def o47:Nat×OT:=(300001,ow5)
def o48:Nat×OT:=(1001109,ow4)
def o49:Nat×OT:=(1001110,ow1)
def o50:Nat×OT:=(1001111,ow6)
def o51:Nat×OT:=(300003,aL3)
def o52:Nat×OT:=(300002,ow3)
def o53:Nat×OT:=(300001,aFj)
def o54:Nat×OT:=(0,.row 144 3 tAS false)
def o55:Nat×OT:=(1,.row 146 5 tLk false)
def k0:Nat×ST:=(0,.keep)
def k1:Nat×ST:=(1,.keep)
def k2:Nat×ST:=(2,.keep)
def k3:Nat×ST:=(3,.keep)
def k4:Nat×ST:=(4,.keep)
def k5:Nat×ST:=(5,.keep)
def k6:Nat×ST:=(6,.keep)
def k7:Nat×ST:=(7,.keep)
def k8:Nat×ST:=(8,.keep)
def k9:Nat×ST:=(9,.keep)
def k10:Nat×ST:=(10,.keep)
def k11:Nat×ST:=(11,.keep)
def k12:Nat×ST:=(12,.keep)
def k13:Nat×ST:=(13,.keep)
def k14:Nat×ST:=(14,.keep)
def k15:Nat×ST:=(15,.keep)
def k16:Nat×ST:=(16,.keep)
def k17:Nat×ST:=(17,.keep)
def k18:Nat×ST:=(18,.keep)
def k19:Nat×ST:=(19,.keep)
def k20:Nat×ST:=(20,.keep)
def k21:Nat×ST:=(21,.keep)
def k22:Nat×ST:=(22,.keep)
def k23:Nat×ST:=(23,.keep)
def k25:Nat×ST:=(25,.keep)
def k26:Nat×ST:=(26,.keep)
def k27:Nat×ST:=(27,.keep)
def k28:Nat×ST:=(28,.keep)
def k31:Nat×ST:=(31,.keep)
def k32:Nat×ST:=(32,.keep)
def k33:Nat×ST:=(33,.keep)
def k35:Nat×ST:=(35,.keep)
def k36:Nat×ST:=(36,.keep)
def k37:Nat×ST:=(37,.keep)
def k38:Nat×ST:=(38,.keep)
def k39:Nat×ST:=(39,.keep)
def k40:Nat×ST:=(40,.keep)
def k41:Nat×ST:=(41,.keep)
def k49:Nat×ST:=(49,.keep)
def k50:Nat×ST:=(50,.keep)
def k51:Nat×ST:=(51,.keep)
def k52:Nat×ST:=(52,.keep)
def k53:Nat×ST:=(53,.keep)
def k54:Nat×ST:=(54,.keep)
def k56:Nat×ST:=(56,.keep)
def k57:Nat×ST:=(57,.keep)
def k58:Nat×ST:=(58,.keep)
def k64:Nat×ST:=(64,.keep)
def k65:Nat×ST:=(65,.keep)
def k66:Nat×ST:=(66,.keep)
def k67:Nat×ST:=(67,.keep)
def k72:Nat×ST:=(72,.keep)
def k73:Nat×ST:=(73,.keep)
def k74:Nat×ST:=(74,.keep)
def k87:Nat×ST:=(87,.keep)
def k88:Nat×ST:=(88,.keep)
def bG4:Nat×ST:=(100,.keep)
def aLs:Nat×ST:=(101,.keep)
def aNe:Nat×ST:=(102,.keep)
def bGb:Nat×ST:=(103,.keep)
def bX3:Nat×ST:=(106,.keep)
def cAi:Nat×ST:=(107,.keep)
def cC6:Nat×ST:=(108,.keep)
def cD5:Nat×ST:=(128,.keep)
def cDy:Nat×ST:=(129,.keep)
def bO9:Nat×ST:=(147,.keep)
def bRp:Nat×ST:=(148,.keep)
def bO4:Nat×ST:=(149,.keep)
def bZe:Nat×ST:=(150,.keep)
def cDp:Nat×ST:=(151,.keep)
def bP3:Nat×ST:=(163,.keep)
def bPa:Nat×ST:=(164,.keep)
def bZc:Nat×ST:=(165,.keep)
def cC7:Nat×ST:=(169,.keep)
def cDi:Nat×ST:=(170,.keep)
def j0:Nat×OT:=(0,.keep)
def j1:Nat×OT:=(1,.keep)
def j2:Nat×OT:=(2,.keep)
def j3:Nat×OT:=(3,.keep)
def j4:Nat×OT:=(4,.keep)
def j5:Nat×OT:=(5,.keep)
def j6:Nat×OT:=(6,.keep)
def j7:Nat×OT:=(7,.keep)
def j8:Nat×OT:=(8,.keep)
def j9:Nat×OT:=(9,.keep)
def j10:Nat×OT:=(10,.keep)
def j11:Nat×OT:=(11,.keep)
def j12:Nat×OT:=(12,.keep)
def j13:Nat×OT:=(13,.keep)
def j14:Nat×OT:=(14,.keep)
def j15:Nat×OT:=(15,.keep)
def j16:Nat×OT:=(16,.keep)
def j19:Nat×OT:=(19,.keep)
def j26:Nat×OT:=(26,.keep)
def j28:Nat×OT:=(28,.keep)
def j29:Nat×OT:=(29,.keep)
def aYi:Nat×OT:=(1080,.keep)
def aYj:Nat×OT:=(1081,.keep)
def cBw:Nat×OT:=(1082,.keep)
def aS1:Nat×OT:=(1112,.keep)
def bHk:Nat×OT:=(1113,.keep)
def bGq:Nat×OT:=(1114,.keep)
def aHl:Nat×OT:=(1128,.keep)
def bSt:Nat×OT:=(1129,.keep)
def bT9:Nat×OT:=(1130,.keep)
def bTh:Nat×OT:=(1131,.keep)
def bSp:Nat×OT:=(1132,.keep)
def bTq:Nat×OT:=(1133,.keep)
def bTn:Nat×OT:=(1134,.keep)
def bR5:Nat×OT:=(1135,.keep)
def cCw:Nat×OT:=(1136,.keep)
def bUz:Nat×OT:=(1137,.keep)
def bTy:Nat×OT:=(1144,.keep)
def bS9:Nat×OT:=(1145,.keep)
def bSh:Nat×OT:=(1146,.keep)
def aF6:Nat×OT:=(1160,.keep)
def bSi:Nat×OT:=(1161,.keep)
def aJp:Nat×OT:=(1176,.keep)
def aHg:Nat×OT:=(1177,.keep)
def aPr:Nat×OT:=(1178,.keep)
def aK9:Nat×OT:=(1192,.keep)
def bUv:Nat×OT:=(1193,.keep)
def zI:Nat×OT:=(1208,.keep)
def aDp:Nat×OT:=(1209,.keep)
def aYe:Nat×OT:=(1210,.keep)
def aYp:Nat×OT:=(1211,.keep)
def aYk:Nat×OT:=(1212,.keep)
def aYf:Nat×OT:=(1213,.keep)
def aY2:Nat×OT:=(1214,.keep)
def aYy:Nat×OT:=(1215,.keep)
def aYw:Nat×OT:=(1216,.keep)
def aYu:Nat×OT:=(1217,.keep)
def aYx:Nat×OT:=(1224,.keep)
def bHo:Nat×OT:=(1225,.keep)
def aE1:Nat×OT:=(1272,.keep)
def aGb:Nat×OT:=(1273,.keep)
def bFt:Nat×OT:=(1288,.keep)
def aP1:Nat×OT:=(1304,.keep)
def aJh:Nat×OT:=(1320,.keep)
def aJf:Nat×OT:=(1336,.keep)
def aJg:Nat×OT:=(1337,.keep)
def bTf:Nat×OT:=(1368,.keep)
def cCy:Nat×OT:=(1369,.keep)
def cB3:Nat×OT:=(1370,.keep)
def cCv:Nat×OT:=(1371,.keep)
def cCn:Nat×OT:=(1372,.keep)
def cBk:Nat×OT:=(1373,.keep)
def cB4:Nat×OT:=(1374,.keep)
def cCl:Nat×OT:=(1375,.keep)
def cCc:Nat×OT:=(1376,.keep)
def cCz:Nat×OT:=(1377,.keep)
def aEt:Nat×OT:=(1400,.keep)
def cCu:Nat×OT:=(1401,.keep)
def cB0:Nat×OT:=(1528,.keep)
def cCe:Nat×OT:=(1529,.keep)
def cCg:Nat×OT:=(1530,.keep)
def bU9:Nat×OT:=(1560,.keep)
def bSr:Nat×OT:=(1561,.keep)
def cCm:Nat×OT:=(1576,.keep)
def cBr:Nat×OT:=(1592,.keep)
def cB1:Nat×OT:=(1593,.keep)
def cCp:Nat×OT:=(1608,.keep)
def cC1:Nat×OT:=(1609,.keep)
def aYo:Nat×OT:=(1624,.keep)
def aAv:Nat×OT:=(1672,.keep)
def aBf:Nat×OT:=(1720,.keep)
def bUm:Nat×OT:=(1736,.keep)
def cCs:Nat×OT:=(1755,.keep)
def cCf:Nat×OT:=(1756,.keep)
def xL:Nat×OT:=(1768,.keep)
def cB8:Nat×OT:=(1787,.keep)
def cBz:Nat×OT:=(1788,.keep)
def xX:Nat×OT:=(1816,.keep)
def cCd:Nat×OT:=(1944,.keep)
def bUu:Nat×OT:=(2152,.keep)
def bR1:Nat×OT:=(2153,.keep)
def bJf:Nat×OT:=(2312,.keep)
def bGa:Nat×OT:=(2313,.keep)
def bGz:Nat×OT:=(2314,.keep)
def bFn:Nat×OT:=(2315,.keep)
def bG3:Nat×OT:=(2316,.keep)
def bIu:Nat×OT:=(2317,.keep)
def bHi:Nat×OT:=(2318,.keep)
def bHm:Nat×OT:=(2319,.keep)
def bUx:Nat×OT:=(2320,.keep)
def bGr:Nat×OT:=(2321,.keep)
def dB:Nat×OT:=(300001,.keep)
def aBl:Nat×OT:=(300002,.keep)
def wY:Nat×OT:=(300003,.keep)
def aHs:Nat×OT:=(300004,.keep)
def bVd:Nat×OT:=(300005,.keep)
def aVq:Nat×OT:=(300006,.keep)
def aWa:Nat×OT:=(300007,.keep)
def aU7:Nat×OT:=(300008,.keep)
def aU1:Nat×OT:=(300009,.keep)
def aUi:Nat×OT:=(300010,.keep)
def aT9:Nat×OT:=(300011,.keep)
def aU0:Nat×OT:=(300012,.keep)
def aUe:Nat×OT:=(300013,.keep)
def aUr:Nat×OT:=(300014,.keep)
def aUp:Nat×OT:=(300015,.keep)
def aQ:Nat×OT:=(1000000,.keep)
def aD3:Nat×OT:=(1001109,.keep)
def aDy:Nat×OT:=(1001110,.keep)
def aD9:Nat×OT:=(1001111,.keep)
def sh1:Sh:=⟨[e3],[]⟩
def sh2:Sh:=⟨[e2],[]⟩
def sh3:Sh:=⟨[],[]⟩
def sh4:Sh:=⟨[e10],[]⟩
def sh5:Sh:=⟨[e2,e1],[]⟩
def sh6:Sh:=⟨[e13],[]⟩
def sh7:Sh:=⟨[e15],[]⟩
def sh8:Sh:=⟨[e20],[]⟩
def sh9:Sh:=⟨[e14],[]⟩
def aFd:Sh:=⟨[e9],[o1]⟩
def aFg:Sh:=⟨[e6],[o13]⟩
def aGy:Sh:=⟨[k0,k1,e8],[]⟩
def aI4:Sh:=⟨[],[o3,o2,o4,o5]⟩
def aIv:Sh:=⟨[k2,k3,e8],[j2,j3]⟩
def aIl:Sh:=⟨[k1],[j1]⟩
def aKj:Sh:=⟨[e38],[]⟩
def aJ6:Sh:=⟨[e21],[]⟩
def aKe:Sh:=⟨[e27],[o6,o7]⟩
def aK7:Sh:=⟨[e18],[]⟩
def aO6:Sh:=⟨[e41],[o9,o17,o21]⟩
def aN9:Sh:=⟨[e43],[o6]⟩
def aN4:Sh:=⟨[k1,e7],[j1]⟩
def aQv:Sh:=⟨[e5,e1,e4],[]⟩
def aQ3:Sh:=⟨[e42],[]⟩
def aQr:Sh:=⟨[e6],[o43]⟩
def aQ4:Sh:=⟨[e31],[]⟩
def aRq:Sh:=⟨[e33,e1],[]⟩
def aQw:Sh:=⟨[e55],[]⟩
def aV3:Sh:=⟨[e9,e1],[o1]⟩
def aVt:Sh:=⟨[e18,e1],[]⟩
def aUu:Sh:=⟨[e6],[o35]⟩
def aWf:Sh:=⟨[e48],[o11,o30]⟩
def aV9:Sh:=⟨[e5,e22],[]⟩
def aVm:Sh:=⟨[e27,e26],[o6,o7]⟩
def aU9:Sh:=⟨[e9,e1,e4,(3,ag2)],[o5,o3,o2,o4]⟩
def aVl:Sh:=⟨[e44,e29],[]⟩
def aUv:Sh:=⟨[e3],[o3,o2,o4,o5]⟩
def aUl:Sh:=⟨[k0,k1,e46],[]⟩
def bAq:Sh:=⟨[e2],[o1]⟩
def aZb:Sh:=⟨[e5,e1],[]⟩
def bAj:Sh:=⟨[e37],[]⟩
def aZo:Sh:=⟨[e5,e28],[]⟩
def bAg:Sh:=⟨[e18,e28],[]⟩
def aZ7:Sh:=⟨[e49],[o20]⟩
def bAo:Sh:=⟨[e49],[o9]⟩
def bBw:Sh:=⟨[e13,e22],[]⟩
def bBz:Sh:=⟨[e14,e1],[]⟩
def aZg:Sh:=⟨[e6],[o22]⟩
def aZ2:Sh:=⟨[e53],[]⟩
def bFq:Sh:=⟨[e2,e50],[]⟩
def bI6:Sh:=⟨[e5],[]⟩
def bGw:Sh:=⟨[e33],[]⟩
def bHx:Sh:=⟨[e65],[]⟩
def bF4:Sh:=⟨[e44],[]⟩
def bHf:Sh:=⟨[e5,e59],[]⟩
def bHl:Sh:=⟨[e6],[(0,aFj)]⟩
def bGe:Sh:=⟨[e6],[o11]⟩
def bIs:Sh:=⟨[e31,e60],[]⟩
def bHc:Sh:=⟨[e34,e1],[]⟩
def bIr:Sh:=⟨[e9,e1,(2,ag2)],[o5,o3,o2,o4]⟩
def bIq:Sh:=⟨[e34,e1,e4,e7],[]⟩
def bHn:Sh:=⟨[e32,e1,e4,e7,e11],[]⟩
def bI2:Sh:=⟨[e7],[]⟩
def bG7:Sh:=⟨[k2,k3],[j2,o27,o14]⟩
def bF8:Sh:=⟨[k0],[o15,o12,o16,o28]⟩
def bN1:Sh:=⟨[e2,e1,e4],[]⟩
def bNt:Sh:=⟨[e37,e1,e4],[]⟩
def bOw:Sh:=⟨[e42,e1],[]⟩
def bPr:Sh:=⟨[e2,e1,e4,(3,ag6)],[]⟩
def bQk:Sh:=⟨[(0,bZh)],[o20]⟩
def bQm:Sh:=⟨[e53,(1,bQs)],[]⟩
def bQi:Sh:=⟨[e5,e54,e4,e7],[]⟩
def bPi:Sh:=⟨[e58],[o23,o24,o37,o38,o39,o40,o25,o41,(8,aK3),o42]⟩
def bN6:Sh:=⟨[e47,e1,e4],[]⟩
def bQz:Sh:=⟨[e6],[(0,aUj)]⟩
def bQ1:Sh:=⟨[e33,e59],[]⟩
def bPs:Sh:=⟨[e14,(1,vr6)],[]⟩
def bQ3:Sh:=⟨[e20,e29],[]⟩
def bQe:Sh:=⟨[e20,e1],[]⟩
def bP1:Sh:=⟨[e34,e1,e4,e7,e11],[]⟩
def bPd:Sh:=⟨[e43],[(0,aWd)]⟩
def bQq:Sh:=⟨[e9,e60],[o5,o3,o2,o4]⟩
def bRt:Sh:=⟨[e6],[o20]⟩
def bN8:Sh:=⟨[(8,vr2)],[]⟩
def bPx:Sh:=⟨[k0,k1,k5,e68],[]⟩
def bOb:Sh:=⟨[k1,k2,k3,e11],[j1,j2,o27,o14]⟩
def bN7:Sh:=⟨[k1,k2,e8],[j2]⟩
def bQ7:Sh:=⟨[e12],[o10]⟩
def bOg:Sh:=⟨[e17],[o8]⟩
def bPt:Sh:=⟨[k2,k3],[j2,j3]⟩
def cA9:Sh:=⟨[e64],[o23,o24,o1]⟩
def bYe:Sh:=⟨[e5,e1,e4,(3,ag6)],[]⟩
def bYt:Sh:=⟨[e64],[o35,(1,ow8)]⟩
def bYa:Sh:=⟨[e21,(1,vr6)],[]⟩
def bZy:Sh:=⟨[e41,e26],[o9,o17,o21]⟩
def bYi:Sh:=⟨[(0,cAq),e1,e4],[]⟩
def cAn:Sh:=⟨[e18,e28,e15,(3,ag4)],[]⟩
def cA3:Sh:=⟨[e47,e28,e4,e7,(4,ag4)],[]⟩
def bZk:Sh:=⟨[e5,e54,e4,e7,e11],[]⟩
def bUf:Sh:=⟨[e45,(1,bF6),e4],[]⟩
def bTx:Sh:=⟨[e21,(1,bF6),e4],[]⟩
def bSl:Sh:=⟨[e32,e1,e4,e7],[]⟩
def bR4:Sh:=⟨[e2,e22,e4,e7,(4,vr6)],[]⟩
def bSn:Sh:=⟨[e9,(1,bO8)],[o1]⟩
def bTo:Sh:=⟨[e41,(1,cDd),e15],[o9,o17,o21,(3,ow7),(4,ow5)]⟩
def bUq:Sh:=⟨[(0,bY2)],[o6,o7]⟩
def bSa:Sh:=⟨[e5,e1,(2,ag2)],[]⟩
def bU8:Sh:=⟨[e5,e1,e4,e7,e11,(5,ag2)],[]⟩
def bTc:Sh:=⟨[e20,e1,e4,(3,vr6)],[]⟩
def bR6:Sh:=⟨[e6,e1,e15],[o13]⟩
def bUj:Sh:=⟨[e48,e26],[o11,o30]⟩
def bUa:Sh:=⟨[e5,e1,e4,e7,(4,ag2)],[]⟩
def bTd:Sh:=⟨[e9],[o5,o3,o2,o4]⟩
def bUl:Sh:=⟨[e9,e1],[o5,o3,o2,o4]⟩
def bUc:Sh:=⟨[(0,bNy)],[o3,o2,o4,o5]⟩
def bSc:Sh:=⟨[e9,(1,cD3)],[o1,o48,o49,o50]⟩
def bS3:Sh:=⟨[(0,bF2)],[o3,o2,o4,o1]⟩
def bSb:Sh:=⟨[e48],[o11,o30,o1]⟩
def bTe:Sh:=⟨[(0,bHz),(1,bHz)],[]⟩
def bU0:Sh:=⟨[e21,(1,bOe)],[]⟩
def bRw:Sh:=⟨[(0,.one (.var .str))],[]⟩
def bR9:Sh:=⟨[k1,k2,e35,k6],[j2,o10]⟩
def bSg:Sh:=⟨[k2,k3,(37,vr2)],[j2,j3]⟩
def bS0:Sh:=⟨[k0,k2,k3,k4,k8],[j2,o36,o18,o33,o1]⟩
def bT4:Sh:=⟨[k1,k2,k3,e23],[j3]⟩
def bTa:Sh:=⟨[k9,(30,vr2)],[j9]⟩
def bUt:Sh:=⟨[k1,e67,e11],[j1,(5,ow2)]⟩
def bUn:Sh:=⟨[k2,k3,(22,vr2)],[j2,j3]⟩
def bSq:Sh:=⟨[k2,k3,e56,e16],[j2,j3]⟩
def bS2:Sh:=⟨[k2,k3,k5,k6],[j2,j3]⟩
def bS6:Sh:=⟨[k2],[(2,.box [.row 3,.row 7]),(3,aOp),(7,aIx)]⟩
def bRz:Sh:=⟨[k0,k1,k2,e23],[]⟩
def bR3:Sh:=⟨[k6,k7],[j6,(7,ob8),o26]⟩
def bU2:Sh:=⟨[k1,k2,k3,e69],[j3,o31]⟩
def bU3:Sh:=⟨[k2,k3,e61],[j2,j3]⟩
def bSd:Sh:=⟨[e25,k4,k5],[o25,aHl]⟩
def bT5:Sh:=⟨[k2,k4,(18,vr2)],[j4]⟩
def bTv:Sh:=⟨[k0,k3,k4,e8],[dB]⟩
def bUi:Sh:=⟨[k1,k2,(21,vr2)],[j1,j2]⟩
def bSe:Sh:=⟨[k2,k3,e10],[(2,cAz),(3,cC2),bTy,bS9,bSh,aK9,bUv]⟩
def bUy:Sh:=⟨[k4,k5],[j4,(5,cD7),(1112,aE3)]⟩
def bU6:Sh:=⟨[k3,k4,(16,vr2)],[j3,j4]⟩
def bRx:Sh:=⟨[k4,k5],[j4,(5,cDn),aS1,bHk,bGq]⟩
def bTm:Sh:=⟨[k2,k4,(21,vr2)],[j2,aF6]⟩
def bTj:Sh:=⟨[k3,k6,k7,k8,(24,vr2)],[j3,j6,j7,j8,aJp,aHg,aPr]⟩
def bSu:Sh:=⟨[k3,k6,k7,k8,(42,vr2)],[j3,j6,j7,j8,aJp,aHg,aPr]⟩
def bS8:Sh:=⟨[k0,k1,k5,k6,e57],[j0,j1,j2,j5,(7,cDl),(1544,aE3),aQ]⟩
def bU5:Sh:=⟨[k0,k1,k5,e36],[j0,o2,j2,j5,aQ]⟩
def bT3:Sh:=⟨[k0,k1,k5,k10],[j0,o2,j2,j5,aQ]⟩
def bT1:Sh:=⟨[k0,k1,k5,k10,e71],[j0,j1,j2,j5,(11,cDw),(2312,aE3),(2313,ow3),(2314,aFj),aQ]⟩
def bTs:Sh:=⟨[e1,(5,vr9)],[(6,ow5)]⟩
def bSw:Sh:=⟨[k0,k1,k7,(8,bZ7)],[j0,j1,j2,j7,(8,cC9),(1560,ow7),(1561,ow5),aQ]⟩
def bSf:Sh:=⟨[k0,k8,k9,k10,e71,e46],[j0,j1,j2,j8,(11,cDr),bU9,bSr,(2152,ow9),(2153,aEx),aQ]⟩
def bU4:Sh:=⟨[k0,k8,k9,k10,k11,(83,vr2)],[j0,j1,j2,j8,j11,bU9,bSr,bUu,bR1,aQ]⟩
def bSk:Sh:=⟨[],[o3,j1,j2,bUu,bR1,(1000000,cDg)]⟩
def bT8:Sh:=⟨[k0,k1,k7,e72],[j0,j1,j2,j7,(13,cDu),(2904,ow7),(2905,ow5),aQ]⟩
def bT6:Sh:=⟨[],[o15,o12,o16,o28]⟩
def bUe:Sh:=⟨[k4,k5],[j1,j2,j4,j5,(14,ow4),(1000000,cDq)]⟩
def bSv:Sh:=⟨[],[o3,j1,j2,o5]⟩
def bTg:Sh:=⟨[k0,k1,k12,e39],[]⟩
def bR8:Sh:=⟨[k1,(54,vr2)],[j1]⟩
def bR0:Sh:=⟨[e12,k6,k7,e24],[o10]⟩
def bU7:Sh:=⟨[e7,k6,k7,e24],[]⟩
def bT7:Sh:=⟨[e1,(5,.one (.row 1112))],[(1112,ow5)]⟩
def bS7:Sh:=⟨[k0,k1,k7,(8,bZ7),e19],[j0,j1,j2,j7,(8,cD6),aQ]⟩
def bRv:Sh:=⟨[k0,k1,k7,k8,k9,(54,vr2)],[j0,j1,j2,j7,j8,aQ]⟩
def bTu:Sh:=⟨[k0,k1,e71,e46],[j0,j1,j2,(11,cDs),(2584,ow7),(2585,ow5),aQ]⟩
def bTi:Sh:=⟨[k0,k1,k7,k9,(116,vr2)],[j0,j1,j2,j7,aQ]⟩
def bU1:Sh:=⟨[k0,k1,k7,e72],[j0,j1,j2,j7,(13,cDo),(3176,ow7),(3177,ow5),aQ]⟩
def bUg:Sh:=⟨[k2,k3,k4,k5,k9,k10,e17],[j4,j5,xL,xX,o29]⟩
def bUo:Sh:=⟨[k3,k5,e16,k7,k8,k9],[j5,dB]⟩
def bR7:Sh:=⟨[k2,k3,e16],[j2,j3]⟩
def aJt.k:=cn 6 sh9 sh1 aJt
def wW.k:=cn 54 sh9 ⟨[(0,.one (.ptr 0 0))],[(0,ob1)]⟩ wW
def rR.k:=cn 169 aFd bAq fun (a,b,c)=>rR (a,b,c)
def aB.k:=cn 86 aV3 bAq fun (a,b,c,d)=>aB (b,c,d) a
def yD.k:=cn 406 ⟨[e6,e1],[(0,.row 3 1 ti false)]⟩ aFg fun (a,b)=>yD b a
def iQ.k:=cn 320 aZb aFg fun (a,b,c)=>iQ (a,b) c
def wU.k:=cn 221 ⟨[e9,e1,e4,e7],[(1000000,.box [.row 0,.row 1]),o54,o55]⟩ ⟨[],[o54,o55,(1000000,.box [.row 0,.row 1])]⟩ fun (a,b,c,d,e)=>wU (d,e) a b c
def cG.k:=cn 56 aV3 ⟨[e3],[o1]⟩ fun (a,b,c,d)=>cG (b,c,d) a
def aJ.k:=cn 92 bN1 sh1 fun (a,b,c)=>aJ a b c
def dD.k:=cn 78 aZb sh1 fun (a,b,c)=>dD (a,b) c
def sL.k:=cn 177 ⟨[e5,(1,ag6)],[]⟩ sh1 fun (a,b,c,d,e,f,g)=>sL (a,b) (c,d,e,f,g)
def uI.k:=cn 132 aFd cA9 fun (a,b,c)=>uI (a,b,c)
def wC.k:=cn 178 bNt sh1 fun (a,b,c,d,e,f,g)=>wC (a,b,c,d,e) f g
def mK.k:=cn 329 aQv sh2 fun (a,b,c,d)=>mK (a,b) c d
def eF.k:=cn 325 aQv sh2 fun (a,b,c,d)=>eF (a,b) c d
def jF.k:=cn 229 aQv aFg fun (a,b,c,d)=>jF (a,b) c d
def gT.k:=cn 230 aQv sh5 fun (a,b,c,d)=>gT (a,b) c d
def dY.k:=cn 232 aK7 aFg fun (a,b,c)=>dY (a,b,c)
def gD.k:=cn 231 bOw sh1 fun (a,b)=>gD a b
def rB.k:=cn 328 aVt aFg fun (a,b,c,d)=>rB (a,b,c) d
def nE.k:=cn 218 sh2 sh1 nE
def uJ.k:=cn 410 sh5 sh2 fun (a,b)=>uJ a b
def sI.k:=cn 327 bFq sh2 fun (a,b)=>sI a b
def iP.k:=cn 228 aVt sh2 fun (a,b,c,d)=>iP (a,b,c) d
def aJj.k:=cn 448 sh5 sh2 fun (a,b)=>aJj a b
def yQ.k:=cn 420 aQ3 sh2 yQ
def wI.k:=cn 409 bFq sh2 fun (a,b)=>wI a b
def zE.k:=cn 326 bPr sh2 fun (a,b,c,d,e,f,g,h)=>zE a b c (d,e,f,g,h)
def fX.k:=cn 227 bPr bAj fun (a,b,c,d,e,f,g,h)=>fX a b c (d,e,f,g,h)
def kO.k:=cn 139 ⟨[e9,(1,ag1),e4],[o1]⟩ ⟨[(0,bZh)],[o20,o1]⟩ fun (a,b,c,d,e,f)=>kO (d,e,f) (a,b) c
def iS.k:=cn 179 aK7 bQk fun (a,b,c)=>iS (a,b,c)
def yH.k:=cn 138 aZo bQk fun (a,b,c,d,e)=>yH (a,b) (c,d,e)
def gA.k:=cn 94 ⟨[(0,aZv)],[]⟩ aUu gA
def kV.k:=cn 404 bAj sh1 fun (a,b,c,d,e)=>kV (a,b,c,d,e)
def jZ.k:=cn 322 aZo sh1 fun (a,b,c,d,e)=>jZ (a,b) (c,d,e)
def gR.k:=cn 407 bYe sh1 fun (a,b,c,d,e,f,g,h,i)=>gR (a,b) c d (e,f,g,h,i)
def iD.k:=cn 323 aZo sh2 fun (a,b,c,d,e)=>iD (a,b) (c,d,e)
def dP.k:=cn 263 aK7 sh2 fun (a,b,c)=>dP (a,b,c)
def iF.k:=cn 226 aZo sh2 fun (a,b,c,d,e)=>iF (a,b) (c,d,e)
def mU.k:=cn 223 aZo sh1 fun (a,b,c,d,e)=>mU (a,b) (c,d,e)
def mR.k:=cn 224 aK7 sh1 fun (a,b,c)=>mR (a,b,c)
def jV.k:=cn 405 bQm sh1 fun (a,b)=>jV a b
def kY.k:=cn 408 bAg sh1 fun (a,b,c,d,e,f)=>kY (a,b,c) (d,e,f)
def wE.k:=cn 324 ⟨[(0,aZv),e28],[]⟩ sh1 fun (a,b,c,d)=>wE a (b,c,d)
def qI.k:=cn 225 ⟨[e47,e28],[]⟩ sh1 fun (a,b,c,d,e)=>qI (a,b) (c,d,e)
def qS.k:=cn 137 ⟨[e5,e54,(2,ag4)],[]⟩ bYt fun (a,b,c,d,e,f,g)=>qS (a,b) (c,d) (e,f,g)
def xT.k:=cn 176 sh2 sh1 xT
def iZ.k:=cn 91 bI6 sh1 fun (a,b)=>iZ (a,b)
def tJ.k:=cn 93 bI6 ⟨[e64],[o23,o24]⟩ fun (a,b)=>tJ (a,b)
def gF.k:=cn 95 sh2 aWf gF
def sW.k:=cn 16 bQi bPi fun (a,b,c,d,e,f)=>sW (a,b) (c,d) e f
def fS.k:=cn 143 aK7 sh2 fun (a,b,c)=>fS (a,b,c)
def aAf.k:=cn 66 ⟨[e9,e54],[o1]⟩ ⟨[e2,e1],[o1]⟩ fun (a,b,c,d,e)=>aAf (c,d,e) (a,b)
def eJ.k:=cn 58 ⟨[e9,e50],[o1]⟩ bAq fun (a,b,c,d)=>eJ (b,c,d) a
def aCr.k:=cn 67 bN1 aO6 fun (a,b,c)=>aCr a b c
def dO.k:=cn 140 aV3 ⟨[e6],[o22,o1]⟩ fun (a,b,c,d)=>dO (b,c,d) a
def sO.k:=cn 235 ⟨[(0,bHz)],[]⟩ ⟨[e6],[o9]⟩ sO
def rA.k:=cn 345 bGw aZ7 fun (a,b,c,d)=>rA (a,b,c,d)
def jM.k:=cn 257 sh6 aN9 jM
def aAh.k:=cn 236 aKj aQr aAh
def fC.k:=cn 144 aJ6 aO6 fun (a,b,c,d,e,f,g,h,i)=>fC (a,b,c,d,e,f,g,h,i)
def aDr.k:=cn 120 sh5 sh2 fun (a,b)=>aDr a b
def cD.k:=cn 161 bHx sh1 fun (a,b,c)=>cD (a,b,c)
def kG.k:=cn 77 aJ6 sh1 fun (a,b,c,d,e,f,g,h,i)=>kG (a,b,c,d,e,f,g,h,i)
def tS.k:=cn 68 bYa bZy fun (a,b,c,d,e,f,g,h,i,j)=>tS (a,b,c,d,e,f,g,h,i) j
def jL.k:=cn 157 ⟨[e34],[]⟩ aWf fun (a,b,c)=>jL (a,b,c)
def fD.k:=cn 210 sh8 aKe fun (a,b,c,d,e,f,g,h,i,j)=>fD (a,b,c,d,e,f,g,h,i,j)
def wB.k:=cn 158 ⟨[(0,.one (.var (.sl tFy)))],[]⟩ ⟨[e6],[(0,aGz)]⟩ wB
def qQ.k:=cn 159 ⟨[(0,.one (.var (.sl tFl)))],[]⟩ ⟨[e6],[(0,aK3)]⟩ qQ
def uZ.k:=cn 255 bF4 bAo fun (a,b,c,d)=>uZ (a,b,c,d)
def qJ.k:=cn 160 ⟨[(0,cAq)],[]⟩ ⟨[e6],[(0,aKi)]⟩ qJ
def nO.k:=cn 76 aQ4 bPi fun (a,b,c,d,e,f,g,h,i,j,k,l,m)=>nO ((a,b),(c,d),(e,f,g),h,i,j,k,l,m)
def kD.k:=cn 79 bYi sh2 fun (a,b,c)=>kD a b c
def dM.k:=cn 260 ⟨[e47,e1],[]⟩ aUu fun (a,b,c)=>dM (a,b) c
def pW.k:=cn 349 aVt sh2 fun (a,b,c,d)=>pW (a,b,c) d
def dW.k:=cn 402 sh2 sh1 dW
def cI.k:=cn 314 ⟨[e18,e1,e4],[]⟩ aZ7 fun (a,b,c,d,e)=>cI (a,b,c) d e
def lO.k:=cn 350 bN6 aUu fun (a,b,c,d)=>lO (a,b) c d
def nV.k:=cn 351 cAn aN9 fun (a,b,c,d,e,f,g,h,i,j)=>nV (a,b,c) (d,e,f) g (h,i,j)
def gN.k:=cn 262 cA3 aQr fun (a,b,c,d,e,f,g,h,i,j)=>gN (a,b) (c,d,e) f g (h,i,j)
def uS.k:=cn 259 bN6 aQr fun (a,b,c,d)=>uS (a,b) c d
def qW.k:=cn 313 bAg aN9 fun (a,b,c,d,e,f)=>qW (a,b,c) (d,e,f)
def lK.k:=cn 261 bAg aN9 fun (a,b,c,d,e,f)=>lK (a,b,c) (d,e,f)
def nC.k:=cn 164 bQi aQr fun (a,b,c,d,e,f)=>nC (a,b) (c,d) e f
def vH.k:=cn 449 bGw aFg fun (a,b,c,d)=>vH (a,b,c,d)
def dV.k:=cn 391 aRq sh2 fun (a,b,c,d,e)=>dV (a,b,c,d) e
def fL.k:=cn 387 aRq sh2 fun (a,b,c,d,e)=>fL (a,b,c,d) e
def vI.k:=cn 421 bHf sh1 fun (a,b,c,d,e,f)=>vI (a,b) (c,d,e,f)
def xY.k:=cn 422 sh2 sh2 xY
def lN.k:=cn 352 aV9 sh1 fun (a,b,c)=>lN (a,b) c
def fK.k:=cn 310 sh6 bQz fK
def gS.k:=cn 353 sh6 aFg gS
def lU.k:=cn 264 aV9 sh1 fun (a,b,c)=>lU (a,b) c
def yS.k:=cn 434 sh5 sh2 fun (a,b)=>yS a b
def iX.k:=cn 381 aRq sh2 fun (a,b,c,d,e)=>iX (a,b,c,d) e
def aAl.k:=cn 423 aRq sh2 fun (a,b,c,d,e)=>aAl (a,b,c,d) e
def pV.k:=cn 354 bHf sh1 fun (a,b,c,d,e,f)=>pV (a,b) (c,d,e,f)
def pQ.k:=cn 265 aV9 sh1 fun (a,b,c)=>pQ (a,b) c
def nZ.k:=cn 266 ⟨[e37,e1],[]⟩ sh1 fun (a,b,c,d,e,f)=>nZ (a,b,c,d,e) f
def qO.k:=cn 165 ⟨[e5,e22,e4],[]⟩ sh1 fun (a,b,c,d)=>qO (a,b) c d
def sR.k:=cn 318 bQ1 sh1 fun (a,b,c,d,e,f,g,h)=>sR (a,b,c,d) (e,f,g,h)
def lM.k:=cn 219 bBw sh1 fun (a,b)=>lM a b
def xV.k:=cn 166 ⟨[e38,e22],[]⟩ sh1 fun (a,b)=>xV a b
def iW.k:=cn 81 bZk aKj fun (a,b,c,d,e,f,g)=>iW (a,b) (c,d) e f g
def nX.k:=cn 346 sh6 sh2 nX
def lV.k:=cn 347 sh6 sh2 lV
def qF.k:=cn 348 sh6 sh2 qF
def tU.k:=cn 258 bBw sh1 fun (a,b)=>tU a b
def vQ.k:=cn 163 aKj aKj vQ
def hP.k:=cn 343 ⟨[e45,e1],[]⟩ bHl fun (a,b)=>hP a b
def tL.k:=cn 344 ⟨[e13,e66],[]⟩ sh1 fun (a,b,c,d)=>tL a (b,c,d)
def xW.k:=cn 256 ⟨[e45,e22,e4],[]⟩ sh1 fun (a,b,c)=>xW a b c
def kJ.k:=cn 162 bUf aQr fun (a,b,c)=>kJ a b c
def zK.k:=cn 141 sh5 sh2 fun (a,b)=>zK a b
def qG.k:=cn 80 bTx ⟨[(0,.agg [.var ti,.var ti,.var ti,.var ti,.row 0,.var (.sl tPt),.var ti,.var ti,.row 1])],[o9,(1,aFj)]⟩ fun (a,b,c,d,e,f,g,h,i,j,k)=>qG (a,b,c,d,e,f,g,h,i) j k
def uW.k:=cn 82 sh5 bAo fun (a,b)=>uW a b
def aAs.k:=cn 11 ⟨[e31,(1,ag5)],[]⟩ ⟨[e58,e26],[o23,o24,o37,o38,o39,o40,o25,o41,(8,ow1),o42]⟩ fun (a,b,c,d,e,f,g,h,i,j,k,l,m,n,o,p,q,r,s,t,u,v)=>aAs ((a,b),(c,d),(e,f,g),h,i,j,k,l,m) (n,o,p,q,r,s,t,u,v)
def rF.k:=cn 233 sh6 bQz rF
def oE.k:=cn 275 ⟨[e32,(1,ag6)],[]⟩ bGe fun (a,b,c,d,e,f)=>oE a (b,c,d,e,f)
def fA.k:=cn 274 bAj sh1 fun (a,b,c,d,e)=>fA (a,b,c,d,e)
def aBm.k:=cn 277 ⟨[e37,e1,e4,e7],[]⟩ sh1 fun (a,b,c,d,e,f,g,h)=>aBm (a,b,c,d,e) f g h
def gB.k:=cn 276 bSl sh2 fun (a,b,c,d)=>gB a b c d
def aBi.k:=cn 234 ⟨[e32,(1,ag6),e4,e7],[]⟩ ⟨[e6,e26],[o11]⟩ fun (a,b,c,d,e,f,g,h)=>aBi a (b,c,d,e,f) g h
def dN.k:=cn 142 ⟨[e32,e1,(2,ag3),e7,e11,e8,e16],[]⟩ ⟨[e6,e26],[o11]⟩ fun (a,b,c,d,e,f,g)=>dN a b c d e f g
def aCs.k:=cn 65 aFd ⟨[e58],[o23,o24,o37,o38,o39,o40,o25,o41,(8,ow1),o42,o1]⟩ fun (a,b,c)=>aCs (a,b,c)
def vA.k:=cn 213 aFd ⟨[e5,(1,bY0)],[o6,o1]⟩ fun (a,b,c)=>vA (a,b,c)
def vN.k:=cn 299 sh6 sh5 vN
def cT.k:=cn 202 bR4 aKe fun (a,b,c,d,e)=>cT a b c d e
def vD.k:=cn 124 aFd ⟨[e5,(1,ag9)],[o6,o7,o1]⟩ fun (a,b,c)=>vD (a,b,c)
def lY.k:=cn 301 aFd bAq fun (a,b,c)=>lY (a,b,c)
def aCa.k:=cn 382 aFd ⟨[(0,.agg [.any,.any]),e22],[o1]⟩ fun (a,b,c)=>aCa (a,b,c)
def yV.k:=cn 300 aFd ⟨[e5,(1,.agg [.var ti,.var ti,.var ti,.var (.sl tPp),.var ti,.var ti,.var ti,.var ti,.var ti,.row 0])],[o22,o1]⟩ fun (a,b,c)=>yV (a,b,c)
def vS.k:=cn 317 aK7 sh1 fun (a,b,c)=>vS (a,b,c)
def nQ.k:=cn 217 sh6 sh1 nQ
def jU.k:=cn 126 sh8 sh1 fun (a,b,c,d,e,f,g,h,i,j)=>jU (a,b,c,d,e,f,g,h,i,j)
def pM.k:=cn 127 ⟨[e31,e1,e4],[]⟩ sh1 fun (a,b,c,d,e,f,g,h,i,j,k,l,m,n,o)=>pM ((a,b),(c,d),(e,f,g),h,i,j,k,l,m) n o
def nY.k:=cn 188 bPs sh1 fun (a,b)=>nY a b
def mZ.k:=cn 128 bQ3 sh1 fun (a,b,c,d,e,f,g,h,i,j,k,l,m,n,o,p,q,r,s,t)=>mZ (a,b,c,d,e,f,g,h,i,j) (k,l,m,n,o,p,q,r,s,t)
def kQ.k:=cn 46 bIs sh1 fun (a,b,c,d,e,f,g,h,i,j,k,l,m,n,o,p,q,r,s,t,u,v,w,x,y,z,A,B)=>kQ ((a,b),(c,d),(e,f,g),h,i,j,k,l,m) (n,o,p,(q,r,(s,t,u,v,w,x,y,z,A,B)))
def yA.k:=cn 203 bSn ⟨[(0,bYp)],[o22,o7,o1]⟩ fun (a,b,c,d,e,f,g,h,i,j,k,l,m,n,o,p)=>yA (n,o,p) ((a,b),(c,d),(e,f,g),h,i,j,k,l,m)
def tI.k:=cn 121 bSn ⟨[(0,bNw)],[o22,o7,o1]⟩ fun (a,b,c,d,e,f,g,h,i,j,k,l,m,n,o,p)=>tI (n,o,p) ((a,b),(c,d),(e,f,g),h,i,j,k,l,m)
def gJ.k:=cn 383 ⟨[e32,e1],[]⟩ bGe fun (a,b)=>gJ a b
def yY.k:=cn 302 bHc aWf fun (a,b,c,d)=>yY (a,b,c) d
def fF.k:=cn 118 aJ6 aVm fun (a,b,c,d,e,f,g,h,i)=>fF (a,b,c,d,e,f,g,h,i)
def vU.k:=cn 384 aJ6 aO6 fun (a,b,c,d,e,f,g,h,i)=>vU (a,b,c,d,e,f,g,h,i)
def yM.k:=cn 303 aJ6 bTo fun (a,b,c,d,e,f,g,h,i)=>yM (a,b,c,d,e,f,g,h,i)
def rE.k:=cn 209 aU9 aI4 fun (a,b,c,d,e,f,g,h,i,j,k,l,m,n,o,p,q,r,s,t,u,v,w,x,y)=>rE ((m,n),(o,p),(q,r,s),t,u,w,x,y,v) a b (c,d,e,f,g,h,i,j,k,l)
def rY.k:=cn 438 sh2 sh1 rY
def aBk.k:=cn 439 sh2 sh1 aBk
def tF.k:=cn 394 sh5 sh2 fun (a,b)=>tF a b
def fJ.k:=cn 305 ⟨[e5,e50,e4],[]⟩ sh2 fun (a,b,c,d)=>fJ (a,b) c d
def eM.k:=cn 385 sh8 sh2 fun (a,b,c,d,e,f,g,h,i,j)=>eM (a,b,c,d,e,f,g,h,i,j)
def vY.k:=cn 386 ⟨[e2,e29],[]⟩ bUq fun (a,b,c,d,e,f,g,h,i,j,k)=>vY a (b,c,d,e,f,g,h,i,j,k)
def jN.k:=cn 435 ⟨[e5,e29],[]⟩ aVm fun (a,b,c,d,e,f,g,h,i,j,k,l)=>jN (a,b) (c,d,e,f,g,h,i,j,k,l)
def kL.k:=cn 436 bQe sh1 fun (a,b,c,d,e,f,g,h,i,j,k)=>kL (a,b,c,d,e,f,g,h,i,j) k
def qE.k:=cn 388 bSa ⟨[e27,e1],[o6,o7]⟩ fun (a,b,c,d,e,f,g,h,i,j,k,l,m)=>qE (a,b) c (d,e,f,g,h,i,j,k,l,m)
def oG.k:=cn 390 sh8 sh1 fun (a,b,c,d,e,f,g,h,i,j)=>oG (a,b,c,d,e,f,g,h,i,j)
def iK.k:=cn 389 sh8 aKe fun (a,b,c,d,e,f,g,h,i,j)=>iK (a,b,c,d,e,f,g,h,i,j)
def mE.k:=cn 437 sh5 sh1 fun (a,b)=>mE a b
def qV.k:=cn 392 ⟨[e5,e66],[]⟩ sh1 fun (a,b,c,d,e)=>qV (a,b) (c,d,e)
def xA.k:=cn 393 sh5 sh1 fun (a,b)=>xA a b
def vJ.k:=cn 304 bU8 bUq fun (a,b,c,d,e,f,g,h,i,j,k,l,m,n,o,p)=>vJ (a,b) c d e f (g,h,i,j,k,l,m,n,o,p)
def yW.k:=cn 440 aVl sh1 fun (a,b,c,d,e,f,g,h,i,j,k,l,m,n)=>yW (a,b,c,d) (e,f,g,h,i,j,k,l,m,n)
def pT.k:=cn 395 aVl bAo fun (a,b,c,d,e,f,g,h,i,j,k,l,m,n)=>pT (a,b,c,d) (e,f,g,h,i,j,k,l,m,n)
def oN.k:=cn 380 sh2 sh2 oN
def qX.k:=cn 298 bGw aZ7 fun (a,b,c,d)=>qX (a,b,c,d)
def mM.k:=cn 201 sh6 aN9 mM
def aEc.k:=cn 441 bTc aKe fun (a,b,c,d,e,f,g,h,i,j,k,l,m)=>aEc (a,b,c,d,e,f,g,h,i,j) k l m
def xM.k:=cn 396 aVl aVm fun (a,b,c,d,e,f,g,h,i,j,k,l,m,n)=>xM (a,b,c,d) (e,f,g,h,i,j,k,l,m,n)
def rZ.k:=cn 397 ⟨[e21,e29],[]⟩ aO6 fun (a,b,c,d,e,f,g,h,i,j,k,l,m,n,o,p,q,r,s)=>rZ (a,b,c,d,e,f,g,h,i) (j,k,l,m,n,o,p,q,r,s)
def sZ.k:=cn 458 bBz ⟨[e2,e1,e15],[]⟩ fun (a,b)=>sZ a b
def sQ.k:=cn 454 ⟨[e14,e1,e4],[]⟩ bR6 fun (a,b,c)=>sQ a b c
def jO.k:=cn 443 sh9 ⟨[e65,e26],[]⟩ jO
def nI.k:=cn 444 ⟨[e45,e66],[]⟩ ⟨[e45],[]⟩ fun (a,b,c,d)=>nI a (b,c,d)
def jP.k:=cn 401 ⟨[e21,e29,e4],[]⟩ ⟨[(0,.agg [.var ti,.var ti,.var ti,.var ti,.row 0,.row 1,.var ti,.var ti,.var (.sl tRv)])],[o9,o17]⟩ fun (a,b,c,d,e,f,g,h,i,j,k,l,m,n,o,p,q,r,s,t)=>jP (a,b,c,d,e,f,g,h,i) (j,k,l,m,n,o,p,q,r,s) t
def pC.k:=cn 312 bIr aI4 fun (a,b,c,d,e,f,g,h,i,j,k,l,m,n,o,p,q,r,s,t,u,v,w,x)=>pC ((l,m),(n,o),(p,q,r),s,t,v,w,x,u) a (b,c,d,e,f,g,h,i,j,k)
def vO.k:=cn 306 bIr aI4 fun (a,b,c,d,e,f,g,h,i,j,k,l,m,n,o,p,q,r,s,t,u,v,w,x)=>vO ((l,m),(n,o),(p,q,r),s,t,v,w,x,u) a (b,c,d,e,f,g,h,i,j,k)
def oS.k:=cn 187 ⟨[(0,.one (.var (.sl tUs))),e1,e4,e7],[]⟩ sh2 fun (a,b,c,d)=>oS a b c d
def rW.k:=cn 398 bIq sh2 fun (a,b,c,d,e,f)=>rW (a,b,c) d e f
def fW.k:=cn 185 bHn sh2 fun (a,b,c,d,e)=>fW a b c d e
def xK.k:=cn 399 bIq aWf fun (a,b,c,d,e,f)=>xK (a,b,c) d e f
def sN.k:=cn 186 bHn sh2 fun (a,b,c,d,e)=>sN a b c d e
def mY.k:=cn 307 bP1 bUj fun (a,b,c,d,e,f,g)=>mY (a,b,c) d e f g
def vM.k:=cn 309 sh8 sh2 fun (a,b,c,d,e,f,g,h,i,j)=>vM (a,b,c,d,e,f,g,h,i,j)
def iR.k:=cn 311 sh8 bPd fun (a,b,c,d,e,f,g,h,i,j)=>iR (a,b,c,d,e,f,g,h,i,j)
def pE.k:=cn 453 bBz aZg fun (a,b)=>pE a b
def tM.k:=cn 442 aQ3 aZg tM
def jE.k:=cn 400 bHx aZg fun (a,b,c)=>jE (a,b,c)
def gQ.k:=cn 308 bUa aKe fun (a,b,c,d,e,f,g,h,i,j,k,l,m,n,o)=>gQ (a,b) c d e (f,g,h,i,j,k,l,m,n,o)
def iG.k:=cn 209 aU9 aI4 fun (a,b,c,d,e,f,g,h,i,j,k,l,m,n,o,p,q,r,s,t,u,v,w,x,y)=>iG ((m,n),(o,p),(q,r,s),t,u,w,x,y,v) a b (c,d,e,f,g,h,i,j,k,l)
def kI.k:=cn 306 bIr aI4 fun (a,b,c,d,e,f,g,h,i,j,k,l,m,n,o,p,q,r,s,t,u,v,w,x)=>kI ((l,m),(n,o),(p,q,r),s,t,v,w,x,u) a (b,c,d,e,f,g,h,i,j,k)
def eN.k:=cn 209 aU9 aI4 fun (a,b,c,d,e,f,g,h,i,j,k,l,m,n,o,p,q,r,s,t,u,v,w,x,y)=>eN ((m,n),(o,p),(q,r,s),t,u,w,x,y,v) a b (c,d,e,f,g,h,i,j,k,l)
def xZ.k:=cn 207 bTd aUv fun (a,b,c,d,e,f,g,h,i,j,k,l,m)=>xZ ((a,b),(c,d),(e,f,g),h,i,k,l,m,j)
def xE.k:=cn 208 bUl bUc fun (a,b,c,d,e,f,g,h,i,j,k,l,m,n)=>xE ((b,c),(d,e),(f,g,h),i,j,l,m,n,k) a
def aAj.k:=cn 211 ⟨[e9,e1,e15],[o5,o3,o2,o4]⟩ aUv fun (a,b,c,d,e,f,g,h,i,j,k,l,m,n,o)=>aAj ((c,d),(e,f),(g,h,i),j,k,m,n,o,l) a b
def aAp.k:=cn 212 bQq aUv fun (a,b,c,d,e,f,g,h,i,j,k,l,m,n,o,p,q,r,s,t,u,v,w,x,y,z,A,B)=>aAp ((p,q),(r,s),(t,u,v),w,x,z,A,B,y) (a,b,c,(d,e,(f,g,h,i,j,k,l,m,n,o)))
def wT.k:=cn 123 bQq aUv fun (a,b,c,d,e,f,g,h,i,j,k,l,m,n,o,p,q,r,s,t,u,v,w,x,y,z,A,B)=>wT ((p,q),(r,s),(t,u,v),w,x,z,A,B,y) (a,b,c,(d,e,(f,g,h,i,j,k,l,m,n,o)))
def mF.k:=cn 203 bSc ⟨[(0,bYp)],[o22,o7,o1,o48,o49,o50]⟩ fun (a,b,c,d,e,f,g,h,i,j,k,l,m,n,o,p)=>mF (k,l,m) ((a,b),(c,d),(e,f,g),h,i,n,o,p,j)
def pJ.k:=cn 121 bSc ⟨[(0,bNw)],[o22,o7,o1,o48,o49,o50]⟩ fun (a,b,c,d,e,f,g,h,i,j,k,l,m,n,o,p)=>pJ (k,l,m) ((a,b),(c,d),(e,f,g),h,i,n,o,p,j)
def aB8.k:=cn 168 aV3 ⟨[e58,(1,.one (.var (.sl dC))),(2,.agg [.var (.sl tAS),.var (.sl tLk),.var (.sl tSg),.var (.sl tSg),.var ti,.var (.sl tRs),.var (.sl tUs),.var ti,.var (.sl ti),.row 10,.row 11,.row 12,.var ti])],[o23,o24,o37,o38,o39,o40,o25,o41,(8,ow1),o42,(10,ow4),(11,ow1),(12,ow6),o1]⟩ fun (a,b,c,d)=>aB8 (b,c,d) a
def qH.k:=cn 84 aV3 bS3 fun (a,b,c,d)=>qH (b,c,d) a
def aEb.k:=cn 57 aFd cA9 fun (a,b,c)=>aEb (a,b,c)
def aB9.k:=cn 59 aFd bAq fun (a,b,c)=>aB9 (a,b,c)
def sK.k:=cn 424 aFd ⟨[e37],[o1]⟩ fun (a,b,c)=>sK (a,b,c)
def aAg.k:=cn 355 aFd bSb fun (a,b,c)=>aAg (a,b,c)
def aCi.k:=cn 356 aFd ⟨[e37],[o1]⟩ fun (a,b,c)=>aCi (a,b,c)
def aB7.k:=cn 267 aFd bSb fun (a,b,c)=>aB7 (a,b,c)
def aCc.k:=cn 167 aV3 bS3 fun (a,b,c,d)=>aCc (b,c,d) a
def qY.k:=cn 83 bBz ⟨[(0,.one (.ptr 0 0)),(1,.agg [.var (.sl tAS),.var (.sl tLk),.var (.sl tSg),.var (.sl tSg),.var ti,.var (.sl tRs),.var (.sl tUs),.var ti,.var (.sl ti),.row 1,.row 2,.row 3,.var ti])],[(0,ob1),(1,ow4),(2,ow1),(3,ow6)]⟩ fun (a,b)=>qY a b
def lE.k:=cn 39 sh9 ⟨[e31,(1,bNw)],[o22,o7]⟩ lE
def bJ.k:=cn 61 bN1 sh1 fun (a,b,c)=>bJ a b c
def yF.k:=cn 133 sh2 sh1 yF
def kX.k:=cn 71 aZb sh1 fun (a,b,c)=>kX (a,b) c
def aCb.k:=cn 134 ⟨[e5,(1,ag6)],[]⟩ sh1 fun (a,b,c,d,e,f,g)=>aCb (a,b) (c,d,e,f,g)
def gI.k:=cn 135 bNt sh1 fun (a,b,c,d,e,f,g)=>gI (a,b,c,d,e) f g
def nF.k:=cn 60 bI6 sh1 fun (a,b)=>nF (a,b)
def cE.k:=cn 150 bHx sh1 fun (a,b,c)=>cE (a,b,c)
def jD.k:=cn 269 bAj sh1 fun (a,b,c,d,e)=>jD (a,b,c,d,e)
def eQ.k:=cn 271 bNt sh1 fun (a,b,c,d,e,f,g)=>eQ (a,b,c,d,e) f g
def kC.k:=cn 270 bSl sh2 fun (a,b,c,d)=>kC a b c d
def iA.k:=cn 180 ⟨[e32,e1,e4],[]⟩ sh1 fun (a,b,c)=>iA a b c
def rC.k:=cn 181 bIq sh2 fun (a,b,c,d,e,f)=>rC (a,b,c) d e f
def aHc.k:=cn 119 sh5 sh2 fun (a,b)=>aHc a b
def yB.k:=cn 272 bHn sh2 fun (a,b,c,d,e)=>yB a b c d e
def kK.k:=cn 273 bHn sh2 fun (a,b,c,d,e)=>kK a b c d e
def zD.k:=cn 182 bP1 sh2 fun (a,b,c,d,e,f,g)=>zD (a,b,c) d e f g
def mA.k:=cn 96 bHc sh1 fun (a,b,c,d)=>mA (a,b,c) d
def oL.k:=cn 70 aJ6 sh1 fun (a,b,c,d,e,f,g,h,i)=>oL (a,b,c,d,e,f,g,h,i)
def sV.k:=cn 97 bF4 sh1 fun (a,b,c,d)=>sV (a,b,c,d)
def oD.k:=cn 192 bPs sh1 fun (a,b)=>oD a b
def nM.k:=cn 183 bTe sh1 fun (a,b)=>nM a b
def mC.k:=cn 98 bU0 sh1 fun (a,b,c,d,e,f,g,h,i,j,k,l,m)=>mC (a,b,c,d,e,f,g,h,i) (j,k,l,m)
def pF.k:=cn 17 aQ4 sh1 fun (a,b,c,d,e,f,g,h,i,j,k,l,m)=>pF ((a,b),(c,d),(e,f,g),h,i,j,k,l,m)
def pB.k:=cn 62 bI6 ⟨[e64],[o23,o24]⟩ fun (a,b)=>pB (a,b)
def mT.k:=cn 321 aZ2 bRt mT
def fN.k:=cn 222 aK7 bQk fun (a,b,c)=>fN (a,b,c)
def mW.k:=cn 136 ⟨[(0,aZv)],[]⟩ aUu mW
def rU.k:=cn 63 ⟨[e47],[]⟩ bYt fun (a,b)=>rU (a,b)
def fG.k:=cn 237 ⟨[e32],[]⟩ bGe fG
def fM.k:=cn 145 ⟨[e34],[]⟩ aWf fun (a,b,c)=>fM (a,b,c)
def sA.k:=cn 146 aQ3 aFg sA
def eV.k:=cn 238 sh6 aN9 eV
def eO.k:=cn 239 sh9 aZg eO
def eD.k:=cn 147 sh8 aKe fun (a,b,c,d,e,f,g,h,i,j)=>eD (a,b,c,d,e,f,g,h,i,j)
def kF.k:=cn 240 ⟨[(0,bHz)],[]⟩ ⟨[e6],[o9]⟩ kF
def vV.k:=cn 241 aKj aQr vV
def eU.k:=cn 242 ⟨[e45],[]⟩ bHl eU
def eY.k:=cn 148 aJ6 aO6 fun (a,b,c,d,e,f,g,h,i)=>eY (a,b,c,d,e,f,g,h,i)
def pI.k:=cn 149 bF4 bAo fun (a,b,c,d)=>pI (a,b,c,d)
def jY.k:=cn 69 aQ4 bPi fun (a,b,c,d,e,f,g,h,i,j,k,l,m)=>jY ((a,b),(c,d),(e,f,g),h,i,j,k,l,m)
def gM.k:=cn 376 ⟨[e32,e1],[]⟩ bGe fun (a,b)=>gM a b
def yX.k:=cn 289 bHc aWf fun (a,b,c,d)=>yX (a,b,c) d
def dU.k:=cn 336 sh2 sh1 dU
def gP.k:=cn 363 aRq sh2 fun (a,b,c,d,e)=>gP (a,b,c,d) e
def gE.k:=cn 358 aRq sh2 fun (a,b,c,d,e)=>gE (a,b,c,d) e
def mJ.k:=cn 375 sh6 bQz mJ
def vP.k:=cn 296 sh6 sh5 vP
def mG.k:=cn 199 bR4 aKe fun (a,b,c,d,e)=>mG a b c d e
def fE.k:=cn 117 aJ6 aVm fun (a,b,c,d,e,f,g,h,i)=>fE (a,b,c,d,e,f,g,h,i)
def rX.k:=cn 377 aJ6 sh2 fun (a,b,c,d,e,f,g,h,i)=>rX (a,b,c,d,e,f,g,h,i)
def xP.k:=cn 290 aJ6 bTo fun (a,b,c,d,e,f,g,h,i)=>xP (a,b,c,d,e,f,g,h,i)
def nS.k:=cn 195 aU9 aI4 fun (a,b,c,d,e,f,g,h,i,j,k,l,m,n,o,p,q,r,s,t,u,v,w,x,y)=>nS ((m,n),(o,p),(q,r,s),t,u,w,x,y,v) a b (c,d,e,f,g,h,i,j,k,l)
def oC.k:=cn 205 bOw aQ3 fun (a,b)=>oC a b
def tD.k:=cn 366 aZb aQ3 fun (a,b,c)=>tD (a,b) c
def mH.k:=cn 367 aQv sh2 fun (a,b,c,d)=>mH (a,b) c d
def oT.k:=cn 204 bOw sh1 fun (a,b)=>oT a b
def sF.k:=cn 429 sh2 sh1 sF
def tN.k:=cn 368 sh5 sh2 fun (a,b)=>tN a b
def fB.k:=cn 281 ⟨[e5,e50,e4],[]⟩ sh2 fun (a,b,c,d)=>fB (a,b) c d
def mP.k:=cn 357 ⟨[e2,(1,.one (.ptr 1000001 0))],[(1000001,ob7)]⟩ ⟨[(0,bY2)],[o6,o7,(1000001,ob7)]⟩ fun (a,b,c,d,e,f,g,h,i,j,k)=>mP a (b,c,d,e,f,g,h,i,j,k)
def dT.k:=cn 216 sh2 sh1 dT
def oQ.k:=cn 403 bAj sh1 fun (a,b,c,d,e)=>oQ (a,b,c,d,e)
def nH.k:=cn 315 aZ2 sh1 nH
def nL.k:=cn 214 sh6 sh1 nL
def zB.k:=cn 316 sh8 sh1 fun (a,b,c,d,e,f,g,h,i,j)=>zB (a,b,c,d,e,f,g,h,i,j)
def eL.k:=cn 215 sh8 sh2 fun (a,b,c,d,e,f,g,h,i,j)=>eL (a,b,c,d,e,f,g,h,i,j)
def kA.k:=cn 125 sh8 sh1 fun (a,b,c,d,e,f,g,h,i,j)=>kA (a,b,c,d,e,f,g,h,i,j)
def aB5.k:=cn 446 ⟨[e5,(1,bQs)],[]⟩ sh1 fun (a,b,c)=>aB5 (a,b) c
def pK.k:=cn 295 aQv sh5 fun (a,b,c,d)=>pK (a,b) c d
def vB.k:=cn 416 bHf sh1 fun (a,b,c,d,e,f)=>vB (a,b) (c,d,e,f)
def yK.k:=cn 417 sh2 sh2 yK
def lG.k:=cn 340 aV9 sh1 fun (a,b,c)=>lG (a,b) c
def aA8.k:=cn 418 ⟨[(0,.one (.var (.sl aBz)))],[]⟩ aFg aA8
def gU.k:=cn 341 sh6 aFg gU
def lJ.k:=cn 252 aV9 sh1 fun (a,b,c)=>lJ (a,b) c
def uF.k:=cn 379 sh5 sh2 fun (a,b)=>uF a b
def yU.k:=cn 378 sh5 sh2 fun (a,b)=>yU a b
def aJu.k:=cn 445 sh5 sh2 fun (a,b)=>aJu a b
def yR.k:=cn 412 aQ3 sh2 yR
def wG.k:=cn 455 bFq sh2 fun (a,b)=>wG a b
def aB6.k:=cn 447 bPr sh2 fun (a,b,c,d,e,f,g,h)=>aB6 a b c (d,e,f,g,h)
def nW.k:=cn 419 bYe sh1 fun (a,b,c,d,e,f,g,h,i)=>nW (a,b) c d (e,f,g,h,i)
def jK.k:=cn 425 ⟨[e5,e29],[]⟩ aVm fun (a,b,c,d,e,f,g,h,i,j,k,l)=>jK (a,b) (c,d,e,f,g,h,i,j,k,l)
def wA.k:=cn 450 ⟨[e37,e1],[]⟩ sh1 fun (a,b,c,d,e,f)=>wA (a,b,c,d,e) f
def iB.k:=cn 426 bQe sh1 fun (a,b,c,d,e,f,g,h,i,j,k)=>iB (a,b,c,d,e,f,g,h,i,j) k
def mX.k:=cn 359 bSa bQe fun (a,b,c,d,e,f,g,h,i,j,k,l,m)=>mX (a,b) c (d,e,f,g,h,i,j,k,l,m)
def iU.k:=cn 360 sh8 sh1 fun (a,b,c,d,e,f,g,h,i,j)=>iU (a,b,c,d,e,f,g,h,i,j)
def mL.k:=cn 361 sh8 sh1 fun (a,b,c,d,e,f,g,h,i,j)=>mL (a,b,c,d,e,f,g,h,i,j)
def oK.k:=cn 362 sh8 aKe fun (a,b,c,d,e,f,g,h,i,j)=>oK (a,b,c,d,e,f,g,h,i,j)
def kU.k:=cn 428 aQv sh2 fun (a,b,c,d)=>kU (a,b) c d
def mD.k:=cn 427 sh5 sh1 fun (a,b)=>mD a b
def rG.k:=cn 364 ⟨[e5,e66],[]⟩ sh1 fun (a,b,c,d,e)=>rG (a,b) (c,d,e)
def xB.k:=cn 365 sh5 sh1 fun (a,b)=>xB a b
def yP.k:=cn 280 bU8 ⟨[(0,bNy),e1],[]⟩ fun (a,b,c,d,e,f,g,h,i,j,k,l,m,n,o,p)=>yP (a,b) c d e f (g,h,i,j,k,l,m,n,o,p)
def vL.k:=cn 430 bIq sh2 fun (a,b,c,d,e,f)=>vL (a,b,c) d e f
def yG.k:=cn 369 bP1 bUj fun (a,b,c,d,e,f,g)=>yG (a,b,c) d e f g
def mQ.k:=cn 282 ⟨[e9,e1,(2,bNy)],[o5,o3,o2,o4]⟩ aI4 fun (a,b,c,d,e,f,g,h,i,j,k,l,m,n,o,p,q,r,s,t,u,v,w,x,y,z)=>mQ ((n,o),(p,q),(r,s,t),u,v,x,y,z,w) a (b,c,(d,e,f,g,h,i,j,k,l,m))
def rV.k:=cn 72 bYi sh2 fun (a,b,c)=>rV a b c
def vG.k:=cn 370 aVl sh1 fun (a,b,c,d,e,f,g,h,i,j,k,l,m,n)=>vG (a,b,c,d) (e,f,g,h,i,j,k,l,m,n)
def pP.k:=cn 283 aVl bAo fun (a,b,c,d,e,f,g,h,i,j,k,l,m,n)=>pP (a,b,c,d) (e,f,g,h,i,j,k,l,m,n)
def qZ.k:=cn 291 sh2 sh2 qZ
def kE.k:=cn 292 aRq sh2 fun (a,b,c,d,e)=>kE (a,b,c,d) e
def kB.k:=cn 293 aZ2 bRt kB
def rD.k:=cn 197 bGw aZ7 fun (a,b,c,d)=>rD (a,b,c,d)
def mI.k:=cn 114 sh6 aN9 mI
def aEa.k:=cn 371 bTc aKe fun (a,b,c,d,e,f,g,h,i,j,k,l,m)=>aEa (a,b,c,d,e,f,g,h,i,j) k l m
def yC.k:=cn 284 aVl aVm fun (a,b,c,d,e,f,g,h,i,j,k,l,m,n)=>yC (a,b,c,d) (e,f,g,h,i,j,k,l,m,n)
def vK.k:=cn 372 ⟨[e21,e29],[]⟩ aO6 fun (a,b,c,d,e,f,g,h,i,j,k,l,m,n,o,p,q,r,s)=>vK (a,b,c,d,e,f,g,h,i) (j,k,l,m,n,o,p,q,r,s)
def tR.k:=cn 456 bBz ⟨[e2,e1,e15],[]⟩ fun (a,b)=>tR a b
def tA.k:=cn 451 ⟨[e14,e1,e4],[]⟩ bR6 fun (a,b,c)=>tA a b c
def jI.k:=cn 431 sh9 ⟨[e65,e26],[]⟩ jI
def tC.k:=cn 331 ⟨[e13,e66],[]⟩ sh1 fun (a,b,c,d)=>tC a (b,c,d)
def nJ.k:=cn 432 ⟨[e45,e66],[]⟩ bHl fun (a,b,c,d)=>nJ a (b,c,d)
def jG.k:=cn 373 ⟨[e21,e29,e4],[]⟩ aO6 fun (a,b,c,d,e,f,g,h,i,j,k,l,m,n,o,p,q,r,s,t)=>jG (a,b,c,d,e,f,g,h,i) (j,k,l,m,n,o,p,q,r,s) t
def iO.k:=cn 285 bIr aI4 fun (a,b,c,d,e,f,g,h,i,j,k,l,m,n,o,p,q,r,s,t,u,v,w,x)=>iO ((l,m),(n,o),(p,q,r),s,t,v,w,x,u) a (b,c,d,e,f,g,h,i,j,k)
def aHb.k:=cn 153 sh5 sh2 fun (a,b)=>aHb a b
def iL.k:=cn 288 sh8 bPd fun (a,b,c,d,e,f,g,h,i,j)=>iL (a,b,c,d,e,f,g,h,i,j)
def oU.k:=cn 457 bBz aZg fun (a,b)=>oU a b
def tT.k:=cn 452 ⟨[e14,e50],[]⟩ sh9 fun (a,b)=>tT a b
def tQ.k:=cn 433 aQ3 sh9 tQ
def jH.k:=cn 374 bHx sh9 fun (a,b,c)=>jH (a,b,c)
def jT.k:=cn 286 bUa aKe fun (a,b,c,d,e,f,g,h,i,j,k,l,m,n,o)=>jT (a,b) c d e (f,g,h,i,j,k,l,m,n,o)
def jW.k:=cn 287 sh6 sh2 jW
def eP.k:=cn 195 aU9 aI4 fun (a,b,c,d,e,f,g,h,i,j,k,l,m,n,o,p,q,r,s,t,u,v,w,x,y)=>eP ((m,n),(o,p),(q,r,s),t,u,w,x,y,v) a b (c,d,e,f,g,h,i,j,k,l)
def cC.k:=cn 195 aU9 aI4 fun (a,b,c,d,e,f,g,h,i,j,k,l,m,n,o,p,q,r,s,t,u,v,w,x,y)=>cC ((m,n),(o,p),(q,r,s),t,u,w,x,y,v) a b (c,d,e,f,g,h,i,j,k,l)
def pA.k:=cn 196 bTd aUv fun (a,b,c,d,e,f,g,h,i,j,k,l,m)=>pA ((a,b),(c,d),(e,f,g),h,i,k,l,m,j)
def oY.k:=cn 194 bUl bUc fun (a,b,c,d,e,f,g,h,i,j,k,l,m,n)=>oY ((b,c),(d,e),(f,g,h),i,j,l,m,n,k) a
def aAq.k:=cn 206 bYa bZy fun (a,b,c,d,e,f,g,h,i,j)=>aAq (a,b,c,d,e,f,g,h,i) j
def uH.k:=cn 334 aK7 sh2 fun (a,b,c)=>uH (a,b,c)
def iI.k:=cn 245 ⟨[e47,e1],[]⟩ aUu fun (a,b,c)=>iI (a,b) c
def lP.k:=cn 246 aVt sh2 fun (a,b,c,d)=>lP (a,b,c) d
def aCk.k:=cn 414 aZ2 aFg aCk
def xU.k:=cn 413 bFq sh2 fun (a,b)=>xU a b
def uG.k:=cn 335 aVt sh2 fun (a,b,c,d)=>uG (a,b,c) d
def eX.k:=cn 247 ⟨[e18,e1,e4],[]⟩ aZ7 fun (a,b,c,d,e)=>eX (a,b,c) d e
def jJ.k:=cn 251 aK7 sh2 fun (a,b,c)=>jJ (a,b,c)
def pY.k:=cn 337 bN6 aUu fun (a,b,c,d)=>pY (a,b) c d
def gC.k:=cn 415 ⟨[e18,e1,(2,.one (.ptr 1000002 0))],[(1000002,.box [.row 0]),(0,aWd)]⟩ ⟨[],[(0,aWd),(1000002,.box [.row 0])]⟩ fun (a,b,c,d,e)=>gC (a,b,c) d e
def oI.k:=cn 338 cAn bPd fun (a,b,c,d,e,f,g,h,i,j)=>oI (a,b,c) (d,e,f) g (h,i,j)
def dQ.k:=cn 248 cA3 aKj fun (a,b,c,d,e,f,g,h,i,j)=>dQ (a,b) (c,d,e) f g (h,i,j)
def sG.k:=cn 339 aVt sh2 fun (a,b,c,d)=>sG (a,b,c) d
def qN.k:=cn 249 bAg aN9 fun (a,b,c,d,e,f)=>qN (a,b,c) (d,e,f)
def aAx.k:=cn 250 aZb sh1 fun (a,b,c)=>aAx (a,b) c
def nD.k:=cn 154 bQi aKj fun (a,b,c,d,e,f)=>nD (a,b) (c,d) e f
def pL.k:=cn 342 bHf sh1 fun (a,b,c,d,e,f)=>pL (a,b) (c,d,e,f)
def qR.k:=cn 253 aV9 sh1 fun (a,b,c)=>qR (a,b) c
def iH.k:=cn 254 aZ2 sh2 iH
def qP.k:=cn 155 ⟨[e5,e22,e4],[]⟩ sh1 fun (a,b,c,d)=>qP (a,b) c d
def nN.k:=cn 278 bQm sh1 fun (a,b)=>nN a b
def tE.k:=cn 279 bQ1 sh1 fun (a,b,c,d,e,f,g,h)=>tE (a,b,c,d) (e,f,g,h)
def lB.k:=cn 191 bBw sh1 fun (a,b)=>lB a b
def xQ.k:=cn 156 ⟨[e38,e22],[]⟩ sh1 fun (a,b)=>xQ a b
def sE.k:=cn 74 bZk aKj fun (a,b,c,d,e,f,g)=>sE (a,b) (c,d) e f g
def aB2.k:=cn 411 sh6 bRt aB2
def qM.k:=cn 332 sh6 sh2 qM
def qK.k:=cn 333 sh6 sh2 qK
def sS.k:=cn 244 bBw sh1 fun (a,b)=>sS a b
def vE.k:=cn 152 aKj aKj vE
def hO.k:=cn 330 ⟨[e45,e1],[]⟩ bHl fun (a,b)=>hO a b
def aAr.k:=cn 243 ⟨[e45,e22,e4],[]⟩ sh1 fun (a,b,c)=>aAr a b c
def kH.k:=cn 151 bUf aQr fun (a,b,c)=>kH a b c
def uU.k:=cn 73 bTx aO6 fun (a,b,c,d,e,f,g,h,i,j,k)=>uU (a,b,c,d,e,f,g,h,i) j k
def iV.k:=cn 122 bQq aUv fun (a,b,c,d,e,f,g,h,i,j,k,l,m,n,o,p,q,r,s,t,u,v,w,x,y,z,A,B)=>iV ((p,q),(r,s),(t,u,v),w,x,z,A,B,y) (a,b,c,(d,e,(f,g,h,i,j,k,l,m,n,o)))
def qD.k:=cn 40 bIs ⟨[e58,e26],[o23,o24,o37,o38,o39,o40,o25,o41,(8,aK3),o42]⟩ fun (a,b,c,d,e,f,g,h,i,j,k,l,m,n,o,p,q,r,s,t,u,v,w,x,y,z,A,B)=>qD ((a,b),(c,d),(e,f,g),h,i,j,k,l,m) (n,o,p,(q,r,(s,t,u,v,w,x,y,z,A,B)))
def hZ.k:=cn 184 ⟨[e32,e1,e4],[]⟩ sh1 fun (a,b,c)=>hZ a b c
def lW.k:=cn 99 bHc sh1 fun (a,b,c,d)=>lW (a,b,c) d
def aAi.k:=cn 100 aQ4 sh1 fun (a,b,c,d,e,f,g,h,i,j,k,l,m)=>aAi ((a,b),(c,d),(e,f,g),h,i,j,k,l,m)
def sX.k:=cn 101 bF4 sh1 fun (a,b,c,d)=>sX (a,b,c,d)
def lH.k:=cn 102 bU0 sh1 fun (a,b,c,d,e,f,g,h,i,j,k,l,m)=>lH (a,b,c,d,e,f,g,h,i) (j,k,l,m)
def oW.k:=cn 18 aQ4 sh1 fun (a,b,c,d,e,f,g,h,i,j,k,l,m)=>oW ((a,b),(c,d),(e,f,g),h,i,j,k,l,m)
def qL.k:=cn 41 bIs ⟨[(0,bF2),e26],[o3,o2,o4]⟩ fun (a,b,c,d,e,f,g,h,i,j,k,l,m,n,o,p,q,r,s,t,u,v,w,x,y,z,A,B)=>qL ((a,b),(c,d),(e,f,g),h,i,j,k,l,m) (n,o,p,(q,r,(s,t,u,v,w,x,y,z,A,B)))
def oZ.k:=cn 42 sh9 ⟨[(0,bF2),(1,.agg [.var ti,.var ti,.row 5,.var ti,.var ti,.var ti,.var ti,.var ti,.row 3,.var ti,.var ti,.var ti,.var ti,.var ti,.row 4])],[o3,o2,o4,(3,ow7),(4,ow5),(5,ow5)]⟩ oZ
def oV.k:=cn 43 sh9 ⟨[(0,bF2)],[o3,o2,o4]⟩ oV
def nP.k:=cn 44 sh9 sh2 nP
def oP.k:=cn 52 ⟨[e5,(1,ag1)],[]⟩ sh1 fun (a,b,c,d)=>oP (a,b) (c,d)
def sD.k:=cn 319 bQm sh1 fun (a,b)=>sD a b
def aAo.k:=cn 220 bAg sh1 fun (a,b,c,d,e,f)=>aAo (a,b,c) (d,e,f)
def uR.k:=cn 129 ⟨[(0,aZv),(1,aZv)],[]⟩ sh1 fun (a,b)=>uR a b
def mV.k:=cn 53 ⟨[e47,e54],[]⟩ sh1 fun (a,b,c,d)=>mV (a,b) (c,d)
def tP.k:=cn 170 ⟨[e32,(1,bZm)],[]⟩ sh1 fun (a,b)=>tP a b
def sB.k:=cn 87 ⟨[e34,(1,cA1)],[]⟩ sh1 fun (a,b,c,d,e,f)=>sB (a,b,c) (d,e,f)
def oO.k:=cn 47 ⟨[e42,e50],[]⟩ sh1 fun (a,b)=>oO a b
def uP.k:=cn 268 bQ1 sh1 fun (a,b,c,d,e,f,g,h)=>uP (a,b,c,d) (e,f,g,h)
def sH.k:=cn 171 bBw sh1 fun (a,b)=>sH a b
def aDm.k:=cn 172 bPs sh1 fun (a,b)=>aDm a b
def sT.k:=cn 88 bQ3 sh1 fun (a,b,c,d,e,f,g,h,i,j,k,l,m,n,o,p,q,r,s,t)=>sT (a,b,c,d,e,f,g,h,i,j) (k,l,m,n,o,p,q,r,s,t)
def oB.k:=cn 173 bTe sh1 fun (a,b)=>oB a b
def vR.k:=cn 174 ⟨[e38,(1,bF6)],[]⟩ sh1 fun (a,b)=>vR a b
def vT.k:=cn 175 ⟨[e45,(1,bOu)],[]⟩ sh1 fun (a,b)=>vT a b
def xI.k:=cn 89 ⟨[e21,(1,ag5)],[]⟩ sh1 fun (a,b,c,d,e,f,g,h,i,j,k,l,m,n,o,p,q,r)=>xI (a,b,c,d,e,f,g,h,i) (j,k,l,m,n,o,p,q,r)
def aAn.k:=cn 90 ⟨[e44,(1,bOe)],[]⟩ sh1 fun (a,b,c,d,e,f,g,h)=>aAn (a,b,c,d) (e,f,g,h)
def nU.k:=cn 15 ⟨[e31,(1,bO8)],[]⟩ sh1 fun (a,b,c,d,e,f,g,h,i,j,k,l,m,n,o,p,q,r,s,t,u,v,w,x,y,z)=>nU ((a,b),(c,d),(e,f,g),h,i,j,k,l,m) ((n,o),(p,q),(r,s,t),u,v,w,x,y,z)
def mO.k:=cn 107 bQ3 sh1 fun (a,b,c,d,e,f,g,h,i,j,k,l,m,n,o,p,q,r,s,t)=>mO (a,b,c,d,e,f,g,h,i,j) (k,l,m,n,o,p,q,r,s,t)
def xS.k:=cn 45 bIs sh1 fun (a,b,c,d,e,f,g,h,i,j,k,l,m,n,o,p,q,r,s,t,u,v,w,x,y,z,A,B)=>xS ((a,b),(c,d),(e,f,g),h,i,j,k,l,m) (n,o,p,(q,r,(s,t,u,v,w,x,y,z,A,B)))
def xO.k:=cn 48 aQ4 aFg fun (a,b,c,d,e,f,g,h,i,j,k,l,m)=>xO ((a,b),(c,d),(e,f,g),h,i,j,k,l,m)
def aAt.k:=cn 49 aQ4 aFg fun (a,b,c,d,e,f,g,h,i,j,k,l,m)=>aAt ((a,b),(c,d),(e,f,g),h,i,j,k,l,m)
def yT.k:=cn 50 sh2 bRw yT
def yZ.k:=cn 51 sh2 bRw yZ
def l_FnEvents.k:=cn 5 sh9 sh1 l_FnEvents
end

end Go.Proofs.YtcppmcbkokgfcaaGreat
