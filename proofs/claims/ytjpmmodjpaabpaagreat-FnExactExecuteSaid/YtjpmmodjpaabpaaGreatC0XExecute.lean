/-
  Contracts of the functions of the program. Conditions: none.
-/
import Derived.Test.YtjpmmodjpaabpaaGreatT1XExecute
import Derived.Test.YtjpmmodjpaabpaaGreatProg
import Derived.KernelRfl
set_option linter.unusedVariables false
set_option linter.unusedSimpArgs false
set_option maxRecDepth 100000
open Bool renaming true→U
open Bool renaming false→W
set_option linter.defProp false
namespace Go.Proofs.YtjpmmodjpaabpaaGreat
open Go.Ab Go.V
noncomputable section
def follows:Tryz.prog.follows .mixedOrders=U:=by kernel_rfl
def _root_.Go.V.Con.Ok.c{P:Program}{c:Con}{E:List Con}(h:c.Ok P)(k:aMd P E):aMd P (c::E):=⟨h,k⟩
def fk{E:List Con}{c:Con}{fn:Func}(hf:Tryz.prog.funcs[c.f]? =some fn)(k:aMd Tryz.prog E)(pl:Plan)(e:∀x,bVi Tryz.prog E fn pl c.pre c.post x=c.sem x:=by intro x;kernel_rfl)(hn:(fn.name=="runtime.NumGoroutine")=W:=by rfl):c.Ok Tryz.prog:=cKg hf hn follows (aMd.mem k) λx y h=>(e x).trans h
def nok:aMd Tryz.prog []:=trivial
abbrev cn(f:FuncId)(a b:Sh)(s:aBd a.tys->Option (aBd b.tys)):Con:=⟨f,a,b,W,s⟩
abbrev OK(c:Con):Prop:=c.Ok Tryz.prog
abbrev _root_.Go.V.Plan.q(p:Plan):Plan:= .seq .z p
def ow1:OT:= .row 3 1 ti U
def ow2:OT:= .row 110 9 tFl W
def ow3:OT:= .row 76 12 tFy W
def ow4:OT:= .row 131 3 tSg U
def ow5:OT:= .row 72 1 tPt U
def ow6:OT:= .row 164 4 tIb W
def ow7:OT:= .row 113 4 cJ W
def ow8:OT:= .row 213 4 tPp U
def ow9:OT:= .row 5 1 tb U
def aIv:OT:= .row 317 5 tRs U
def aM9:OT:= .row 171 1 tMs U
def aR4:OT:= .row 216 5 cH U
def aPd:OT:= .row 222 3 tRv U
def aNv:OT:= .row 253 4 tUs U
def bIg:OT:= .row 72 1 tPt W
def aLa:OT:= .row 131 3 tSg W
def aJs:OT:= .row 76 12 tFy U
def aLm:OT:= .row 110 9 tFl U
def aNn:OT:= .row 164 4 tIb U
def bCn:OT:= .row 158 3 aEl U
def aXj:OT:= .row 140 3 tAS U
def aWj:OT:= .row 96 5 tLk U
def bG4:OT:= .row 113 4 cJ U
def aSz:OT:= .row 308 5 sP U
def cJf:OT:= .row 175 1 aDk U
def cLp:OT:= .row 308 5 sP W
def bAw:OT:= .row 213 4 tPp W
def bAy:OT:= .row 177 4 fM U
def bCj:OT:= .row 175 1 aDk W
def ob1:OT:= .box [.var (.sl tAS),.var (.sl tLk),.var (.sl tSg),.var (.sl tSg),.var ti,.var (.sl tRs),.var (.sl tUs),.var ti,.var (.sl ti),.row 0,.row 1,.row 2,.var ti]
def ob2:OT:= .box [.var (.sl tAS),.var (.sl tLk),.var (.sl tSg),.var (.sl tSg),.row 0,.var ti,.var (.sl tAS),.var (.sl tLk),.var (.sl tSg),.var (.sl tSg),.var ti,.var (.sl tRs),.var (.sl tUs),.var ti,.var (.sl ti),.var (.sl tFy),.var (.sl tFl),.var (.sl tIb),.var ti]
def ob3:OT:= .box [.var (.sl tAS),.var (.sl tLk),.row 0,.var (.sl tSg),.var (.sl tSg),.var ti,.var (.sl tAS),.var (.sl tLk),.var (.sl tSg),.var (.sl tSg),.var ti,.var (.sl tRs),.var (.sl tUs),.var ti,.var (.sl ti),.var (.sl tFy),.var (.sl tFl),.var (.sl tIb),.var ti]
def ob4:OT:= .box [.var (.sl tAS),.var (.sl tLk),.var (.sl tSg),.var (.sl tSg),.var ti,.var (.sl tRs),.var (.sl tUs),.var ti,.var (.sl ti),.row 300001,.row 300002,.row 300003,.var ti]
def ob5:OT:= .box [.row 300001]
def ob6:OT:= .box [.row 300001,.row 300002]
def ob7:OT:= .box [.var ti,.var ti,.var ti,.var (.sl tPp),.var ti,.var ti,.var ti,.var ti,.var ti,.var (.sl tb)]
def ob8:OT:= .box [.var ti,.row 300001]
def ob9:OT:= .box [.var ti,.var ti,.var ti,.row 300001]
def cI5:OT:= .box [.var ti,.var (.sl aDk)]
def cJd:OT:= .box [.row 1160,.row 1208]
def cIc:OT:= .box [.var ti,.var ti,.var ti,.var ti,.row 1144,.row 1145,.var ti,.var ti,.row 1146]
def cHj:OT:= .box [.var ti,.var ti,.var ti,.var ti,.var ti,.row 1560,.var ti,.var ti,.var ti,.var ti,.var ti,.row 1561]
def bVw:OT:= .box [.row 1208,.row 1209,.row 1272,.row 1273,.var ti,.row 1336,.row 1337,.var ti,.row 1400,.row 300001,.nil,.nil,.var ti]
def bXy:OT:= .box [.row 1208,.row 1209,.row 1272,.row 1273,.var ti,.row 1336,.row 1337,.var ti,.row 1400,.row 300001,.row 300002,.nil,.var ti]
def cGw:OT:= .box [.var ti,.var ti,.var ti,.var ti,.var ti,.var (.sl tPp),.var ti,.var ti,.var ti,.var ti,.var ti,.var (.sl tb)]
def cHk:OT:= .box [.row 1432,.row 1433]
def cGs:OT:= .box [.var ti,.var ti,.var ti]
def cLt:OT:= .box [.var ti,.var ti,.var ti,.row 1192,.var ti,.var ti,.var ti,.var ti,.var ti,.row 1193]
def cGo:OT:= .box [.var ti,.var ti,.var ti,.row 300001,.var ti,.var ti,.var ti,.var ti,.var ti,.row 300002]
def cMa:OT:= .box [.var ti,.var ti,.var ti,.row 1112]
def cF0:OT:= .box [.var ti,.var ti,.var ti,.nil]
def cLm:OT:= .box [.var ti,.var ti,.var ti,.var ti,.row 1112,.row 1113,.var ti,.var ti,.row 1114]
def cMk:OT:= .box [.var ti,.var ti,.var ti,.row 1544]
def cLu:OT:= .box [.var ti,.var ti,.var ti,.var ti,.row 2312,.row 2313,.var ti,.var ti,.row 2314]
def cMe:OT:= .box [.var ti,.row 2152,.row 2153]
def cLc:OT:= .box [.var (.sl tAS),.var (.sl tLk),.var (.sl tSg),.var (.sl tSg),.var ti,.row 2152,.row 2153,.var ti,.var (.sl ti),.row 0,.row 1,.row 2,.var ti]
def cL2:OT:= .box [.var ti,.var ti,.var ti,.row 2904,.var ti,.var ti,.var ti,.var ti,.var ti,.row 2905]
def cJb:OT:= .box [.var ti,.var ti,.var ti,.var ti,.var (.sl tMs),.var (.sl tPt),.var ti,.var ti,.var (.sl tRv)]
def cLx:OT:= .box [.var (.sl tAS),.var (.sl tLk),.var (.sl tSg),.var (.sl tSg),.var ti,.var (.sl tRs),.var (.sl tUs),.var ti,.var (.sl ti),.row 14,.row 1,.row 2,.var ti]
def cFq:OT:= .box [.var ti,.row 300001,.var ti,.var ti,.var ti,.row 300002,.var ti,.var ti,.var ti,.var ti,.var ti,.row 300003]
def cHc:OT:= .box [.row 1128,.row 1129,.row 1130,.row 1131,.var ti,.row 1132,.row 1133,.var ti,.row 1134,.row 1135,.row 1136,.row 1137,.var ti]
def cJa:OT:= .box [.var (.sl tAS),.var (.sl tLk),.row 300001,.var (.sl tSg),.var (.sl tSg),.var ti,.var (.sl tAS),.var (.sl tLk),.var (.sl tSg),.var (.sl tSg),.var ti,.var (.sl tRs),.var (.sl tUs),.var ti,.var (.sl ti),.var (.sl tFy),.var (.sl tFl),.var (.sl tIb),.var ti]
def cH3:OT:= .box [.var ti,.var .bool,.var ti]
def cG4:OT:= .box [.row 1208,.row 1209,.row 1272,.row 1273,.var ti,.row 1336,.row 1337,.var ti,.row 1400,.row 300001,.row 300002,.row 300003,.var ti]
def cL6:OT:= .box [.var ti,.var ti,.var ti,.row 2584,.var ti,.var ti,.var ti,.var ti,.var ti,.row 2585]
def cLe:OT:= .box [.var ti,.var ti,.var ti,.row 3176,.var ti,.var ti,.var ti,.var ti,.var ti,.row 3177]
def cH0:OT:= .box [.var ti,.var ti,.var (.sl cH)]
def cI6:OT:= .box [.var (.sl tAS),.var (.sl tLk),.var (.sl tSg),.var (.sl tSg),.row 300001,.var ti,.var (.sl tAS),.var (.sl tLk),.var (.sl tSg),.var (.sl tSg),.var ti,.var (.sl tRs),.var (.sl tUs),.var ti,.var (.sl ti),.var (.sl tFy),.var (.sl tFl),.var (.sl tIb),.var ti]
def ag1:ST:= .agg [.var (.sl tAS),.var (.sl tLk)]
def ag2:ST:= .agg [.var ti,.var ti,.var (.sl cH)]
def ag3:ST:= .agg [.var ti,.var ti,.var ti,.var (.sl tPp),.var ti,.var ti,.var ti,.var ti,.var ti,.var (.sl tb)]
def ag4:ST:= .agg [.var (.sl tPp)]
def ag5:ST:= .agg [.var ti,.var ti,.var ti,.var (.sl cH)]
def ag6:ST:= .agg [.var (.sl tAS),.var (.sl tLk),.var (.sl tSg),.var (.sl tSg),.var ti,.var (.sl tRs),.var (.sl tUs),.var ti,.var (.sl ti),.var (.sl tFy),.var (.sl tFl),.var (.sl tIb),.var ti]
def ag7:ST:= .agg [.var ti,.var ti,.var ti,.var ti,.var (.sl tMs),.var (.sl tPt),.var ti,.var ti,.var (.sl tRv)]
def ag8:ST:= .agg [.var ti,.var ti,.var ti,.var ti]
def ag9:ST:= .agg [.var ti,.var ti,.var ti,.var ti,.var ti]
def cGz:ST:= .agg [.var (.sl tSg),.var (.sl tSg)]
def cLn:ST:= .agg [.var ti,.var ti,.var ti,.row 0,.var ti,.var ti,.var ti,.var ti,.var ti,.row 1]
def bQj:ST:= .agg [.var ti,.var (.sl aDk)]
def cMh:ST:= .agg [.var ti,.var (.sl tRs),.var (.sl tUs)]
def cLa:ST:= .agg [.var ti,.var ti,.var ti,.var ti,.row 0,.row 1,.var ti,.var ti,.row 2]
def cL4:ST:= .agg [.var ti,.var ti,.var ti,.row 0]
def cI9:ST:= .agg [.var ti,.var ti,.var ti,.var (.sl tMs)]
def cFr:ST:= .agg [.var ti,.var ti,.var ti]
def cLl:ST:= .agg [.row 0]
def cMl:ST:= .agg [.var ti,.var ti,.row 0]
def cLz:ST:= .agg [.var ti,.row 0,.row 1]
def cLd:ST:= .agg [.row 0,.row 1,.row 2,.row 3,.var ti,.row 4,.row 5,.var ti,.row 6,.row 7,.row 8,.row 9,.var ti]
def cLr:ST:= .agg [.row 0,.row 1]
def cLi:ST:= .agg [.var ti,.var ti,.var (.sl tb),.var ti,.var ti,.var ti,.var ti,.var ti,.var (.sl tPp),.var ti,.var ti,.var ti,.var ti,.var ti,.var (.sl tb)]
def bMz:ST:= .agg [.var ti,.var ti,.var ti,.var ti,.var ti,.var (.sl tPp),.var ti,.var ti,.var ti,.var ti,.var ti,.var (.sl tb)]
def cLj:ST:= .agg [.var ti,.row 0]
def cHa:ST:= .agg [.var ti,.var ti,.var ti,.var ti,.var ti,.row 0,.var ti,.var ti,.var ti,.var ti,.var ti,.row 1]
def cIt:ST:= .agg [.var (.sl tAS),.var (.sl tLk),.var (.sl tSg),.var (.sl tSg),.var ti,.var (.sl tRs),.var (.sl tUs),.var ti,.var (.sl ti),.row 0,.row 1,.row 2,.var ti]
def cMf:ST:= .agg [.var ti,.var ti,.var ti,.row 3,.var ti,.var ti,.var ti,.var ti,.var ti,.row 4]
def vr1:ST:= .one (.var ti)
def vr2:ST:= .one (.var .bool)
def vr3:ST:= .one (.row 300001)
def vr4:ST:= .one (.var .str)
def vr5:ST:= .one (.row 0)
def vr6:ST:= .one (.ptr 1000000 0)
def vr7:ST:= .one (.var (.sl ti))
def vr8:ST:= .one (.var (.sl tb))
def vr9:ST:= .one (.row 6)
def bHb:ST:= .one (.row 7)
def bXv:ST:= .one (.var (.sl tPt))
def cFz:ST:= .one (.row 10)
def cL5:ST:= .one (.row 1624)
def bCo:ST:= .one (.var (.sl fM))
def cLo:ST:= .one (.var (.sl tRs))
def aWt:ST:= .one (.row 15)
def bW1:ST:= .one (.var (.sl cH))
def cF7:ST:= .one (.var (.sl tRv))
def cL1:ST:= .one (.ptr 13 0)
def cMc:ST:= .one (.ptr 7 0)
def cLf:ST:= .one (.ptr 11 0)
def cLv:ST:= .one (.row 1001100)
def aXb:ST:= .one (.row 17)
def bYv:ST:= .one (.var (.sl .str))
def cL7:ST:= .one (.row 5)
def bN2:ST:= .one (.var (.sl cJ))
def bGh:ST:= .one (.row 8)
def bGo:ST:= .one (.row 18)
def bHm:ST:= .one (.row 9)
def bIz:ST:= .one (.row 14)
def bXr:ST:= .one (.ptr 8 0)
def bWp:ST:= .one (.var (.sl sP))
def bXd:ST:= .one (.var (.sl tSg))
def bNd:ST:= .one (.var (.sl tMs))
def bM1:ST:= .one (.ptr 6 0)
def bOk:ST:= .one (.ptr 5 0)
def cFk:ST:= .one (.var (.sl tIb))
def bWd:ST:= .one (.ptr 3 0)
def bX4:ST:= .one (.row 300002)
def e1:Nat×ST:=(1,vr1)
def e2:Nat×ST:=(0,vr1)
def e3:Nat×ST:=(0,vr2)
def e4:Nat×ST:=(0,ag1)
def e5:Nat×ST:=(2,vr1)
def e6:Nat×ST:=(3,vr1)
def e7:Nat×ST:=(0,vr5)
def e8:Nat×ST:=(4,vr1)
def e9:Nat×ST:=(5,vr1)
def e10:Nat×ST:=(0,vr4)
def e11:Nat×ST:=(0,vr6)
def e12:Nat×ST:=(4,vr2)
def e13:Nat×ST:=(3,vr3)
def e14:Nat×ST:=(0,ag2)
def e15:Nat×ST:=(2,vr2)
def e16:Nat×ST:=(11,vr3)
def e17:Nat×ST:=(8,vr1)
def e18:Nat×ST:=(1,vr2)
def e19:Nat×ST:=(6,vr1)
def e20:Nat×ST:=(0,ag6)
def e21:Nat×ST:=(9,vr1)
def e22:Nat×ST:=(1,ag2)
def e23:Nat×ST:=(0,ag4)
def e24:Nat×ST:=(10,vr1)
def e25:Nat×ST:=(1,ag4)
def e26:Nat×ST:=(5,vr3)
def e27:Nat×ST:=(0,ag3)
def e28:Nat×ST:=(0,ag7)
def e29:Nat×ST:=(7,vr1)
def e30:Nat×ST:=(0,ag5)
def e31:Nat×ST:=(0,cLn)
def e32:Nat×ST:=(0,vr8)
def e33:Nat×ST:=(3,vr9)
def e34:Nat×ST:=(5,vr4)
def e35:Nat×ST:=(5,bHb)
def e36:Nat×ST:=(0,cMh)
def e37:Nat×ST:=(0,bXv)
def e38:Nat×ST:=(0,cLa)
def e39:Nat×ST:=(1,ag3)
def e40:Nat×ST:=(12,vr2)
def e41:Nat×ST:=(9,cL5)
def e42:Nat×ST:=(0,ag9)
def e43:Nat×ST:=(1,ag8)
def e44:Nat×ST:=(1,ag5)
def e45:Nat×ST:=(0,cGz)
def e46:Nat×ST:=(0,cL4)
def e47:Nat×ST:=(0,cLo)
def e48:Nat×ST:=(6,vr2)
def e49:Nat×ST:=(12,vr1)
def e50:Nat×ST:=(13,vr1)
def e51:Nat×ST:=(2,ag2)
def e52:Nat×ST:=(0,cLl)
def e53:Nat×ST:=(7,vr3)
def e54:Nat×ST:=(0,ag8)
def e55:Nat×ST:=(0,vr7)
def e56:Nat×ST:=(1,vr7)
def e57:Nat×ST:=(0,cMl)
def e58:Nat×ST:=(0,cI9)
def e59:Nat×ST:=(0,cF7)
def e60:Nat×ST:=(34,vr2)
def e61:Nat×ST:=(0,cLz)
def e62:Nat×ST:=(0,cLd)
def e63:Nat×ST:=(13,cL1)
def e64:Nat×ST:=(11,vr1)
def e65:Nat×ST:=(3,cFz)
def e66:Nat×ST:=(7,cMc)
def e67:Nat×ST:=(9,vr3)
def e68:Nat×ST:=(0,bQj)
def e69:Nat×ST:=(0,bW1)
def e70:Nat×ST:=(1,cGz)
def e71:Nat×ST:=(3,ag3)
def e72:Nat×ST:=(1,vr4)
def e73:Nat×ST:=(37,vr2)
def e74:Nat×ST:=(5,vr7)
def e75:Nat×ST:=(11,cLf)
def e76:Nat×ST:=(3,vr4)
def e77:Nat×ST:=(0,cLr)
def e78:Nat×ST:=(1,cLv)
def e79:Nat×ST:=(1,cLi)
def e80:Nat×ST:=(14,vr1)
def e81:Nat×ST:=(23,vr2)
def e82:Nat×ST:=(28,vr2)
def e83:Nat×ST:=(16,vr2)
def e84:Nat×ST:=(0,bCo)
def e85:Nat×ST:=(0,cFr)
def e86:Nat×ST:=(1,cFr)
def e87:Nat×ST:=(3,cL7)
def e88:Nat×ST:=(21,vr2)
def e89:Nat×ST:=(31,vr2)
def e90:Nat×ST:=(29,vr2)
def e91:Nat×ST:=(15,vr1)
def e92:Nat×ST:=(7,aWt)
def e93:Nat×ST:=(7,cFz)
def e94:Nat×ST:=(7,.one (.row 11))
def e95:Nat×ST:=(7,.one (.row 29))
def o1:Nat×OT:=(1,ow2)
def o2:Nat×OT:=(0,ow3)
def o3:Nat×OT:=(2,ow6)
def o4:Nat×OT:=(1000000,ob1)
def o5:Nat×OT:=(0,ow7)
def o6:Nat×OT:=(1000000,ob2)
def o7:Nat×OT:=(300001,ow1)
def o8:Nat×OT:=(0,ow8)
def o9:Nat×OT:=(300001,bIg)
def o10:Nat×OT:=(0,aM9)
def o11:Nat×OT:=(0,ow1)
def o12:Nat×OT:=(1000000,ob3)
def o13:Nat×OT:=(1,ow9)
def o14:Nat×OT:=(300002,ow2)
def o15:Nat×OT:=(0,aR4)
def o16:Nat×OT:=(300001,ow3)
def o17:Nat×OT:=(300003,ow6)
def o18:Nat×OT:=(1001100,ow7)
def o19:Nat×OT:=(1,ow5)
def o20:Nat×OT:=(0,aIv)
def o21:Nat×OT:=(2,aPd)
def o22:Nat×OT:=(6,ow1)
def o23:Nat×OT:=(300001,ow4)
def o24:Nat×OT:=(300001,ow8)
def o25:Nat×OT:=(1000000,ob4)
def o26:Nat×OT:=(1624,ow5)
def o27:Nat×OT:=(0,aXj)
def o28:Nat×OT:=(1,aWj)
def o29:Nat×OT:=(7,ob6)
def o30:Nat×OT:=(300001,ow5)
def o31:Nat×OT:=(3,ob5)
def o32:Nat×OT:=(15,ow5)
def o33:Nat×OT:=(0,ow4)
def o34:Nat×OT:=(1,aNv)
def o35:Nat×OT:=(2,ow4)
def o36:Nat×OT:=(3,ow4)
def o37:Nat×OT:=(4,aIv)
def o38:Nat×OT:=(5,aNv)
def o39:Nat×OT:=(7,aJs)
def o40:Nat×OT:=(9,aNn)
def o41:Nat×OT:=(300001,aR4)
def o42:Nat×OT:=(300001,bCn)
def o43:Nat×OT:=(300001,cLp)
def o44:Nat×OT:=(8,aLm)
def o45:Nat×OT:=(0,ow5)
def o46:Nat×OT:=(300001,cJf)
def o47:Nat×OT:=(1001100,bG4)
def o48:Nat×OT:=(7,aIv)
def o49:Nat×OT:=(10,bCn)
def o50:Nat×OT:=(10,ow5)
def o51:Nat×OT:=(300001,aLa)
def o52:Nat×OT:=(300002,aLa)
def o53:Nat×OT:=(18,aSz)
def o54:Nat×OT:=(300002,ow4)
def o55:Nat×OT:=(1208,ow4)
def o56:Nat×OT:=(300002,ow5)
def o57:Nat×OT:=(300001,bG4)
def o58:Nat×OT:=(300001,aPd)
def k0:Nat×ST:=(0,.keep)
def k1:Nat×ST:=(1,.keep)
def k2:Nat×ST:=(2,.keep)
def k3:Nat×ST:=(3,.keep)
def k4:Nat×ST:=(4,.keep)
def k5:Nat×ST:=(5,.keep)
def k6:Nat×ST:=(6,.keep)
def k7:Nat×ST:=(7,.keep)
def k8:Nat×ST:=(8,.keep)
def k9:Nat×ST:=(9,.keep)
def k10:Nat×ST:=(10,.keep)
def k11:Nat×ST:=(11,.keep)
def k12:Nat×ST:=(12,.keep)
def k13:Nat×ST:=(13,.keep)
def k14:Nat×ST:=(14,.keep)
def k15:Nat×ST:=(15,.keep)
def k16:Nat×ST:=(16,.keep)
def k17:Nat×ST:=(17,.keep)
def k18:Nat×ST:=(18,.keep)
def k19:Nat×ST:=(19,.keep)
def k20:Nat×ST:=(20,.keep)
def k21:Nat×ST:=(21,.keep)
def k22:Nat×ST:=(22,.keep)
def k23:Nat×ST:=(23,.keep)
def k24:Nat×ST:=(24,.keep)
def k25:Nat×ST:=(25,.keep)
def k26:Nat×ST:=(26,.keep)
def k28:Nat×ST:=(28,.keep)
def k30:Nat×ST:=(30,.keep)
def k31:Nat×ST:=(31,.keep)
def k32:Nat×ST:=(32,.keep)
def k33:Nat×ST:=(33,.keep)
def k34:Nat×ST:=(34,.keep)
def k35:Nat×ST:=(35,.keep)
def k36:Nat×ST:=(36,.keep)
def k37:Nat×ST:=(37,.keep)
def k38:Nat×ST:=(38,.keep)
def k39:Nat×ST:=(39,.keep)
def k49:Nat×ST:=(49,.keep)
def k50:Nat×ST:=(50,.keep)
def k51:Nat×ST:=(51,.keep)
def k52:Nat×ST:=(52,.keep)
def k53:Nat×ST:=(53,.keep)
def k54:Nat×ST:=(54,.keep)
def k56:Nat×ST:=(56,.keep)
def k57:Nat×ST:=(57,.keep)
def k58:Nat×ST:=(58,.keep)
def k59:Nat×ST:=(59,.keep)
def k60:Nat×ST:=(60,.keep)
def k61:Nat×ST:=(61,.keep)
def k64:Nat×ST:=(64,.keep)
def k65:Nat×ST:=(65,.keep)
def k66:Nat×ST:=(66,.keep)
def k67:Nat×ST:=(67,.keep)
def k72:Nat×ST:=(72,.keep)
def k73:Nat×ST:=(73,.keep)
def k74:Nat×ST:=(74,.keep)
def k87:Nat×ST:=(87,.keep)
def k88:Nat×ST:=(88,.keep)
def bQq:Nat×ST:=(100,.keep)
def aR7:Nat×ST:=(101,.keep)
def aS7:Nat×ST:=(102,.keep)
def bNn:Nat×ST:=(103,.keep)
def cJe:Nat×ST:=(106,.keep)
def cIs:Nat×ST:=(107,.keep)
def cLg:Nat×ST:=(108,.keep)
def cLq:Nat×ST:=(128,.keep)
def cL9:Nat×ST:=(129,.keep)
def bW0:Nat×ST:=(147,.keep)
def bWq:Nat×ST:=(148,.keep)
def bV0:Nat×ST:=(149,.keep)
def cF1:Nat×ST:=(150,.keep)
def cMg:Nat×ST:=(151,.keep)
def bW3:Nat×ST:=(163,.keep)
def bVh:Nat×ST:=(164,.keep)
def cFm:Nat×ST:=(165,.keep)
def cLs:Nat×ST:=(169,.keep)
def cK9:Nat×ST:=(170,.keep)
def j0:Nat×OT:=(0,.keep)
def j1:Nat×OT:=(1,.keep)
def j2:Nat×OT:=(2,.keep)
def j3:Nat×OT:=(3,.keep)
def j4:Nat×OT:=(4,.keep)
def j5:Nat×OT:=(5,.keep)
def j6:Nat×OT:=(6,.keep)
def j7:Nat×OT:=(7,.keep)
def j8:Nat×OT:=(8,.keep)
def j9:Nat×OT:=(9,.keep)
def j10:Nat×OT:=(10,.keep)
def j11:Nat×OT:=(11,.keep)
def j12:Nat×OT:=(12,.keep)
def j13:Nat×OT:=(13,.keep)
def j14:Nat×OT:=(14,.keep)
def j15:Nat×OT:=(15,.keep)
def j16:Nat×OT:=(16,.keep)
def j17:Nat×OT:=(17,.keep)
def j18:Nat×OT:=(18,.keep)
def j19:Nat×OT:=(19,.keep)
def j26:Nat×OT:=(26,.keep)
def j28:Nat×OT:=(28,.keep)
def j29:Nat×OT:=(29,.keep)
def j30:Nat×OT:=(30,.keep)
def j42:Nat×OT:=(42,.keep)
def j59:Nat×OT:=(59,.keep)
def bFp:Nat×OT:=(1080,.keep)
def bFg:Nat×OT:=(1081,.keep)
def cKa:Nat×OT:=(1082,.keep)
def aRl:Nat×OT:=(1112,.keep)
def bO8:Nat×OT:=(1113,.keep)
def bM7:Nat×OT:=(1114,.keep)
def aKj:Nat×OT:=(1128,.keep)
def bAc:Nat×OT:=(1129,.keep)
def aY3:Nat×OT:=(1130,.keep)
def aY6:Nat×OT:=(1131,.keep)
def aYl:Nat×OT:=(1132,.keep)
def aYy:Nat×OT:=(1133,.keep)
def aZi:Nat×OT:=(1134,.keep)
def bAd:Nat×OT:=(1135,.keep)
def bNm:Nat×OT:=(1136,.keep)
def aX4:Nat×OT:=(1137,.keep)
def aYg:Nat×OT:=(1144,.keep)
def cCr:Nat×OT:=(1145,.keep)
def cAk:Nat×OT:=(1146,.keep)
def aOp:Nat×OT:=(1160,.keep)
def aUo:Nat×OT:=(1176,.keep)
def bP7:Nat×OT:=(1177,.keep)
def bPr:Nat×OT:=(1178,.keep)
def aKm:Nat×OT:=(1192,.keep)
def cAj:Nat×OT:=(1193,.keep)
def aCg:Nat×OT:=(1208,.keep)
def aOz:Nat×OT:=(1209,.keep)
def cJ3:Nat×OT:=(1224,.keep)
def cK6:Nat×OT:=(1240,.keep)
def aIs:Nat×OT:=(1272,.keep)
def aKe:Nat×OT:=(1273,.keep)
def bN6:Nat×OT:=(1288,.keep)
def aVf:Nat×OT:=(1304,.keep)
def aOv:Nat×OT:=(1336,.keep)
def aOj:Nat×OT:=(1337,.keep)
def cKm:Nat×OT:=(1352,.keep)
def cJ1:Nat×OT:=(1368,.keep)
def bPg:Nat×OT:=(1384,.keep)
def aL2:Nat×OT:=(1400,.keep)
def cKy:Nat×OT:=(1401,.keep)
def bZj:Nat×OT:=(1416,.keep)
def bP6:Nat×OT:=(1432,.keep)
def bOo:Nat×OT:=(1433,.keep)
def bOh:Nat×OT:=(1448,.keep)
def cKw:Nat×OT:=(1480,.keep)
def cK3:Nat×OT:=(1528,.keep)
def cK7:Nat×OT:=(1529,.keep)
def cJ5:Nat×OT:=(1530,.keep)
def cBx:Nat×OT:=(1560,.keep)
def cBm:Nat×OT:=(1561,.keep)
def cAb:Nat×OT:=(1576,.keep)
def cKh:Nat×OT:=(1592,.keep)
def cJ0:Nat×OT:=(1593,.keep)
def cJ8:Nat×OT:=(1608,.keep)
def cJz:Nat×OT:=(1609,.keep)
def bE7:Nat×OT:=(1624,.keep)
def aD7:Nat×OT:=(1672,.keep)
def aA8:Nat×OT:=(1720,.keep)
def cAg:Nat×OT:=(1736,.keep)
def cKq:Nat×OT:=(1755,.keep)
def cKv:Nat×OT:=(1756,.keep)
def aCl:Nat×OT:=(1768,.keep)
def cK1:Nat×OT:=(1787,.keep)
def cK5:Nat×OT:=(1788,.keep)
def aCm:Nat×OT:=(1816,.keep)
def bNi:Nat×OT:=(1896,.keep)
def bZi:Nat×OT:=(2152,.keep)
def cA4:Nat×OT:=(2153,.keep)
def fR:Nat×OT:=(300001,.keep)
def aGt:Nat×OT:=(300002,.keep)
def aPj:Nat×OT:=(300003,.keep)
def aQ:Nat×OT:=(1000000,.keep)
def qI:Nat×OT:=(1001100,.keep)
def sh1:Sh:=⟨[e3],[]⟩
def sh2:Sh:=⟨[e2],[]⟩
def sh3:Sh:=⟨[],[]⟩
def sh4:Sh:=⟨[e12],[]⟩
def sh5:Sh:=⟨[e10],[]⟩
def sh6:Sh:=⟨[e2,e1],[]⟩
def sh7:Sh:=⟨[e23],[]⟩
def sh8:Sh:=⟨[e15],[]⟩
def sh9:Sh:=⟨[e7],[o11]⟩
def aGv:Sh:=⟨[e20],[]⟩
def aHx:Sh:=⟨[e27],[]⟩
def aHs:Sh:=⟨[],[o2,o1,o3,o4]⟩
def aJq:Sh:=⟨[e14],[]⟩
def aJ4:Sh:=⟨[k1],[j1]⟩
def aNc:Sh:=⟨[e4,e1],[]⟩
def aM4:Sh:=⟨[e10],[o5,o6]⟩
def aO0:Sh:=⟨[e31],[o8,o13]⟩
def aPg:Sh:=⟨[e37],[]⟩
def aPc:Sh:=⟨[e28],[]⟩
def aPe:Sh:=⟨[k1,e6],[j1]⟩
def aQp:Sh:=⟨[e38],[o10,o19,o21]⟩
def aR8:Sh:=⟨[e48],[]⟩
def aSq:Sh:=⟨[e4,e1,e5],[]⟩
def aS4:Sh:=⟨[e4,e22],[]⟩
def aTc:Sh:=⟨[e10],[o5,o12]⟩
def aTd:Sh:=⟨[e52],[o8]⟩
def aTn:Sh:=⟨[e4,e25],[]⟩
def aXl:Sh:=⟨[e55],[]⟩
def aWe:Sh:=⟨[e61],[o20,o34]⟩
def aXy:Sh:=⟨[e7],[o45]⟩
def aWg:Sh:=⟨[e30,e1],[]⟩
def aXk:Sh:=⟨[e32],[]⟩
def aWh:Sh:=⟨[k2,k3,e9],[j2,j3]⟩
def bCy:Sh:=⟨[e4],[]⟩
def bCa:Sh:=⟨[e54],[]⟩
def bBk:Sh:=⟨[e42],[]⟩
def bBd:Sh:=⟨[e57,e18],[o15]⟩
def bC1:Sh:=⟨[e14,e1],[]⟩
def bBu:Sh:=⟨[e30,e44],[]⟩
def bA6:Sh:=⟨[e7],[o33]⟩
def bC0:Sh:=⟨[e46],[o15]⟩
def bBg:Sh:=⟨[e46],[o10]⟩
def bC2:Sh:=⟨[e62],[o27,o28,o35,o36,o37,o38,o22,o39,o44,o40]⟩
def bA8:Sh:=⟨[e31,e18],[o8,o13]⟩
def bAq:Sh:=⟨[e11,e1,e5,e71],[o4,o2,o1,o3]⟩
def bB3:Sh:=⟨[e58,e39],[]⟩
def bAz:Sh:=⟨[e3],[o2,o1,o3,o4]⟩
def bBz:Sh:=⟨[e69],[]⟩
def bCd:Sh:=⟨[e6],[]⟩
def bCt:Sh:=⟨[k0,k1,e40],[]⟩
def bGr:Sh:=⟨[e14,e22],[]⟩
def bHu:Sh:=⟨[e30],[]⟩
def bGl:Sh:=⟨[e7],[(0,ow9)]⟩
def bIe:Sh:=⟨[(8,vr2)],[]⟩
def bMp:Sh:=⟨[e2,e1,e5],[]⟩
def bPd:Sh:=⟨[(0,cLj)],[(0,cJf)]⟩
def bNl:Sh:=⟨[e2,e56],[]⟩
def bOu:Sh:=⟨[e2,e1,e5,(3,ag9)],[]⟩
def bQk:Sh:=⟨[e57],[o15]⟩
def bPm:Sh:=⟨[e4,e43,e51,e6,e8,e9],[]⟩
def bNq:Sh:=⟨[e4,e43,e51,e6,e8],[]⟩
def bNy:Sh:=⟨[e84],[]⟩
def bM0:Sh:=⟨[e68],[]⟩
def bP2:Sh:=⟨[e68],[o18]⟩
def bPh:Sh:=⟨[e58],[]⟩
def bQw:Sh:=⟨[e85],[]⟩
def bOv:Sh:=⟨[e7],[o20]⟩
def bNx:Sh:=⟨[e47,e1,e5,e6,e8],[]⟩
def bM3:Sh:=⟨[e36,e1],[]⟩
def bO3:Sh:=⟨[e4,e44],[]⟩
def bOz:Sh:=⟨[e32,e1],[]⟩
def bMs:Sh:=⟨[e11,e1,(2,ag3)],[o4,o2,o1,o3]⟩
def bOe:Sh:=⟨[e36,e1,e5,e6],[]⟩
def bQc:Sh:=⟨[e11],[o4,o2,o1,o3]⟩
def bPz:Sh:=⟨[e11,e1],[o4,o2,o1,o3]⟩
def bPy:Sh:=⟨[e4,e70,e5,e6],[]⟩
def bOp:Sh:=⟨[e23,e25],[]⟩
def bMv:Sh:=⟨[e7],[(0,aPd)]⟩
def bM4:Sh:=⟨[e20,(1,ag7)],[]⟩
def bO2:Sh:=⟨[k0,k1,e9],[]⟩
def bN0:Sh:=⟨[e9],[]⟩
def bMw:Sh:=⟨[k2,k3],[j2,o31,o24]⟩
def bPw:Sh:=⟨[k0],[o16,o14,o17,o25]⟩
def bQd:Sh:=⟨[e13],[o7]⟩
def bYe:Sh:=⟨[e7],[(0,.row 9 1 .str U)]⟩
def bXh:Sh:=⟨[e42,e1,e5],[]⟩
def bWm:Sh:=⟨[e55,e1],[]⟩
def bYi:Sh:=⟨[e77],[o33,(1,ow4)]⟩
def bVo:Sh:=⟨[e45],[]⟩
def bYj:Sh:=⟨[e4,e78,(2,bQj)],[o18]⟩
def bWs:Sh:=⟨[e27,e1],[]⟩
def bVj:Sh:=⟨[e4,e1,e5,e6,e8,(5,ag3)],[]⟩
def bVl:Sh:=⟨[e36,e1,e5,e6,e8],[]⟩
def bYh:Sh:=⟨[e52],[(0,bAw)]⟩
def bX2:Sh:=⟨[e45,e1,e5],[]⟩
def bXl:Sh:=⟨[e11,e79],[o4,o2,o1,o3]⟩
def bYf:Sh:=⟨[e20,e1],[]⟩
def bVu:Sh:=⟨[(0,bYv)],[]⟩
def bVe:Sh:=⟨[e7],[o15]⟩
def bMn:Sh:=⟨[k2,k3,(22,vr2)],[j2,j3]⟩
def bQu:Sh:=⟨[k0,k3,e9],[j3]⟩
def bPo:Sh:=⟨[k1,k2,k3,e8],[j1,j2,o31,o24]⟩
def bNf:Sh:=⟨[k1,k2,e9],[j2]⟩
def bPk:Sh:=⟨[k0,k3,k4,e9],[fR]⟩
def bPe:Sh:=⟨[e34],[]⟩
def bN8:Sh:=⟨[e13,k6,k7,e17],[o7]⟩
def bO0:Sh:=⟨[e16],[o9]⟩
def bQb:Sh:=⟨[k3,k7,k8,e21],[j3]⟩
def cAv:Sh:=⟨[e10,(1,.one (.var tb))],[]⟩
def bZ1:Sh:=⟨[(0,bN2),e1],[]⟩
def cB0:Sh:=⟨[e4,e43,e5,e6,e8,e9],[]⟩
def cCb:Sh:=⟨[e4,e1,e5,(3,ag9)],[]⟩
def cBv:Sh:=⟨[e4,e22,e5,e6],[]⟩
def bZl:Sh:=⟨[e69,(1,bW1)],[]⟩
def bY9:Sh:=⟨[e4,e1,(2,bCo),(3,ag5)],[]⟩
def cB9:Sh:=⟨[e4,(1,bQj),(2,bWp)],[]⟩
def bZo:Sh:=⟨[(0,bXd),e22],[]⟩
def cCg:Sh:=⟨[e4,e78,e5],[o18]⟩
def cAw:Sh:=⟨[e47,e1,e5,e6],[]⟩
def cAo:Sh:=⟨[e32,(1,vr8)],[]⟩
def bZ8:Sh:=⟨[e28,(1,cI9)],[]⟩
def bY8:Sh:=⟨[(0,cFk),e1,e5],[]⟩
def cBu:Sh:=⟨[e2,e25,e5,e6,(4,vr8)],[]⟩
def cB7:Sh:=⟨[e38,(1,cMf),e15],[o10,o19,o21,(3,ow8),(4,ow9)]⟩
def bZ5:Sh:=⟨[(0,cHa)],[o8,o13]⟩
def cA3:Sh:=⟨[e4,e1,(2,ag3)],[]⟩
def cCf:Sh:=⟨[e27,e1,e5,(3,vr8)],[]⟩
def cBy:Sh:=⟨[e7,e1,e15],[o11]⟩
def cA8:Sh:=⟨[e61,e18],[o20,o34]⟩
def cCw:Sh:=⟨[e4,e1,e5,e6,(4,ag3)],[]⟩
def cCh:Sh:=⟨[(0,bMz)],[o2,o1,o3,o4]⟩
def cBd:Sh:=⟨[e28,(1,vr8)],[]⟩
def bZw:Sh:=⟨[e38,e18],[o10,o19,o21]⟩
def cB8:Sh:=⟨[e14,e22,e15,(3,ag2)],[]⟩
def cB5:Sh:=⟨[e45,e22,e5,e6,(4,ag2)],[]⟩
def bZn:Sh:=⟨[e4,e70,e5,e6,e8],[]⟩
def cBg:Sh:=⟨[e59,(1,bXv),e5],[]⟩
def cCk:Sh:=⟨[e28,(1,bXv),e5],[]⟩
def cAl:Sh:=⟨[(0,cIt)],[o2,o1,o3]⟩
def cCd:Sh:=⟨[e4,e1,(2,vr7),e71],[]⟩
def bZ4:Sh:=⟨[e4,e1,(2,vr7),(3,ag4)],[]⟩
def cBw:Sh:=⟨[e11,e72],[o12,o5]⟩
def bY6:Sh:=⟨[e62,e18],[o27,o28,o35,o36,o37,o38,o22,o39,o44,o40]⟩
def cBn:Sh:=⟨[e11,e1],[o6,o5]⟩
def cAh:Sh:=⟨[k2,k3,e73],[j2,j3]⟩
def cBt:Sh:=⟨[k4,k5],[j4,(5,ob8),o46]⟩
def bZ9:Sh:=⟨[k0,k1,k4,(18,vr2)],[j4]⟩
def bZ0:Sh:=⟨[k1,e87,e8],[j1,(5,ow1)]⟩
def cCa:Sh:=⟨[k9,(30,vr2)],[j9]⟩
def cCt:Sh:=⟨[k2,k3,e74,e19],[j2,j3]⟩
def cCu:Sh:=⟨[k2,k3,k5,k6],[j2,j3]⟩
def bZc:Sh:=⟨[k2,k3,k4,k5,e89],[j4,j5]⟩
def bZp:Sh:=⟨[k3,k4,k5,k6,k7,k8,k12,e73],[j6,j7,j8,j12]⟩
def cCp:Sh:=⟨[k3,k4,k5,k6,k7,k8,k12,e80],[j6,j7,j8,j12]⟩
def cAd:Sh:=⟨[k2,k3],[j2,(3,ob8),o46]⟩
def bY2:Sh:=⟨[k7,k9,e24],[j7,aCg]⟩
def cAq:Sh:=⟨[k3,k4,k5,k6,k7,k10,e81],[j5,j6,j7,j10]⟩
def cCl:Sh:=⟨[k3,k4,k5,k6,e66],[j3,j4,j5,j6,(7,cJd),(1160,ow4),o55]⟩
def bZk:Sh:=⟨[k6,k7],[j6,(7,cI5),o47]⟩
def bZt:Sh:=⟨[k1,k3,k6,k7,e17],[j3,j6,(7,cI5),o47]⟩
def cA7:Sh:=⟨[k2],[(2,.box [.row 3,.row 7]),(3,aXj),(7,aWj)]⟩
def cA0:Sh:=⟨[k0,k1,k2,e29],[]⟩
def bZ3:Sh:=⟨[k1,(54,vr2)],[j1]⟩
def cAi:Sh:=⟨[k1,k2,e88],[j1,j2]⟩
def cAt:Sh:=⟨[k2,k3,e12],[(2,cIc),(3,cLt),aYg,cCr,cAk,aKm,cAj]⟩
def cBf:Sh:=⟨[k1,k2,e26,k6],[j2,o7]⟩
def cB4:Sh:=⟨[k2,k3,e89],[j2,j3]⟩
def cA2:Sh:=⟨[e33,k4,k5],[o22,aKj]⟩
def cAa:Sh:=⟨[k4,k5],[j4,(5,cMa),(1112,aM9)]⟩
def bY7:Sh:=⟨[k3,k4,e83],[j3,j4]⟩
def bZ7:Sh:=⟨[k4,k5],[j4,(5,cLm),aRl,bO8,bM7]⟩
def cB3:Sh:=⟨[k2,k4,e88],[j2,aOp]⟩
def cAm:Sh:=⟨[k3,k6,k7,k8,(24,vr2)],[j3,j6,j7,j8,aUo,bP7,bPr]⟩
def bZu:Sh:=⟨[k3,k6,k7,k8,(42,vr2)],[j3,j6,j7,j8,aUo,bP7,bPr]⟩
def cBe:Sh:=⟨[k0,k1,k5,k6,e66],[j0,j1,j2,j5,(7,cMk),(1544,aM9),aQ]⟩
def cCq:Sh:=⟨[k0,k1,k5,e24],[j0,o1,j2,j5,aQ]⟩
def cA6:Sh:=⟨[k0,k1,k5,k10],[j0,o1,j2,j5,aQ]⟩
def bZ2:Sh:=⟨[k0,k1,k5,k10,e75],[j0,j1,j2,j5,(11,cLu),(2312,aM9),(2313,ow5),(2314,aPd),aQ]⟩
def cAs:Sh:=⟨[e1,(5,vr9)],[(6,ow9)]⟩
def cBh:Sh:=⟨[k0,k1,k7,(8,bXr)],[j0,j1,j2,j7,(8,cHj),(1560,ow8),(1561,ow9),aQ]⟩
def cAp:Sh:=⟨[k0,k8,k9,k10,e75,e40],[j0,j1,j2,j8,(11,cMe),cBx,cBm,(2152,aIv),(2153,aNv),aQ]⟩
def cCc:Sh:=⟨[k0,k8,k9,k10,k11,(83,vr2)],[j0,j1,j2,j8,j11,cBx,cBm,bZi,cA4,aQ]⟩
def cBa:Sh:=⟨[],[o2,j1,j2,bZi,cA4,(1000000,cLc)]⟩
def cBj:Sh:=⟨[k0,k1,k7,e63],[j0,j1,j2,j7,(13,cL2),(2904,ow8),(2905,ow9),aQ]⟩
def bYz:Sh:=⟨[],[o16,o14,o17,o25]⟩
def bZd:Sh:=⟨[k4,k5],[j1,j2,j4,j5,(14,ow3),(1000000,cLx)]⟩
def cBr:Sh:=⟨[k6,k7],[j6,(7,ob9),o41]⟩
def cCe:Sh:=⟨[k1,k2,k3,e92],[j3,o32]⟩
def cCs:Sh:=⟨[k2,k4,(18,vr2)],[j4]⟩
def bZy:Sh:=⟨[],[o2,j1,j2,o4]⟩
def cAe:Sh:=⟨[k0,k1,e8],[o16,o14,o17,o25]⟩
def bZx:Sh:=⟨[k4,k5],[j4,(5,ob4),o16,o14,o17]⟩
def bZ6:Sh:=⟨[k1,k4,k5,e19],[j4,(5,ob4),o16,o14,o17]⟩
def cBq:Sh:=⟨[k2,k5,(6,vr4)],[j2,j5]⟩
def cBp:Sh:=⟨[k2,k3,k4,k5,k8,e83],[j4,j5,j8]⟩
def cAc:Sh:=⟨[k2,k3,k4,k6,(48,vr2)],[j2,j3,j4,j6,aKj,bAc,aY3,aY6,aYl,aYy,aZi,bAd,bNm,aX4]⟩
def cBo:Sh:=⟨[k0,(3,bYv)],[]⟩
def cCv:Sh:=⟨[e26],[(300001,.row 9 1 .str U)]⟩
def cB6:Sh:=⟨[k0,k1,k12,e50],[]⟩
def cAu:Sh:=⟨[e6,k6,k7,e17],[]⟩
def bZe:Sh:=⟨[e1,(5,.one (.row 1112))],[(1112,ow9)]⟩
def cAz:Sh:=⟨[k0,k1,k7,(8,bXr),e21],[j0,j1,j2,j7,(8,cGw),aQ]⟩
def bY0:Sh:=⟨[k0,k1,k7,k8,k9,(54,vr2)],[j0,j1,j2,j7,j8,aQ]⟩
def bZf:Sh:=⟨[k0,k1,e75,e40],[j0,j1,j2,(11,cL6),(2584,ow8),(2585,ow9),aQ]⟩
def cA9:Sh:=⟨[k0,k1,k7,k9,(116,vr2)],[j0,j1,j2,j7,aQ]⟩
def bY4:Sh:=⟨[k0,k1,k7,e63],[j0,j1,j2,j7,(13,cLe),(3176,ow8),(3177,ow9),aQ]⟩
def bYy:Sh:=⟨[k2,k3,k4,k5,k9,k10,e16],[j4,j5,aCl,aCm,o30]⟩
def cCx:Sh:=⟨[k3,k5,e19,k7,k8,k9],[j5,fR]⟩
def cCo:Sh:=⟨[k0,k3],[(0,bG4),j3,o6]⟩
def cBk:Sh:=⟨[k7,k9,e24],[j7,aKm]⟩
def bZr:Sh:=⟨[e67],[o43,qI]⟩
def yN.k:=cn 10 cAv bYe λ(a,b)=>yN a b
def aJ.k:=cn 45 bMp sh1 λ(a,b,c)=>aJ a b c
def aBo.k:=cn 85 sh2 sh1 aBo
def cW.k:=cn 103 aNc sh1 λ(a,b,c)=>cW (a,b) c
def aCj.k:=cn 86 ⟨[e4,(1,ag9)],[]⟩ sh1 λ(a,b,c,d,e,f,g)=>aCj (a,b) (c,d,e,f,g)
def aA4.k:=cn 87 bXh sh1 λ(a,b,c,d,e,f,g)=>aA4 (a,b,c,d,e) f g
def bY.k:=cn 44 bCy sh1 λ(a,b)=>bY (a,b)
def sL.k:=cn 141 aNc bPd λ(a,b,c)=>sL (a,b) c
def nW.k:=cn 107 sh2 sh1 nW
def mP.k:=cn 54 bCa sh1 λ(a,b,c,d)=>mP (a,b,c,d)
def qP.k:=cn 167 sh3 bCa λx=>qP
def kX.k:=cn 139 bZ1 bCa λ(a,b)=>kX a b
def nV.k:=cn 243 sh2 sh1 nV
def pD.k:=cn 340 aSq sh2 λ(a,b,c,d)=>pD (a,b) c d
def eN.k:=cn 238 aSq sh2 λ(a,b,c,d)=>eN (a,b) c d
def eW.k:=cn 334 aJq sh9 λ(a,b,c)=>eW (a,b,c)
def aE7.k:=cn 441 sh2 sh1 aE7
def tL.k:=cn 335 sh6 sh1 λ(a,b)=>tL a b
def tZ.k:=cn 235 ⟨[e54,e22,e5],[]⟩ sh1 λ(a,b,c,d,e,f,g,h)=>tZ (a,b,c,d) (e,f,g) h
def aHh.k:=cn 188 sh6 sh2 λ(a,b)=>aHh a b
def tE.k:=cn 336 ⟨[e54,e1],[]⟩ sh2 λ(a,b,c,d,e)=>tE (a,b,c,d) e
def aOd.k:=cn 378 sh6 sh2 λ(a,b)=>aOd a b
def yB.k:=cn 278 aXl sh2 yB
def kD.k:=cn 343 bNl sh2 λ(a,b)=>kD a b
def aCy.k:=cn 442 bOu sh2 λ(a,b,c,d,e,f,g,h)=>aCy a b c (d,e,f,g,h)
def hO.k:=cn 337 bOu bBk λ(a,b,c,d,e,f,g,h)=>hO a b c (d,e,f,g,h)
def pF.k:=cn 342 cB0 bBd λ(a,b,c,d,e,f,g,h,i,j)=>pF (a,b) (c,d,e,f) g h i j
def lR.k:=cn 341 ⟨[e4,e43,e5],[]⟩ sh9 λ(a,b,c,d,e,f,g)=>lR (a,b) (c,d,e,f) g
def dM.k:=cn 260 aSq sh6 λ(a,b,c,d)=>dM (a,b) c d
def uM.k:=cn 239 ⟨[e4,(1,bN2),e5,e6],[]⟩ ⟨[e7],[(0,aSz)]⟩ λ(a,b,c,d,e)=>uM (a,b) c d e
def nY.k:=cn 339 bBk sh1 λ(a,b,c,d,e)=>nY (a,b,c,d,e)
def gR.k:=cn 266 bWm sh1 λ(a,b)=>gR a b
def rC.k:=cn 237 aS4 sh1 λ(a,b,c,d,e)=>rC (a,b) (c,d,e)
def aCn.k:=cn 444 bC1 sh9 λ(a,b,c,d)=>aCn (a,b,c) d
def xZ.k:=cn 487 sh6 sh2 λ(a,b)=>xZ a b
def aB5.k:=cn 443 bNl sh2 λ(a,b)=>aB5 a b
def sF.k:=cn 338 bC1 sh2 λ(a,b,c,d)=>sF (a,b,c) d
def kV.k:=cn 348 cCb sh1 λ(a,b,c,d,e,f,g,h,i)=>kV (a,b) c d (e,f,g,h,i)
def nP.k:=cn 242 aS4 sh2 λ(a,b,c,d,e)=>nP (a,b) (c,d,e)
def lU.k:=cn 174 aJq sh2 λ(a,b,c)=>lU (a,b,c)
def fN.k:=cn 140 aS4 sh2 λ(a,b,c,d,e)=>fN (a,b) (c,d,e)
def mR.k:=cn 144 aS4 sh1 λ(a,b,c,d,e)=>mR (a,b) (c,d,e)
def mT.k:=cn 145 aJq sh1 λ(a,b,c)=>mT (a,b,c)
def nC.k:=cn 234 cBv sh1 λ(a,b,c,d,e,f,g)=>nC (a,b) (c,d,e) f g
def eB.k:=cn 147 aJq bQk λ(a,b,c)=>eB (a,b,c)
def aC2.k:=cn 236 bPm bQk λ(a,b,c,d,e,f,g,h,i,j,k,l)=>aC2 (a,b) (c,d,e,f) (g,h,i) j k l
def aAv.k:=cn 345 bPm bBd λ(a,b,c,d,e,f,g,h,i,j,k,l)=>aAv (a,b) (c,d,e,f) (g,h,i) j k l
def lG.k:=cn 344 bNq sh9 λ(a,b,c,d,e,f,g,h,i,j,k)=>lG (a,b) (c,d,e,f) (g,h,i) j k
def uN.k:=cn 240 ⟨[e4,(1,bN2),e5,(3,bCo)],[]⟩ ⟨[e7],[(0,aSz)]⟩ λ(a,b,c,d,e)=>uN (a,b) c d e
def aAf.k:=cn 445 bNy ⟨[e7],[(0,bAy)]⟩ aAf
def aDr.k:=cn 346 bM0 bPd λ(a,b)=>aDr (a,b)
def rP.k:=cn 377 bZl sh1 λ(a,b)=>rP a b
def iQ.k:=cn 349 bGr sh1 λ(a,b,c,d,e,f)=>iQ (a,b,c) (d,e,f)
def aFv.k:=cn 488 bBu sh1 λ(a,b,c,d,e,f,g,h)=>aFv (a,(b,c,d)) (e,(f,g,h))
def aAk.k:=cn 446 ⟨[e84,e44],[]⟩ sh1 λ(a,b,c,d,e)=>aAk a (b,(c,d,e))
def wH.k:=cn 489 aJq sh2 λ(a,b,c)=>wH (a,b,c)
def zI.k:=cn 447 bBu sh1 λ(a,b,c,d,e,f,g,h)=>zI (a,(b,c,d)) (e,(f,g,h))
def rX.k:=cn 347 bY9 bNy λ(a,b,c,d,e,f,g,h)=>rX (a,b) c d (e,(f,g,h))
def gX.k:=cn 241 cB9 bM0 λ(a,b,c,d,e)=>gX (a,b) (c,d) e
def rV.k:=cn 138 bNq bBd λ(a,b,c,d,e,f,g,h,i,j,k)=>rV (a,b) (c,d,e,f) (g,h,i) j k
def dL.k:=cn 75 ⟨[e4,(1,bN2),(2,bQj)],[]⟩ bYi λ(a,b,c,d,e)=>dL (a,b) c (d,e)
def iC.k:=cn 143 ⟨[(0,bXd)],[]⟩ bA6 iC
def aEe.k:=cn 244 bZo sh1 λ(a,b,c,d)=>aEe a (b,c,d)
def xC.k:=cn 146 ⟨[e45,e22],[]⟩ sh1 λ(a,b,c,d,e)=>xC (a,b) (c,d,e)
def oH.k:=cn 77 ⟨[e4,e70,e51],[]⟩ bYi λ(a,b,c,d,e,f,g)=>oH (a,b) (c,d) (e,f,g)
def sW.k:=cn 78 bVo sh2 λ(a,b)=>sW (a,b)
def dW.k:=cn 34 sh2 sh5 dW
def gN.k:=cn 142 bYj bP2 λ(a,b,c,d,e)=>gN (a,b) e (c,d)
def dA.k:=cn 76 cCg bP2 λ(a,b,c,d)=>dA (a,b) d c
def zQ.k:=cn 36 ⟨[e11],[o12,o5]⟩ aTc λ(a,b,c,d,e,f,g,h,i,j,k,l,m,n,o,p,q,r,s)=>zQ ((a,b),s,(c,d),e,((f,g),(h,i),(j,k,l),m,n,o,p,q,r))
def lZ.k:=cn 43 bCy ⟨[e77],[o27,o28]⟩ λ(a,b)=>lZ (a,b)
def lM.k:=cn 153 ⟨[e36],[]⟩ aWe λ(a,b,c)=>lM (a,b,c)
def zP.k:=cn 182 bHu bC0 λ(a,b,c,d)=>zP (a,b,c,d)
def lE.k:=cn 99 sh7 aTd lE
def iN.k:=cn 164 aHx aO0 λ(a,b,c,d,e,f,g,h,i,j)=>iN (a,b,c,d,e,f,g,h,i,j)
def aA3.k:=cn 154 ⟨[(0,.one (.var (.sl tFy)))],[]⟩ ⟨[e7],[(0,aJs)]⟩ aA3
def wG.k:=cn 280 ⟨[(0,bNd)],[]⟩ ⟨[e7],[o10]⟩ wG
def aD3.k:=cn 281 aPg aXy aD3
def gL.k:=cn 186 aPc aQp λ(a,b,c,d,e,f,g,h,i)=>gL (a,b,c,d,e,f,g,h,i)
def uK.k:=cn 155 ⟨[(0,.one (.var (.sl tFl)))],[]⟩ ⟨[e7],[(0,aLm)]⟩ uK
def aAd.k:=cn 249 bPh bBg λ(a,b,c,d)=>aAd (a,b,c,d)
def uD.k:=cn 156 ⟨[(0,cFk)],[]⟩ ⟨[e7],[(0,aNn)]⟩ uD
def sT.k:=cn 88 aGv bC2 λ(a,b,c,d,e,f,g,h,i,j,k,l,m)=>sT ((a,b),(c,d),(e,f,g),h,i,j,k,l,m)
def cN.k:=cn 185 bQw sh1 λ(a,b,c)=>cN (a,b,c)
def lP.k:=cn 352 bBk sh1 λ(a,b,c,d,e)=>lP (a,b,c,d,e)
def wP.k:=cn 353 ⟨[e47,(1,ag9)],[]⟩ bOv λ(a,b,c,d,e,f)=>wP a (b,c,d,e,f)
def aE4.k:=cn 355 ⟨[e42,e1,e5,e6],[]⟩ sh1 λ(a,b,c,d,e,f,g,h)=>aE4 (a,b,c,d,e) f g h
def nE.k:=cn 354 cAw sh2 λ(a,b,c,d)=>nE a b c d
def jK.k:=cn 250 ⟨[e47,e1,e5],[]⟩ sh1 λ(a,b,c)=>jK a b c
def hP.k:=cn 251 bNx sh2 λ(a,b,c,d,e)=>hP a b c d e
def aFh.k:=cn 149 sh6 sh2 λ(a,b)=>aFh a b
def vZ.k:=cn 252 bNx sh2 λ(a,b,c,d,e)=>vZ a b c d e
def sD.k:=cn 253 ⟨[(0,.one (.var (.sl tUs))),e1,e5,e6],[]⟩ sh2 λ(a,b,c,d)=>sD a b c d
def pA.k:=cn 157 bM3 sh1 λ(a,b,c,d)=>pA (a,b,c) d
def aDt.k:=cn 158 aGv sh1 λ(a,b,c,d,e,f,g,h,i,j,k,l,m)=>aDt ((a,b),(c,d),(e,f,g),h,i,j,k,l,m)
def nA.k:=cn 102 aPc sh1 λ(a,b,c,d,e,f,g,h,i)=>nA (a,b,c,d,e,f,g,h,i)
def xA.k:=cn 159 bPh sh1 λ(a,b,c,d)=>xA (a,b,c,d)
def aA0.k:=cn 254 cAo sh1 λ(a,b)=>aA0 a b
def oQ.k:=cn 160 bZ8 sh1 λ(a,b,c,d,e,f,g,h,i,j,k,l,m)=>oQ (a,b,c,d,e,f,g,h,i) (j,k,l,m)
def mU.k:=cn 104 bY8 sh2 λ(a,b,c)=>mU a b c
def gQ.k:=cn 89 aGv sh1 λ(a,b,c,d,e,f,g,h,i,j,k,l,m)=>gQ ((a,b),(c,d),(e,f,g),h,i,j,k,l,m)
def iM.k:=cn 356 ⟨[e47,e1],[]⟩ bOv λ(a,b)=>iM a b
def aCs.k:=cn 255 bM3 aWe λ(a,b,c,d)=>aCs (a,b,c) d
def fF.k:=cn 279 sh2 sh1 fF
def gS.k:=cn 183 aWg sh2 λ(a,b,c,d,e)=>gS (a,b,c,d) e
def fE.k:=cn 184 aWg sh2 λ(a,b,c,d,e)=>fE (a,b,c,d) e
def gJ.k:=cn 100 sh7 ⟨[e7],[(0,bCn)]⟩ gJ
def zJ.k:=cn 248 sh7 sh6 zJ
def kP.k:=cn 151 cBu aO0 λ(a,b,c,d,e)=>kP a b c d e
def eY.k:=cn 83 aPc bA8 λ(a,b,c,d,e,f,g,h,i)=>eY (a,b,c,d,e,f,g,h,i)
def aAe.k:=cn 357 aPc aQp λ(a,b,c,d,e,f,g,h,i)=>aAe (a,b,c,d,e,f,g,h,i)
def aCe.k:=cn 256 aPc cB7 λ(a,b,c,d,e,f,g,h,i)=>aCe (a,b,c,d,e,f,g,h,i)
def vQ.k:=cn 163 bAq aHs λ(a,b,c,d,e,f,g,h,i,j,k,l,m,n,o,p,q,r,s,t,u,v,w,x,y)=>vQ ((m,n),(o,p),(q,r,s),t,u,w,x,y,v) a b (c,d,e,f,g,h,i,j,k,l)
def aCi.k:=cn 454 ⟨[e7,e1],[(0,.row 3 1 ti W)]⟩ sh9 λ(a,b)=>aCi b a
def wQ.k:=cn 365 aNc sh9 λ(a,b,c)=>wQ (a,b) c
def wN.k:=cn 366 sh6 sh2 λ(a,b)=>wN a b
def dI.k:=cn 258 ⟨[e4,e56,e5],[]⟩ sh2 λ(a,b,c,d)=>dI (a,b) c d
def aAj.k:=cn 491 aJq sh1 λ(a,b,c)=>aAj (a,b,c)
def qQ.k:=cn 450 sh7 sh1 qQ
def vF.k:=cn 358 aHx sh1 λ(a,b,c,d,e,f,g,h,i,j)=>vF (a,b,c,d,e,f,g,h,i,j)
def aAa.k:=cn 460 bHu sh9 λ(a,b,c,d)=>aAa (a,b,c,d)
def zG.k:=cn 374 bO3 sh1 λ(a,b,c,d,e,f)=>zG (a,b) (c,d,e,f)
def aBr.k:=cn 375 sh2 sh2 aBr
def oN.k:=cn 274 aTn sh1 λ(a,b,c)=>oN (a,b) c
def iZ.k:=cn 275 sh7 sh9 iZ
def oO.k:=cn 175 aTn sh1 λ(a,b,c)=>oO (a,b) c
def gA.k:=cn 359 aHx sh2 λ(a,b,c,d,e,f,g,h,i,j)=>gA (a,b,c,d,e,f,g,h,i,j)
def aAp.k:=cn 360 ⟨[e2,e39],[]⟩ bZ5 λ(a,b,c,d,e,f,g,h,i,j,k)=>aAp a (b,c,d,e,f,g,h,i,j,k)
def aCr.k:=cn 490 sh6 sh2 λ(a,b)=>aCr a b
def lA.k:=cn 451 ⟨[e4,e39],[]⟩ bA8 λ(a,b,c,d,e,f,g,h,i,j,k,l)=>lA (a,b) (c,d,e,f,g,h,i,j,k,l)
def rJ.k:=cn 177 ⟨[e42,e1],[]⟩ sh1 λ(a,b,c,d,e,f)=>rJ (a,b,c,d,e) f
def nO.k:=cn 452 bWs sh1 λ(a,b,c,d,e,f,g,h,i,j,k)=>nO (a,b,c,d,e,f,g,h,i,j) k
def uW.k:=cn 361 cA3 ⟨[e31,e1],[o8,o13]⟩ λ(a,b,c,d,e,f,g,h,i,j,k,l,m)=>uW (a,b) c (d,e,f,g,h,i,j,k,l,m)
def rE.k:=cn 363 aHx sh1 λ(a,b,c,d,e,f,g,h,i,j)=>rE (a,b,c,d,e,f,g,h,i,j)
def kI.k:=cn 362 aHx aO0 λ(a,b,c,d,e,f,g,h,i,j)=>kI (a,b,c,d,e,f,g,h,i,j)
def oM.k:=cn 453 sh6 sh1 λ(a,b)=>oM a b
def vM.k:=cn 364 ⟨[e4,e86],[]⟩ sh1 λ(a,b,c,d,e)=>vM (a,b) (c,d,e)
def nL.k:=cn 257 bVj bZ5 λ(a,b,c,d,e,f,g,h,i,j,k,l,m,n,o,p)=>nL (a,b) c d e f (g,h,i,j,k,l,m,n,o,p)
def aCt.k:=cn 455 bB3 sh1 λ(a,b,c,d,e,f,g,h,i,j,k,l,m,n)=>aCt (a,b,c,d) (e,f,g,h,i,j,k,l,m,n)
def uJ.k:=cn 367 bB3 bBg λ(a,b,c,d,e,f,g,h,i,j,k,l,m,n)=>uJ (a,b,c,d) (e,f,g,h,i,j,k,l,m,n)
def sB.k:=cn 448 sh2 sh2 sB
def kQ.k:=cn 449 aWg sh2 λ(a,b,c,d,e)=>kQ (a,b,c,d) e
def vJ.k:=cn 351 bHu bC0 λ(a,b,c,d)=>vJ (a,b,c,d)
def jU.k:=cn 247 sh7 aTd jU
def aIf.k:=cn 456 cCf aO0 λ(a,b,c,d,e,f,g,h,i,j,k,l,m)=>aIf (a,b,c,d,e,f,g,h,i,j) k l m
def aCa.k:=cn 368 bB3 bA8 λ(a,b,c,d,e,f,g,h,i,j,k,l,m,n)=>aCa (a,b,c,d) (e,f,g,h,i,j,k,l,m,n)
def wD.k:=cn 369 ⟨[e28,e39],[]⟩ aQp λ(a,b,c,d,e,f,g,h,i,j,k,l,m,n,o,p,q,r,s)=>wD (a,b,c,d,e,f,g,h,i) (j,k,l,m,n,o,p,q,r,s)
def wX.k:=cn 500 bOz ⟨[e2,e1,e15],[]⟩ λ(a,b)=>wX a b
def wZ.k:=cn 493 ⟨[e32,e1,e5],[]⟩ cBy λ(a,b,c)=>wZ a b c
def lN.k:=cn 458 aXk ⟨[e85,e18],[]⟩ lN
def xK.k:=cn 380 ⟨[e23,e86],[]⟩ sh1 λ(a,b,c,d)=>xK a (b,c,d)
def qN.k:=cn 459 ⟨[e59,e86],[]⟩ ⟨[e59],[]⟩ λ(a,b,c,d)=>qN a (b,c,d)
def lV.k:=cn 373 ⟨[e28,e39,e5],[]⟩ ⟨[(0,.agg [.var ti,.var ti,.var ti,.var ti,.row 0,.row 1,.var ti,.var ti,.var (.sl tRv)])],[o10,o19]⟩ λ(a,b,c,d,e,f,g,h,i,j,k,l,m,n,o,p,q,r,s,t)=>lV (a,b,c,d,e,f,g,h,i) (j,k,l,m,n,o,p,q,r,s) t
def sJ.k:=cn 265 bMs aHs λ(a,b,c,d,e,f,g,h,i,j,k,l,m,n,o,p,q,r,s,t,u,v,w,x)=>sJ ((l,m),(n,o),(p,q,r),s,t,v,w,x,u) a (b,c,d,e,f,g,h,i,j,k)
def zF.k:=cn 259 bMs aHs λ(a,b,c,d,e,f,g,h,i,j,k,l,m,n,o,p,q,r,s,t,u,v,w,x)=>zF ((l,m),(n,o),(p,q,r),s,t,v,w,x,u) a (b,c,d,e,f,g,h,i,j,k)
def wB.k:=cn 370 bOe sh2 λ(a,b,c,d,e,f)=>wB (a,b,c) d e f
def aB1.k:=cn 371 bOe aWe λ(a,b,c,d,e,f)=>aB1 (a,b,c) d e f
def zA.k:=cn 261 bVl cA8 λ(a,b,c,d,e,f,g)=>zA (a,b,c) d e f g
def aAi.k:=cn 263 aHx sh2 λ(a,b,c,d,e,f,g,h,i,j)=>aAi (a,b,c,d,e,f,g,h,i,j)
def kF.k:=cn 264 aHx bYh λ(a,b,c,d,e,f,g,h,i,j)=>kF (a,b,c,d,e,f,g,h,i,j)
def sO.k:=cn 492 bOz bGl λ(a,b)=>sO a b
def wO.k:=cn 457 aXl bGl wO
def lW.k:=cn 372 bQw bGl λ(a,b,c)=>lW (a,b,c)
def iY.k:=cn 262 cCw aO0 λ(a,b,c,d,e,f,g,h,i,j,k,l,m,n,o)=>iY (a,b) c d e (f,g,h,i,j,k,l,m,n,o)
def jW.k:=cn 163 bAq aHs λ(a,b,c,d,e,f,g,h,i,j,k,l,m,n,o,p,q,r,s,t,u,v,w,x,y)=>jW ((m,n),(o,p),(q,r,s),t,u,w,x,y,v) a b (c,d,e,f,g,h,i,j,k,l)
def nH.k:=cn 259 bMs aHs λ(a,b,c,d,e,f,g,h,i,j,k,l,m,n,o,p,q,r,s,t,u,v,w,x)=>nH ((l,m),(n,o),(p,q,r),s,t,v,w,x,u) a (b,c,d,e,f,g,h,i,j,k)
def fQ.k:=cn 163 bAq aHs λ(a,b,c,d,e,f,g,h,i,j,k,l,m,n,o,p,q,r,s,t,u,v,w,x,y)=>fQ ((m,n),(o,p),(q,r,s),t,u,w,x,y,v) a b (c,d,e,f,g,h,i,j,k,l)
def aCd.k:=cn 161 bQc bAz λ(a,b,c,d,e,f,g,h,i,j,k,l,m)=>aCd ((a,b),(c,d),(e,f,g),h,i,k,l,m,j)
def sM.k:=cn 162 bPz cCh λ(a,b,c,d,e,f,g,h,i,j,k,l,m,n)=>sM ((b,c),(d,e),(f,g,h),i,j,l,m,n,k) a
def aDz.k:=cn 165 ⟨[e11,e1,e15],[o4,o2,o1,o3]⟩ bAz λ(a,b,c,d,e,f,g,h,i,j,k,l,m,n,o)=>aDz ((c,d),(e,f),(g,h,i),j,k,m,n,o,l) a b
def aDx.k:=cn 267 cBd bZw λ(a,b,c,d,e,f,g,h,i,j)=>aDx (a,b,c,d,e,f,g,h,i) j
def xT.k:=cn 270 aJq sh2 λ(a,b,c)=>xT (a,b,c)
def eP.k:=cn 171 ⟨[e45,e1],[]⟩ bA6 λ(a,b,c)=>eP (a,b) c
def tK.k:=cn 268 bC1 sh2 λ(a,b,c,d)=>tK (a,b,c) d
def eH.k:=cn 269 ⟨[e14,e1,e5],[]⟩ bC0 λ(a,b,c,d,e)=>eH (a,b,c) d e
def oY.k:=cn 272 bX2 bA6 λ(a,b,c,d)=>oY (a,b) c d
def rL.k:=cn 273 cB8 aTd λ(a,b,c,d,e,f,g,h,i,j)=>rL (a,b,c) (d,e,f) g (h,i,j)
def iF.k:=cn 173 cB5 aXy λ(a,b,c,d,e,f,g,h,i,j)=>iF (a,b) (c,d,e) f g (h,i,j)
def yO.k:=cn 170 bX2 aXy λ(a,b,c,d)=>yO (a,b) c d
def aDw.k:=cn 271 bGr aTd λ(a,b,c,d,e,f)=>aDw (a,b,c) (d,e,f)
def uX.k:=cn 172 bGr aTd λ(a,b,c,d,e,f)=>uX (a,b,c) (d,e,f)
def pZ.k:=cn 95 bPy aXy λ(a,b,c,d,e,f)=>pZ (a,b) (c,d) e f
def aD0.k:=cn 376 aWg sh2 λ(a,b,c,d,e)=>aD0 (a,b,c,d) e
def tM.k:=cn 276 bO3 sh1 λ(a,b,c,d,e,f)=>tM (a,b) (c,d,e,f)
def uQ.k:=cn 176 aTn sh1 λ(a,b,c)=>uQ (a,b) c
def tO.k:=cn 96 ⟨[e4,e25,e5],[]⟩ sh1 λ(a,b,c,d)=>tO (a,b) c d
def wW.k:=cn 277 bBu sh1 λ(a,b,c,d,e,f,g,h)=>wW (a,b,c,d) (e,f,g,h)
def uH.k:=cn 178 bOp sh1 λ(a,b)=>uH a b
def aCc.k:=cn 97 ⟨[e37,e25],[]⟩ sh1 λ(a,b)=>aCc a b
def fO.k:=cn 49 bZn aPg λ(a,b,c,d,e,f,g)=>fO (a,b) (c,d) e f g
def rD.k:=cn 179 sh7 sh2 rD
def oZ.k:=cn 180 sh7 sh2 oZ
def tS.k:=cn 181 sh7 sh2 tS
def xH.k:=cn 98 bOp sh1 λ(a,b)=>xH a b
def tG.k:=cn 50 aPg aPg tG
def jM.k:=cn 379 ⟨[e59,e1],[]⟩ bMv λ(a,b)=>jM a b
def aBz.k:=cn 282 ⟨[e59,e25,e5],[]⟩ sh1 λ(a,b,c)=>aBz a b c
def nQ.k:=cn 187 cBg aXy λ(a,b,c)=>nQ a b c
def uB.k:=cn 105 cCk ⟨[(0,.agg [.var ti,.var ti,.var ti,.var ti,.row 0,.var (.sl tPt),.var ti,.var ti,.row 1])],[o10,(1,aPd)]⟩ λ(a,b,c,d,e,f,g,h,i,j,k)=>uB (a,b,c,d,e,f,g,h,i) j k
def aDs.k:=cn 166 bXl bAz λ(a,b,c,d,e,f,g,h,i,j,k,l,m,n,o,p,q,r,s,t,u,v,w,x,y,z,A,B)=>aDs ((p,q),(r,s),(t,u,v),w,x,z,A,B,y) (a,b,c,(d,e,(f,g,h,i,j,k,l,m,n,o)))
def pY.k:=cn 90 bXl bAz λ(a,b,c,d,e,f,g,h,i,j,k,l,m,n,o,p,q,r,s,t,u,v,w,x,y,z,A,B)=>pY ((p,q),(r,s),(t,u,v),w,x,z,A,B,y) (a,b,c,(d,e,(f,g,h,i,j,k,l,m,n,o)))
def rH.k:=cn 46 ⟨[e20,e79],[]⟩ ⟨[(0,cIt),e18],[o2,o1,o3]⟩ λ(a,b,c,d,e,f,g,h,i,j,k,l,m,n,o,p,q,r,s,t,u,v,w,x,y,z,A,B)=>rH ((a,b),(c,d),(e,f,g),h,i,j,k,l,m) (n,o,p,(q,r,(s,t,u,v,w,x,y,z,A,B)))
def aAo.k:=cn 47 sh1 sh5 aAo
def rZ.k:=cn 25 ⟨[e11,e79],[o12,o5]⟩ aTc λ(a,b,c,d,e,f,g,h,i,j,k,l,m,n,o,p,q,r,s,t,u,v,w,x,y,z,A,B,C,D,E,F,G,H)=>rZ ((p,q),H,(r,s),t,((u,v),(w,x),(y,z,A),B,C,D,E,F,G)) (a,b,c,(d,e,(f,g,h,i,j,k,l,m,n,o)))
def iW.k:=cn 80 aGv sh2 λ(a,b,c,d,e,f,g,h,i,j,k,l,m)=>iW ((a,b),(c,d),(e,f,g),h,i,j,k,l,m)
def aEd.k:=cn 245 bPz aHs λ(a,b,c,d,e,f,g,h,i,j,k,l,m,n)=>aEd ((b,c),(d,e),(f,g,h),i,j,l,m,n,k) a
def yW.k:=cn 148 bQc aHs λ(a,b,c,d,e,f,g,h,i,j,k,l,m)=>yW ((a,b),(c,d),(e,f,g),h,i,k,l,m,j)
def rT.k:=cn 79 bYf cAl λ(a,b,c,d,e,f,g,h,i,j,k,l,m,n)=>rT ((a,b),(c,d),(e,f,g),h,i,j,k,l,m) n
def aEv.k:=cn 37 aGv cAl λ(a,b,c,d,e,f,g,h,i,j,k,l,m)=>aEv ((a,b),(c,d),(e,f,g),h,i,j,k,l,m)
def aBn.k:=cn 81 aGv sh9 λ(a,b,c,d,e,f,g,h,i,j,k,l,m)=>aBn ((a,b),(c,d),(e,f,g),h,i,j,k,l,m)
def jF.k:=cn 38 aGv sh5 λ(a,b,c,d,e,f,g,h,i,j,k,l,m)=>jF ((a,b),(c,d),(e,f,g),h,i,j,k,l,m)
def yP.k:=cn 350 cCd ⟨[(0,.agg [.var ti,.row 0,.var ti,.var ti,.var ti,.row 1,.var ti,.var ti,.var ti,.var ti,.var ti,.row 2])],[(0,bCn),(1,ow8),(2,ow9)]⟩ λ(a,b,c,d,e,f,g,h,i,j,k,l,m,n)=>yP (a,b) c d (e,f,g,h,i,j,k,l,m,n)
def aBi.k:=cn 246 bZ4 sh1 λ(a,b,c,d,e)=>aBi (a,b) c d e
def aCf.k:=cn 150 ⟨[e20,e25,e5],[]⟩ sh1 λ(a,b,c,d,e,f,g,h,i,j,k,l,m,n,o)=>aCf ((a,b),(c,d),(e,f,g),h,i,j,k,l,m) n o
def vL.k:=cn 82 bM4 sh2 λ(a,b,c,d,e,f,g,h,i,j,k,l,m,n,o,p,q,r,s,t,u,v)=>vL ((a,b),(c,d),(e,f,g),h,i,j,k,l,m) (n,o,p,q,r,s,t,u,v)
def pQ.k:=cn 40 aGv sh1 λ(a,b,c,d,e,f,g,h,i,j,k,l,m)=>pQ ((a,b),(c,d),(e,f,g),h,i,j,k,l,m)
def aEq.k:=cn 39 sh1 sh5 aEq
def aEw.k:=cn 41 aGv sh1 λ(a,b,c,d,e,f,g,h,i,j,k,l,m)=>aEw ((a,b),(c,d),(e,f,g),h,i,j,k,l,m)
def qC.k:=cn 101 aNc sh5 λ(a,b,c)=>qC (a,b) c
def jP.k:=cn 152 aSq sh5 λ(a,b,c,d)=>jP (a,b) c d
def xD.k:=cn 84 aNc sh5 λ(a,b,c)=>xD (a,b) c
def mD.k:=cn 42 bCy sh5 λ(a,b)=>mD (a,b)
def zB.k:=cn 21 cBw aTc λ(a,b,c,d,e,f,g,h,i,j,k,l,m,n,o,p,q,r,s,t)=>zB ((b,c),t,(d,e),f,((g,h),(i,j),(k,l,m),n,o,p,q,r,s)) a
def wC.k:=cn 24 sh5 ⟨[e2,e18],[]⟩ wC
def aAh.k:=cn 22 bVu ⟨[e7,e18],[o11]⟩ aAh
def aAg.k:=cn 23 ⟨[e11,e56,(2,vr4)],[o12,o5]⟩ aTc λ(a,b,c,d,e,f,g,h,i,j,k,l,m,n,o,p,q,r,s,t,u)=>aAg ((c,d),u,(e,f),g,((h,i),(j,k),(l,m,n),o,p,q,r,s,t)) a b
def aBv.k:=cn 91 ⟨[e11,e1,e15],[o12,o5]⟩ aTc λ(a,b,c,d,e,f,g,h,i,j,k,l,m,n,o,p,q,r,s,t,u)=>aBv ((c,d),u,(e,f),g,((h,i),(j,k),(l,m,n),o,p,q,r,s,t)) a b
def sQ.k:=cn 168 sh2 aWe sQ
def rS.k:=cn 92 bPy bC2 λ(a,b,c,d,e,f)=>rS (a,b) (c,d) e f
def aEs.k:=cn 93 bYf sh5 λ(a,b,c,d,e,f,g,h,i,j,k,l,m,n)=>aEs ((a,b),(c,d),(e,f,g),h,i,j,k,l,m) n
def cI.k:=cn 169 sh2 sh5 cI
def aDp.k:=cn 94 sh5 sh2 aDp
def aF3.k:=cn 48 ⟨[e11,e72,e5],[o12,o5]⟩ aTc λ(a,b,c,d,e,f,g,h,i,j,k,l,m,n,o,p,q,r,s,t,u)=>aF3 ((c,d),u,(e,f),g,((h,i),(j,k),(l,m,n),o,p,q,r,s,t)) a b
def uF.k:=cn 51 aTn sh5 λ(a,b,c)=>uF (a,b) c
def aDo.k:=cn 53 bMp aQp λ(a,b,c)=>aDo a b c
def aD6.k:=cn 106 sh6 bBg λ(a,b)=>aD6 a b
def wS.k:=cn 52 bM4 ⟨[e62,e18],[o27,o28,o35,o36,o37,o38,o22,o39,(8,ow2),o40]⟩ λ(a,b,c,d,e,f,g,h,i,j,k,l,m,n,o,p,q,r,s,t,u,v)=>wS ((a,b),(c,d),(e,f,g),h,i,j,k,l,m) (n,o,p,q,r,s,t,u,v)
def oF.k:=cn 26 ⟨[e11,e72,(2,vr7)],[o12,o5]⟩ aTc λ(a,b,c,d,e,f,g,h,i,j,k,l,m,n,o,p,q,r,s,t,u)=>oF ((c,d),u,(e,f),g,((h,i),(j,k),(l,m,n),o,p,q,r,s,t)) a b
def qR.k:=cn 11 cBw aTc λ(a,b,c,d,e,f,g,h,i,j,k,l,m,n,o,p,q,r,s,t)=>qR ((b,c),t,(d,e),f,((g,h),(i,j),(k,l,m),n,o,p,q,r,s)) a
def aDq.k:=cn 5 sh5 sh5 aDq
def aAb.k:=cn 12 cAv bYe λ(a,b)=>aAb a b
def dT.k:=cn 55 sh2 sh5 dT
def wJ.k:=cn 27 sh5 ⟨[e2,e18],[]⟩ wJ
def aY.k:=cn 129 bMp sh1 λ(a,b,c)=>aY a b c
def aCk.k:=cn 204 sh2 sh1 aCk
def fT.k:=cn 114 aNc sh1 λ(a,b,c)=>fT (a,b) c
def aFx.k:=cn 205 ⟨[e4,(1,ag9)],[]⟩ sh1 λ(a,b,c,d,e,f,g)=>aFx (a,b) (c,d,e,f,g)
def iV.k:=cn 206 bXh sh1 λ(a,b,c,d,e,f,g)=>iV (a,b,c,d,e) f g
def cR.k:=cn 111 bCy sh1 λ(a,b)=>cR (a,b)
def cL.k:=cn 225 bQw sh1 λ(a,b,c)=>cL (a,b,c)
def lO.k:=cn 381 bBk sh1 λ(a,b,c,d,e)=>lO (a,b,c,d,e)
def gC.k:=cn 383 bXh sh1 λ(a,b,c,d,e,f,g)=>gC (a,b,c,d,e) f g
def nD.k:=cn 382 cAw sh2 λ(a,b,c,d)=>nD a b c d
def jL.k:=cn 283 ⟨[e47,e1,e5],[]⟩ sh1 λ(a,b,c)=>jL a b c
def vN.k:=cn 284 bOe sh2 λ(a,b,c,d,e,f)=>vN (a,b,c) d e f
def aIo.k:=cn 229 sh6 sh2 λ(a,b)=>aIo a b
def aBw.k:=cn 384 bNx sh2 λ(a,b,c,d,e)=>aBw a b c d e
def nI.k:=cn 385 bNx sh2 λ(a,b,c,d,e)=>nI a b c d e
def aCp.k:=cn 285 bVl sh2 λ(a,b,c,d,e,f,g)=>aCp (a,b,c) d e f g
def oU.k:=cn 189 bM3 sh1 λ(a,b,c,d)=>oU (a,b,c) d
def mQ.k:=cn 125 aPc sh1 λ(a,b,c,d,e,f,g,h,i)=>mQ (a,b,c,d,e,f,g,h,i)
def xB.k:=cn 190 bPh sh1 λ(a,b,c,d)=>xB (a,b,c,d)
def aAw.k:=cn 386 cAo sh1 λ(a,b)=>aAw a b
def qO.k:=cn 286 ⟨[(0,bNd),(1,bNd)],[]⟩ sh1 λ(a,b)=>qO a b
def oT.k:=cn 191 bZ8 sh1 λ(a,b,c,d,e,f,g,h,i,j,k,l,m)=>oT (a,b,c,d,e,f,g,h,i) (j,k,l,m)
def gP.k:=cn 108 aGv sh1 λ(a,b,c,d,e,f,g,h,i,j,k,l,m)=>gP ((a,b),(c,d),(e,f,g),h,i,j,k,l,m)
def eO.k:=cn 58 bCy ⟨[e77],[o27,o28]⟩ λ(a,b)=>eO (a,b)
def pL.k:=cn 310 bBz bVe pL
def cG.k:=cn 213 aJq bQk λ(a,b,c)=>cG (a,b,c)
def dY.k:=cn 118 ⟨[(0,bXd)],[]⟩ bA6 dY
def mS.k:=cn 192 bVo bYi λ(a,b)=>mS (a,b)
def gI.k:=cn 287 ⟨[e47],[]⟩ bOv gI
def gT.k:=cn 193 ⟨[e36],[]⟩ aWe λ(a,b,c)=>gT (a,b,c)
def vX.k:=cn 194 aXl sh9 vX
def gG.k:=cn 221 sh7 aTd gG
def fZ.k:=cn 288 aXk bGl fZ
def eL.k:=cn 195 aHx aO0 λ(a,b,c,d,e,f,g,h,i,j)=>eL (a,b,c,d,e,f,g,h,i,j)
def mV.k:=cn 289 ⟨[(0,bNd)],[]⟩ ⟨[e7],[o10]⟩ mV
def zD.k:=cn 290 aPg aXy zD
def gD.k:=cn 291 ⟨[e59],[]⟩ bMv gD
def gF.k:=cn 196 aPc aQp λ(a,b,c,d,e,f,g,h,i)=>gF (a,b,c,d,e,f,g,h,i)
def tH.k:=cn 197 bPh bBg λ(a,b,c,d)=>tH (a,b,c,d)
def eX.k:=cn 109 aGv bC2 λ(a,b,c,d,e,f,g,h,i,j,k,l,m)=>eX ((a,b),(c,d),(e,f,g),h,i,j,k,l,m)
def iG.k:=cn 387 ⟨[e47,e1],[]⟩ bOv λ(a,b)=>iG a b
def aCu.k:=cn 292 bM3 aWe λ(a,b,c,d)=>aCu (a,b,c) d
def fG.k:=cn 425 sh2 sh1 fG
def iU.k:=cn 328 aWg sh2 λ(a,b,c,d,e)=>iU (a,b,c,d) e
def iD.k:=cn 329 aWg sh2 λ(a,b,c,d,e)=>iD (a,b,c,d) e
def kR.k:=cn 223 sh7 ⟨[e7],[(0,bCn)]⟩ kR
def zK.k:=cn 333 sh7 sh6 zK
def kW.k:=cn 232 cBu aO0 λ(a,b,c,d,e)=>kW a b c d e
def fA.k:=cn 135 aPc bA8 λ(a,b,c,d,e,f,g,h,i)=>fA (a,b,c,d,e,f,g,h,i)
def vY.k:=cn 388 aPc sh2 λ(a,b,c,d,e,f,g,h,i)=>vY (a,b,c,d,e,f,g,h,i)
def aBm.k:=cn 293 aPc cB7 λ(a,b,c,d,e,f,g,h,i)=>aBm (a,b,c,d,e,f,g,h,i)
def qY.k:=cn 200 bAq aHs λ(a,b,c,d,e,f,g,h,i,j,k,l,m,n,o,p,q,r,s,t,u,v,w,x,y)=>qY ((m,n),(o,p),(q,r,s),t,u,w,x,y,v) a b (c,d,e,f,g,h,i,j,k,l)
def rN.k:=cn 202 bWm aXl λ(a,b)=>rN a b
def xE.k:=cn 398 aNc aXl λ(a,b,c)=>xE (a,b) c
def pG.k:=cn 399 aSq sh2 λ(a,b,c,d)=>pG (a,b) c d
def jB.k:=cn 201 bWm sh1 λ(a,b)=>jB a b
def nU.k:=cn 207 sh2 sh1 nU
def xL.k:=cn 400 sh6 sh2 λ(a,b)=>xL a b
def dZ.k:=cn 295 ⟨[e4,e56,e5],[]⟩ sh2 λ(a,b,c,d)=>dZ (a,b) c d
def pM.k:=cn 389 ⟨[e2,(1,.one (.ptr 1000001 0))],[(1000001,ob7)]⟩ ⟨[(0,cHa)],[o8,o13,(1000001,ob7)]⟩ λ(a,b,c,d,e,f,g,h,i,j,k)=>pM a (b,c,d,e,f,g,h,i,j,k)
def dK.k:=cn 313 sh2 sh1 dK
def rW.k:=cn 478 bBk sh1 λ(a,b,c,d,e)=>rW (a,b,c,d,e)
def qT.k:=cn 494 bBz sh1 qT
def qK.k:=cn 461 sh7 sh1 qK
def aCq.k:=cn 462 aHx sh1 λ(a,b,c,d,e,f,g,h,i,j)=>aCq (a,b,c,d,e,f,g,h,i,j)
def fY.k:=cn 391 aHx sh2 λ(a,b,c,d,e,f,g,h,i,j)=>fY (a,b,c,d,e,f,g,h,i,j)
def vH.k:=cn 390 aHx sh1 λ(a,b,c,d,e,f,g,h,i,j)=>vH (a,b,c,d,e,f,g,h,i,j)
def aC1.k:=cn 421 ⟨[e4,(1,bW1)],[]⟩ sh1 λ(a,b,c)=>aC1 (a,b) c
def fC.k:=cn 402 aSq sh6 λ(a,b,c,d)=>fC (a,b) c d
def zE.k:=cn 481 bO3 sh1 λ(a,b,c,d,e,f)=>zE (a,b) (c,d,e,f)
def aBj.k:=cn 482 sh2 sh2 aBj
def oX.k:=cn 430 aTn sh1 λ(a,b,c)=>oX (a,b) c
def aEh.k:=cn 483 ⟨[(0,.one (.var (.sl aEl)))],[]⟩ sh9 aEh
def jA.k:=cn 431 sh7 sh9 jA
def oJ.k:=cn 322 aTn sh1 λ(a,b,c)=>oJ (a,b) c
def xX.k:=cn 486 sh6 sh2 λ(a,b)=>xX a b
def aCw.k:=cn 485 sh6 sh2 λ(a,b)=>aCw a b
def aN9.k:=cn 484 sh6 sh2 λ(a,b)=>aN9 a b
def yD.k:=cn 435 aXl sh2 yD
def kH.k:=cn 415 bNl sh2 λ(a,b)=>kH a b
def aCz.k:=cn 471 bOu sh2 λ(a,b,c,d,e,f,g,h)=>aCz a b c (d,e,f,g,h)
def nB.k:=cn 422 cCb sh1 λ(a,b,c,d,e,f,g,h,i)=>nB (a,b) c d (e,f,g,h,i)
def lK.k:=cn 463 ⟨[e4,e39],[]⟩ bA8 λ(a,b,c,d,e,f,g,h,i,j,k,l)=>lK (a,b) (c,d,e,f,g,h,i,j,k,l)
def aA2.k:=cn 495 ⟨[e42,e1],[]⟩ sh1 λ(a,b,c,d,e,f)=>aA2 (a,b,c,d,e) f
def jQ.k:=cn 464 bWs sh1 λ(a,b,c,d,e,f,g,h,i,j,k)=>jQ (a,b,c,d,e,f,g,h,i,j) k
def pI.k:=cn 392 cA3 bWs λ(a,b,c,d,e,f,g,h,i,j,k,l,m)=>pI (a,b) c (d,e,f,g,h,i,j,k,l,m)
def kE.k:=cn 393 aHx sh1 λ(a,b,c,d,e,f,g,h,i,j)=>kE (a,b,c,d,e,f,g,h,i,j)
def pE.k:=cn 394 aHx sh1 λ(a,b,c,d,e,f,g,h,i,j)=>pE (a,b,c,d,e,f,g,h,i,j)
def rU.k:=cn 395 aHx aO0 λ(a,b,c,d,e,f,g,h,i,j)=>rU (a,b,c,d,e,f,g,h,i,j)
def eK.k:=cn 412 aSq sh2 λ(a,b,c,d)=>eK (a,b) c d
def oV.k:=cn 465 sh6 sh1 λ(a,b)=>oV a b
def vP.k:=cn 396 ⟨[e4,e86],[]⟩ sh1 λ(a,b,c,d,e)=>vP (a,b) (c,d,e)
def uR.k:=cn 397 sh6 sh1 λ(a,b)=>uR a b
def xU.k:=cn 294 bVj ⟨[(0,bMz),e1],[]⟩ λ(a,b,c,d,e,f,g,h,i,j,k,l,m,n,o,p)=>xU (a,b) c d e f (g,h,i,j,k,l,m,n,o,p)
def zO.k:=cn 466 bOe sh2 λ(a,b,c,d,e,f)=>zO (a,b,c) d e f
def aCb.k:=cn 401 bVl cA8 λ(a,b,c,d,e,f,g)=>aCb (a,b,c) d e f g
def pW.k:=cn 296 ⟨[e11,e1,(2,bMz)],[o4,o2,o1,o3]⟩ aHs λ(a,b,c,d,e,f,g,h,i,j,k,l,m,n,o,p,q,r,s,t,u,v,w,x,y,z)=>pW ((n,o),(p,q),(r,s,t),u,v,x,y,z,w) a (b,c,(d,e,f,g,h,i,j,k,l,m))
def qZ.k:=cn 126 bY8 sh2 λ(a,b,c)=>qZ a b c
def zL.k:=cn 403 bB3 sh1 λ(a,b,c,d,e,f,g,h,i,j,k,l,m,n)=>zL (a,b,c,d) (e,f,g,h,i,j,k,l,m,n)
def uP.k:=cn 297 bB3 bBg λ(a,b,c,d,e,f,g,h,i,j,k,l,m,n)=>uP (a,b,c,d) (e,f,g,h,i,j,k,l,m,n)
def vK.k:=cn 438 sh2 sh2 vK
def mW.k:=cn 439 aWg sh2 λ(a,b,c,d,e)=>mW (a,b,c,d) e
def mY.k:=cn 426 bBz bVe mY
def vG.k:=cn 331 bHu bC0 λ(a,b,c,d)=>vG (a,b,c,d)
def jX.k:=cn 230 sh7 aTd jX
def aIa.k:=cn 404 cCf aO0 λ(a,b,c,d,e,f,g,h,i,j,k,l,m)=>aIa (a,b,c,d,e,f,g,h,i,j) k l m
def aB2.k:=cn 298 bB3 bA8 λ(a,b,c,d,e,f,g,h,i,j,k,l,m,n)=>aB2 (a,b,c,d) (e,f,g,h,i,j,k,l,m,n)
def aAc.k:=cn 405 ⟨[e28,e39],[]⟩ aQp λ(a,b,c,d,e,f,g,h,i,j,k,l,m,n,o,p,q,r,s)=>aAc (a,b,c,d,e,f,g,h,i) (j,k,l,m,n,o,p,q,r,s)
def wU.k:=cn 501 bOz ⟨[e2,e1,e15],[]⟩ λ(a,b)=>wU a b
def wR.k:=cn 496 ⟨[e32,e1,e5],[]⟩ cBy λ(a,b,c)=>wR a b c
def lY.k:=cn 467 aXk ⟨[e85,e18],[]⟩ lY
def wY.k:=cn 437 ⟨[e23,e86],[]⟩ sh1 λ(a,b,c,d)=>wY a (b,c,d)
def qM.k:=cn 468 ⟨[e59,e86],[]⟩ bMv λ(a,b,c,d)=>qM a (b,c,d)
def lS.k:=cn 406 ⟨[e28,e39,e5],[]⟩ aQp λ(a,b,c,d,e,f,g,h,i,j,k,l,m,n,o,p,q,r,s,t)=>lS (a,b,c,d,e,f,g,h,i) (j,k,l,m,n,o,p,q,r,s) t
def kC.k:=cn 299 bMs aHs λ(a,b,c,d,e,f,g,h,i,j,k,l,m,n,o,p,q,r,s,t,u,v,w,x)=>kC ((l,m),(n,o),(p,q,r),s,t,v,w,x,u) a (b,c,d,e,f,g,h,i,j,k)
def aJc.k:=cn 227 sh6 sh2 λ(a,b)=>aJc a b
def kG.k:=cn 302 aHx bYh λ(a,b,c,d,e,f,g,h,i,j)=>kG (a,b,c,d,e,f,g,h,i,j)
def sS.k:=cn 502 bOz bGl λ(a,b)=>sS a b
def xG.k:=cn 497 ⟨[e32,e56],[]⟩ aXk λ(a,b)=>xG a b
def wV.k:=cn 469 aXl aXk wV
def lJ.k:=cn 407 bQw aXk λ(a,b,c)=>lJ (a,b,c)
def mB.k:=cn 300 cCw aO0 λ(a,b,c,d,e,f,g,h,i,j,k,l,m,n,o)=>mB (a,b) c d e (f,g,h,i,j,k,l,m,n,o)
def mN.k:=cn 301 sh7 sh2 mN
def gB.k:=cn 200 bAq aHs λ(a,b,c,d,e,f,g,h,i,j,k,l,m,n,o,p,q,r,s,t,u,v,w,x,y)=>gB ((m,n),(o,p),(q,r,s),t,u,w,x,y,v) a b (c,d,e,f,g,h,i,j,k,l)
def cC.k:=cn 200 bAq aHs λ(a,b,c,d,e,f,g,h,i,j,k,l,m,n,o,p,q,r,s,t,u,v,w,x,y)=>cC ((m,n),(o,p),(q,r,s),t,u,w,x,y,v) a b (c,d,e,f,g,h,i,j,k,l)
def nF.k:=cn 198 bQc bAz λ(a,b,c,d,e,f,g,h,i,j,k,l,m)=>nF ((a,b),(c,d),(e,f,g),h,i,k,l,m,j)
def gO.k:=cn 199 bPz cCh λ(a,b,c,d,e,f,g,h,i,j,k,l,m,n)=>gO ((b,c),(d,e),(f,g,h),i,j,l,m,n,k) a
def aDu.k:=cn 203 cBd bZw λ(a,b,c,d,e,f,g,h,i,j)=>aDu (a,b,c,d,e,f,g,h,i) j
def xW.k:=cn 424 aJq sh2 λ(a,b,c)=>xW (a,b,c)
def kK.k:=cn 315 ⟨[e45,e1],[]⟩ bA6 λ(a,b,c)=>kK (a,b) c
def oG.k:=cn 316 bC1 sh2 λ(a,b,c,d)=>oG (a,b,c) d
def aFu.k:=cn 473 bBz sh9 aFu
def aBp.k:=cn 472 bNl sh2 λ(a,b)=>aBp a b
def qH.k:=cn 411 bC1 sh2 λ(a,b,c,d)=>qH (a,b,c) d
def gE.k:=cn 317 ⟨[e14,e1,e5],[]⟩ bC0 λ(a,b,c,d,e)=>gE (a,b,c) d e
def lB.k:=cn 321 aJq sh2 λ(a,b,c)=>lB (a,b,c)
def uG.k:=cn 427 bX2 bA6 λ(a,b,c,d)=>uG (a,b) c d
def iE.k:=cn 480 ⟨[e14,e1,(2,.one (.ptr 1000002 0))],[(1000002,.box [.row 0]),(0,bAw)]⟩ ⟨[],[(0,bAw),(1000002,.box [.row 0])]⟩ λ(a,b,c,d,e)=>iE (a,b,c) d e
def rM.k:=cn 428 cB8 bYh λ(a,b,c,d,e,f,g,h,i,j)=>rM (a,b,c) (d,e,f) g (h,i,j)
def eZ.k:=cn 318 cB5 aPg λ(a,b,c,d,e,f,g,h,i,j)=>eZ (a,b) (c,d,e) f g (h,i,j)
def wI.k:=cn 429 bC1 sh2 λ(a,b,c,d)=>wI (a,b,c) d
def tQ.k:=cn 319 bGr aTd λ(a,b,c,d,e,f)=>tQ (a,b,c) (d,e,f)
def sG.k:=cn 320 aNc sh1 λ(a,b,c)=>sG (a,b) c
def pX.k:=cn 217 bPy aPg λ(a,b,c,d,e,f)=>pX (a,b) (c,d) e f
def uO.k:=cn 432 bO3 sh1 λ(a,b,c,d,e,f)=>uO (a,b) (c,d,e,f)
def uV.k:=cn 323 aTn sh1 λ(a,b,c)=>uV (a,b) c
def jV.k:=cn 324 bBz sh2 jV
def tU.k:=cn 218 ⟨[e4,e25,e5],[]⟩ sh1 λ(a,b,c,d)=>tU (a,b) c d
def kT.k:=cn 479 bZl sh1 λ(a,b)=>kT a b
def xJ.k:=cn 433 bBu sh1 λ(a,b,c,d,e,f,g,h)=>xJ (a,b,c,d) (e,f,g,h)
def tJ.k:=cn 325 bOp sh1 λ(a,b)=>tJ a b
def aB6.k:=cn 219 ⟨[e37,e25],[]⟩ sh1 λ(a,b)=>aB6 a b
def hZ.k:=cn 121 bZn aPg λ(a,b,c,d,e,f,g)=>hZ (a,b) (c,d) e f g
def aFp.k:=cn 434 sh7 bVe aFp
def uT.k:=cn 326 sh7 sh2 uT
def uZ.k:=cn 327 sh7 sh2 uZ
def xF.k:=cn 220 bOp sh1 λ(a,b)=>xF a b
def tF.k:=cn 122 aPg aPg tF
def jN.k:=cn 436 ⟨[e59,e1],[]⟩ bMv λ(a,b)=>jN a b
def aD2.k:=cn 330 ⟨[e59,e25,e5],[]⟩ sh1 λ(a,b,c)=>aD2 a b c
def nM.k:=cn 226 cBg aXy λ(a,b,c)=>nM a b c
def tR.k:=cn 127 cCk aQp λ(a,b,c,d,e,f,g,h,i,j,k)=>tR (a,b,c,d,e,f,g,h,i) j k
def kS.k:=cn 110 bXl bAz λ(a,b,c,d,e,f,g,h,i,j,k,l,m,n,o,p,q,r,s,t,u,v,w,x,y,z,A,B)=>kS ((p,q),(r,s),(t,u,v),w,x,z,A,B,y) (a,b,c,(d,e,(f,g,h,i,j,k,l,m,n,o)))
def rR.k:=cn 56 ⟨[e20,e79],[]⟩ bY6 λ(a,b,c,d,e,f,g,h,i,j,k,l,m,n,o,p,q,r,s,t,u,v,w,x,y,z,A,B)=>rR ((a,b),(c,d),(e,f,g),h,i,j,k,l,m) (n,o,p,(q,r,(s,t,u,v,w,x,y,z,A,B)))
def pJ.k:=cn 57 ⟨[e3,e72],[]⟩ sh5 λ(a,b)=>pJ a b
def cT.k:=cn 28 ⟨[e11,e79],[o6,o5]⟩ aM4 λ(a,b,c,d,e,f,g,h,i,j,k,l,m,n,o,p,q,r,s,t,u,v,w,x,y,z,A,B,C,D,E,F,G,H)=>cT ((p,q),(r,s),H,t,((u,v),(w,x),(y,z,A),B,C,D,E,F,G)) (a,b,c,(d,e,(f,g,h,i,j,k,l,m,n,o)))
def tD.k:=cn 29 bVu ⟨[e7,e18],[o11]⟩ tD
def qU.k:=cn 112 sh3 bCa λx=>qU
def mJ.k:=cn 59 ⟨[e11,(1,ag1)],[o6,o5]⟩ ⟨[e3],[o5,o6]⟩ λ(a,b,c,d,e,f,g,h,i,j,k,l,m,n,o,p,q,r,s,t,u)=>mJ ((c,d),(e,f),u,g,((h,i),(j,k),(l,m,n),o,p,q,r,s,t)) (a,b)
def eJ.k:=cn 30 ⟨[e11,e56,e5],[o6,o5]⟩ aM4 λ(a,b,c,d,e,f,g,h,i,j,k,l,m,n,o,p,q,r,s,t,u)=>eJ ((c,d),(e,f),u,g,((h,i),(j,k),(l,m,n),o,p,q,r,s,t)) a b
def pU.k:=cn 113 aNc sh5 λ(a,b,c)=>pU (a,b) c
def mI.k:=cn 60 ⟨[e11,e18,e5],[o6,o5]⟩ aM4 λ(a,b,c,d,e,f,g,h,i,j,k,l,m,n,o,p,q,r,s,t,u)=>mI ((c,d),(e,f),u,g,((h,i),(j,k),(l,m,n),o,p,q,r,s,t)) a b
def pB.k:=cn 115 bCa sh1 λ(a,b,c,d)=>pB (a,b,c,d)
def jR.k:=cn 61 ⟨[e11,e56],[o6,o5]⟩ aM4 λ(a,b,c,d,e,f,g,h,i,j,k,l,m,n,o,p,q,r,s,t)=>jR ((b,c),(d,e),t,f,((g,h),(i,j),(k,l,m),n,o,p,q,r,s)) a
def sK.k:=cn 211 aNc bPd λ(a,b,c)=>sK (a,b) c
def kU.k:=cn 209 bZ1 bCa λ(a,b)=>kU a b
def aHp.k:=cn 470 bBz sh9 aHp
def jY.k:=cn 408 aJq sh9 λ(a,b,c)=>jY (a,b,c)
def uS.k:=cn 304 ⟨[e54,e22,e5],[]⟩ sh1 λ(a,b,c,d,e,f,g,h)=>uS (a,b,c,d) (e,f,g) h
def zM.k:=cn 409 ⟨[e54,e1],[]⟩ sh2 λ(a,b,c,d,e)=>zM (a,b,c,d) e
def nJ.k:=cn 410 bOu bBk λ(a,b,c,d,e,f,g,h)=>nJ a b c (d,e,f,g,h)
def aAn.k:=cn 305 bPm bQk λ(a,b,c,d,e,f,g,h,i,j,k,l)=>aAn (a,b) (c,d,e,f) (g,h,i) j k l
def pC.k:=cn 414 cB0 bBd λ(a,b,c,d,e,f,g,h,i,j)=>pC (a,b) (c,d,e,f) g h i j
def lH.k:=cn 413 ⟨[e4,e43,e5],[]⟩ sh9 λ(a,b,c,d,e,f,g)=>lH (a,b) (c,d,e,f) g
def vI.k:=cn 416 ⟨[e4,e1,e5,(3,ag2)],[]⟩ ⟨[(0,.agg [.var ti,.var ti,.var ti,.var ti,.var (.sl cH)])],[]⟩ λ(a,b,c,d,e,f,g)=>vI (a,b) c d (e,f,g)
def rI.k:=cn 311 aS4 sh1 λ(a,b,c,d,e)=>rI (a,b) (c,d,e)
def nN.k:=cn 312 aS4 sh2 λ(a,b,c,d,e)=>nN (a,b) (c,d,e)
def jT.k:=cn 306 aS4 sh2 λ(a,b,c,d,e)=>jT (a,b) (c,d,e)
def mZ.k:=cn 214 aS4 sh1 λ(a,b,c,d,e)=>mZ (a,b) (c,d,e)
def pT.k:=cn 215 aJq sh1 λ(a,b,c)=>pT (a,b,c)
def mX.k:=cn 303 cBv sh1 λ(a,b,c,d,e,f,g)=>mX (a,b) (c,d,e) f g
def aAs.k:=cn 418 bPm bBd λ(a,b,c,d,e,f,g,h,i,j,k,l)=>aAs (a,b) (c,d,e,f) (g,h,i) j k l
def lC.k:=cn 417 bNq sh9 λ(a,b,c,d,e,f,g,h,i,j,k)=>lC (a,b) (c,d,e,f) (g,h,i) j k
def oL.k:=cn 477 bHu bC0 λ(a,b,c,d)=>oL (a,(b,c,d))
def pH.k:=cn 474 bNy ⟨[e7],[(0,bAy)]⟩ pH
def qV.k:=cn 419 bM0 bPd λ(a,b)=>qV (a,b)
def iJ.k:=cn 423 bGr sh1 λ(a,b,c,d,e,f)=>iJ (a,b,c) (d,e,f)
def xY.k:=cn 498 bBu sh1 λ(a,b,c,d,e,f,g,h)=>xY (a,(b,c,d)) (e,(f,g,h))
def aAl.k:=cn 475 ⟨[e84,e44],[]⟩ sh1 λ(a,b,c,d,e)=>aAl a (b,(c,d,e))
def rK.k:=cn 499 aJq sh2 λ(a,b,c)=>rK (a,b,c)
def zH.k:=cn 476 bBu sh1 λ(a,b,c,d,e,f,g,h)=>zH (a,(b,c,d)) (e,(f,g,h))
def sC.k:=cn 420 bY9 bNy λ(a,b,c,d,e,f,g,h)=>sC (a,b) c d (e,(f,g,h))
def jD.k:=cn 309 cB9 bM0 λ(a,b,c,d,e)=>jD (a,b) (c,d) e
def rA.k:=cn 208 bNq bBd λ(a,b,c,d,e,f,g,h,i,j,k)=>rA (a,b) (c,d,e,f) (g,h,i) j k
def dO.k:=cn 210 ⟨[e11,(1,ag1),e51],[(1000000,.box [.row 0,.row 1]),(0,aLa),(1,aLa)]⟩ ⟨[],[(0,aLa),(1,aLa),(1000000,.box [.row 0,.row 1])]⟩ λ(a,b,c,d,e,f,g)=>dO (f,g) (a,b) (c,d,e)
def uE.k:=cn 314 bZo sh1 λ(a,b,c,d)=>uE a (b,c,d)
def wT.k:=cn 216 ⟨[e45,e22],[]⟩ sh1 λ(a,b,c,d,e)=>wT (a,b) (c,d,e)
def uL.k:=cn 119 ⟨[e4,e70,e51],[]⟩ ⟨[e77],[(0,aLa),(1,aLa)]⟩ λ(a,b,c,d,e,f,g)=>uL (a,b) (c,d) (e,f,g)
def sR.k:=cn 120 bVo sh2 λ(a,b)=>sR (a,b)
def pV.k:=cn 307 ⟨[e4,e78,e5,e6],[o18]⟩ ⟨[(0,bWp)],[o18]⟩ λ(a,b,c,d,e)=>pV (a,b) e c d
def pN.k:=cn 308 ⟨[e4,e78,e5,(3,bCo)],[o18]⟩ ⟨[(0,bWp)],[o18]⟩ λ(a,b,c,d,e)=>pN (a,b) e c d
def gK.k:=cn 212 bYj bP2 λ(a,b,c,d,e)=>gK (a,b) e (c,d)
def cZ.k:=cn 117 cCg bP2 λ(a,b,c,d)=>cZ (a,b) d c
def cM.k:=cn 116 bYj ⟨[e77],[(0,aLa),(1,aLa),o18]⟩ λ(a,b,c,d,e)=>cM (a,b) e (c,d)
def pP.k:=cn 62 ⟨[e11],[o6,o5]⟩ aM4 λ(a,b,c,d,e,f,g,h,i,j,k,l,m,n,o,p,q,r,s)=>pP ((a,b),(c,d),s,e,((f,g),(h,i),(j,k,l),m,n,o,p,q,r))
def mK.k:=cn 63 ⟨[e11,e1,e5],[o6,o5]⟩ ⟨[e37],[o5,o6]⟩ λ(a,b,c,d,e,f,g,h,i,j,k,l,m,n,o,p,q,r,s,t,u)=>mK ((c,d),(e,f),u,g,((h,i),(j,k),(l,m,n),o,p,q,r,s,t)) a b
def yC.k:=cn 222 ⟨[e4,(1,.one (.var (.sl aEl)))],[]⟩ bYe λ(a,b,c)=>yC (a,b) c
def jE.k:=cn 132 ⟨[(0,bYv),e72],[]⟩ sh5 λ(a,b)=>jE a b
def xS.k:=cn 137 bVu sh5 xS
def tX.k:=cn 123 aTn sh5 λ(a,b,c)=>tX (a,b) c
def tI.k:=cn 64 ⟨[e11,e1,e5,e6],[o6,o5]⟩ aM4 λ(a,b,c,d,e,f,g,h,i,j,k,l,m,n,o,p,q,r,s,t,u,v)=>tI ((d,e),(f,g),v,h,((i,j),(k,l),(m,n,o),p,q,r,s,t,u)) a b c
def sN.k:=cn 224 sh2 aWe sN
def tV.k:=cn 124 bPy bC2 λ(a,b,c,d,e,f)=>tV (a,b) (c,d) e f
def vO.k:=cn 65 cBn aM4 λ(a,b,c,d,e,f,g,h,i,j,k,l,m,n,o,p,q,r,s,t)=>vO ((b,c),(d,e),t,f,((g,h),(i,j),(k,l,m),n,o,p,q,r,s)) a
def aD4.k:=cn 67 bMp aQp λ(a,b,c)=>aD4 a b c
def aEb.k:=cn 128 sh6 bBg λ(a,b)=>aEb a b
def wK.k:=cn 66 bM4 bY6 λ(a,b,c,d,e,f,g,h,i,j,k,l,m,n,o,p,q,r,s,t,u,v)=>wK ((a,b),(c,d),(e,f,g),h,i,j,k,l,m) (n,o,p,q,r,s,t,u,v)
def jS.k:=cn 228 bPz aHs λ(a,b,c,d,e,f,g,h,i,j,k,l,m,n)=>jS ((b,c),(d,e),(f,g,h),i,j,l,m,n,k) a
def nR.k:=cn 130 bQc aHs λ(a,b,c,d,e,f,g,h,i,j,k,l,m)=>nR ((a,b),(c,d),(e,f,g),h,i,k,l,m,j)
def rG.k:=cn 68 bYf bC2 λ(a,b,c,d,e,f,g,h,i,j,k,l,m,n)=>rG ((a,b),(c,d),(e,f,g),h,i,j,k,l,m) n
def wF.k:=cn 131 aGv sh9 λ(a,b,c,d,e,f,g,h,i,j,k,l,m)=>wF ((a,b),(c,d),(e,f,g),h,i,j,k,l,m)
def eM.k:=cn 69 ⟨[e11],[o6,o5]⟩ aM4 λ(a,b,c,d,e,f,g,h,i,j,k,l,m,n,o,p,q,r,s)=>eM ((a,b),(c,d),s,e,((f,g),(h,i),(j,k,l),m,n,o,p,q,r))
def iX.k:=cn 133 aGv sh2 λ(a,b,c,d,e,f,g,h,i,j,k,l,m)=>iX ((a,b),(c,d),(e,f,g),h,i,j,k,l,m)
def aD5.k:=cn 70 aGv bC2 λ(a,b,c,d,e,f,g,h,i,j,k,l,m)=>aD5 ((a,b),(c,d),(e,f,g),h,i,j,k,l,m)
def mA.k:=cn 71 cBn aM4 λ(a,b,c,d,e,f,g,h,i,j,k,l,m,n,o,p,q,r,s,t)=>mA ((b,c),(d,e),t,f,((g,h),(i,j),(k,l,m),n,o,p,q,r,s)) a
def aBk.k:=cn 440 bVj ⟨[(0,bMz)],[]⟩ λ(a,b,c,d,e,f,g,h,i,j,k,l,m,n,o,p)=>aBk (a,b) c d e f (g,h,i,j,k,l,m,n,o,p)
def yT.k:=cn 332 cCd ⟨[(0,.agg [.var ti,.row 0,.var ti,.var ti,.var ti,.var (.sl tPp),.var ti,.var ti,.var ti,.var ti,.var ti,.var (.sl tb)])],[(0,bCn)]⟩ λ(a,b,c,d,e,f,g,h,i,j,k,l,m,n)=>yT (a,b) c d (e,f,g,h,i,j,k,l,m,n)
def aBs.k:=cn 231 bZ4 sh1 λ(a,b,c,d,e)=>aBs (a,b) c d e
def vE.k:=cn 134 bM4 sh2 λ(a,b,c,d,e,f,g,h,i,j,k,l,m,n,o,p,q,r,s,t,u,v)=>vE ((a,b),(c,d),(e,f,g),h,i,j,k,l,m) (n,o,p,q,r,s,t,u,v)
def pK.k:=cn 72 aGv sh1 λ(a,b,c,d,e,f,g,h,i,j,k,l,m)=>pK ((a,b),(c,d),(e,f,g),h,i,j,k,l,m)
def aD8.k:=cn 73 aGv sh1 λ(a,b,c,d,e,f,g,h,i,j,k,l,m)=>aD8 ((a,b),(c,d),(e,f,g),h,i,j,k,l,m)
def jO.k:=cn 233 aSq sh5 λ(a,b,c,d)=>jO (a,b) c d
def xI.k:=cn 136 aNc sh5 λ(a,b,c)=>xI (a,b) c
def mF.k:=cn 74 bCy sh5 λ(a,b)=>mF (a,b)
def oB.k:=cn 31 ⟨[e11,e72,(2,vr7)],[o6,o5]⟩ aM4 λ(a,b,c,d,e,f,g,h,i,j,k,l,m,n,o,p,q,r,s,t,u)=>oB ((c,d),(e,f),u,g,((h,i),(j,k),(l,m,n),o,p,q,r,s,t)) a b
def fJ.k:=cn 13 ⟨[e11,e72],[o6,o5]⟩ aM4 λ(a,b,c,d,e,f,g,h,i,j,k,l,m,n,o,p,q,r,s,t)=>fJ ((b,c),(d,e),t,f,((g,h),(i,j),(k,l,m),n,o,p,q,r,s)) a
def aDv.k:=cn 6 sh5 sh5 aDv
def l_FnExactExecute.k:=cn 3 sh5 sh1 l_FnExactExecute
end

end Go.Proofs.YtjpmmodjpaabpaaGreat
