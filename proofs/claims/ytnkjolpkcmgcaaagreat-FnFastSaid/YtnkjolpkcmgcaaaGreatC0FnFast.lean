/-
  Contracts of the functions of the program. Conditions: none.
-/
import Derived.Test.YtnkjolpkcmgcaaaGreatT0FnFast
import Derived.Test.YtnkjolpkcmgcaaaGreatProg
import Derived.KernelRfl
set_option linter.unusedVariables false
set_option linter.unusedSimpArgs false
set_option maxRecDepth 100000
namespace Go.Proofs.YtnkjolpkcmgcaaaGreat
open Go.Ab Go.V
noncomputable section
theorem follows:Tryz.prog.follows .mixedOrders=true:=by kernel_rfl
theorem _root_.Go.V.Con.Ok.c{P:Program}{c:Con}{E:List Con}(h:c.Ok P)(k:aB4 P E):aB4 P (c::E):=⟨h,k⟩
theorem fk{E:List Con}{c:Con}{fn:Func}(hf:Tryz.prog.funcs[c.f]? =some fn)(k:aB4 Tryz.prog E)(pl:Plan)(e:∀x,bJ8 Tryz.prog E fn pl c.pre c.post x=c.sem x:=by intro x;kernel_rfl)(hn:(fn.name=="runtime.NumGoroutine")=false:=by rfl):c.Ok Tryz.prog:=bVo hf hn follows (aB4.mem k) λx y h=>(e x).trans h
theorem nok:aB4 Tryz.prog []:=trivial
abbrev cn(f:FuncId)(a b:Sh)(s:sC a.tys->Option (sC b.tys)):Con:=⟨f,a,b,false,s⟩
abbrev OK(c:Con):Prop:=c.Ok Tryz.prog
abbrev _root_.Go.V.Plan.q(p:Plan):Plan:= .seq .z p
def ow1:OT:= .row 3 1 ti true
def ow2:OT:= .row 207 3 tSg true
def ow3:OT:= .row 46 1 tPt true
def ow4:OT:= .row 71 9 tFl false
def ow5:OT:= .row 256 5 tRs true
def ow6:OT:= .row 104 4 tPp true
def ow7:OT:= .row 175 3 tAS true
def ow8:OT:= .row 167 5 tLk true
def ow9:OT:= .row 50 12 tFy false
def bTd:OT:= .row 73 4 tIb false
def aIj:OT:= .row 195 1 tMs true
def aFk:OT:= .row 5 1 tb true
def aFc:OT:= .row 191 4 tUs true
def aBt:OT:= .row 50 12 tFy true
def aFd:OT:= .row 197 3 tRv true
def aQ8:OT:= .row 164 3 kY true
def bCv:OT:= .row 106 5 aR true
def aFh:OT:= .row 73 4 tIb true
def aIy:OT:= .row 71 9 tFl true
def aQw:OT:= .row 46 1 tPt false
def bTw:OT:= .row 104 4 tPp false
def ob1:OT:= .box [.var (.sl tb),.var ti,.var ti]
def ob2:OT:= .box [.var (.sl tAS),.var (.sl tLk),.var (.sl tSg),.var (.sl tSg),.var ti,.var (.sl tRs),.var (.sl tUs),.var ti,.var (.sl ti),.row 0,.row 1,.row 2,.var ti]
def ob3:OT:= .box [.row 300001]
def ob4:OT:= .box [.row 300001,.row 300003]
def ob5:OT:= .box [.var (.sl tAS),.var (.sl tLk),.var (.sl tSg),.var (.sl tSg),.var ti,.var (.sl tRs),.var (.sl tUs),.var ti,.var (.sl ti),.row 300001,.row 300002,.row 300003,.var ti]
def ob6:OT:= .box [.var ti,.var ti,.var ti,.var (.sl tPp),.var ti,.var ti,.var ti,.var ti,.var ti,.var (.sl tb)]
def ob7:OT:= .box [.row 300001,.nil]
def ob8:OT:= .box [.row 1208,.row 1209,.row 1272,.row 1273,.var ti,.row 1336,.row 1337,.var ti,.row 1400,.row 300001,.nil,.nil,.var ti]
def ob9:OT:= .box [.row 1208,.row 1209,.row 1272,.row 1273,.var ti,.row 1336,.row 1337,.var ti,.row 1400,.row 300001,.row 300002,.nil,.var ti]
def bSv:OT:= .box [.var ti,.var ti,.row 300001]
def bUf:OT:= .box [.row 1160,.row 1208]
def bUc:OT:= .box [.var ti,.var ti,.var ti,.row 300001]
def bUl:OT:= .box [.var ti,.var ti,.var ti]
def bT5:OT:= .box [.var (.sl tAS),.var (.sl tLk)]
def bS1:OT:= .box [.row 300001,.row 300002]
def bUe:OT:= .box [.row 300007,.row 300008,.row 300009,.row 300010,.var ti,.row 300006,.row 300011,.var ti,.row 300012,.row 300013,.row 300014,.row 300015,.var ti]
def bTz:OT:= .box [.var ti,.var ti,.var ti,.var ti,.row 300003,.row 300004,.var ti,.var ti,.row 300005]
def bUs:OT:= .box [.row 1208,.row 1209,.row 1272,.row 1273,.var ti,.row 1336,.row 1337,.var ti,.row 1400,.row 300001,.row 300002,.row 300003,.var ti]
def bSe:OT:= .box [.var ti,.var .bool,.var ti]
def bS9:OT:= .box [.var ti,.var ti,.var ti,.var ti,.row 1144,.row 1145,.var ti,.var ti,.row 1146]
def bWd:OT:= .box [.var ti,.var ti,.var ti,.var ti,.var ti,.var (.sl tPp),.var ti,.var ti,.var ti,.var ti,.var ti,.var (.sl tb)]
def bWf:OT:= .box [.var ti,.var ti,.var ti,.row 2584,.var ti,.var ti,.var ti,.var ti,.var ti,.row 2585]
def bV7:OT:= .box [.var ti,.var ti,.var ti,.row 3176,.var ti,.var ti,.var ti,.var ti,.var ti,.row 3177]
def ag1:ST:= .agg [.var (.sl tAS),.var (.sl tLk)]
def ag2:ST:= .agg [.var (.sl tPp)]
def ag3:ST:= .agg [.var ti,.var ti,.var (.sl aR)]
def ag4:ST:= .agg [.var ti,.var ti,.var ti,.var (.sl tPp),.var ti,.var ti,.var ti,.var ti,.var ti,.var (.sl tb)]
def ag5:ST:= .agg [.var ti,.var ti,.var ti,.var ti,.var ti]
def ag6:ST:= .agg [.var ti,.var ti,.var ti,.var (.sl aR)]
def ag7:ST:= .agg [.var ti,.var ti,.var ti,.var ti,.var (.sl tMs),.var (.sl tPt),.var ti,.var ti,.var (.sl tRv)]
def ag8:ST:= .agg [.var (.sl tSg),.var (.sl tSg)]
def ag9:ST:= .agg [.var ti,.var ti,.var ti,.row 0,.var ti,.var ti,.var ti,.var ti,.var ti,.row 1]
def aWb:ST:= .agg [.var ti,.var ti,.var ti]
def bV5:ST:= .agg [.var ti,.var (.sl tRs),.var (.sl tUs)]
def bV9:ST:= .agg [.row 0,.row 1,.row 2,.row 3,.var ti,.row 4,.row 5,.var ti,.row 6,.row 7,.row 8,.row 9,.var ti]
def bV6:ST:= .agg [.var ti,.var ti,.var ti,.var ti,.row 0,.row 1,.var ti,.var ti,.row 2]
def bVz:ST:= .agg [.var ti,.var ti,.var ti,.row 0]
def bV8:ST:= .agg [.row 0]
def bRu:ST:= .agg [.var ti,.var ti,.var ti,.var (.sl tMs)]
def bLt:ST:= .agg [.row 0,.row 1]
def bTi:ST:= .agg [.var ti,.row 0,.row 1]
def bKx:ST:= .agg [.var (.sl tAS),.var (.sl tLk),.var (.sl tSg),.var (.sl tSg),.var ti,.var (.sl tRs),.var (.sl tUs),.var ti,.var (.sl ti),.var (.sl tFy),.var (.sl tFl),.var (.sl tIb),.var ti]
def bT0:ST:= .agg [.var ti,.var ti,.row 0]
def bKa:ST:= .agg [.var ti,.var ti,.var ti,.var ti,.var ti,.var (.sl tPp),.var ti,.var ti,.var ti,.var ti,.var ti,.var (.sl tb)]
def vr1:ST:= .one (.var ti)
def vr2:ST:= .one (.var .bool)
def vr3:ST:= .one (.row 0)
def vr4:ST:= .one (.row 300001)
def vr5:ST:= .one (.var (.sl ti))
def vr6:ST:= .one (.var (.sl tb))
def vr7:ST:= .one (.ptr 1000000 0)
def vr8:ST:= .one (.row 6)
def vr9:ST:= .one (.row 7)
def aRf:ST:= .one (.row 10)
def bV4:ST:= .one (.row 1624)
def bWc:ST:= .one (.var (.sl tRs))
def aVv:ST:= .one (.row 15)
def bM0:ST:= .one (.var (.sl tPt))
def bEp:ST:= .one (.var (.sl aR))
def bWb:ST:= .one (.row 5)
def aXd:ST:= .one (.var (.sl tRv))
def bCl:ST:= .one (.var (.sl tMs))
def bL1:ST:= .one (.var (.sl tSg))
def bTo:ST:= .one (.var (.sl tIb))
def bMz:ST:= .one (.row 127)
def bJo:ST:= .one (.ptr 6 0)
def e1:Nat×ST:=(1,vr1)
def e2:Nat×ST:=(0,vr1)
def e3:Nat×ST:=(0,vr2)
def e4:Nat×ST:=(2,vr1)
def e5:Nat×ST:=(0,ag1)
def e6:Nat×ST:=(0,vr3)
def e7:Nat×ST:=(5,vr1)
def e8:Nat×ST:=(3,vr1)
def e9:Nat×ST:=(4,vr1)
def e10:Nat×ST:=(4,vr2)
def e11:Nat×ST:=(0,vr7)
def e12:Nat×ST:=(6,vr1)
def e13:Nat×ST:=(3,vr4)
def e14:Nat×ST:=(0,ag2)
def e15:Nat×ST:=(3,vr8)
def e16:Nat×ST:=(2,vr2)
def e17:Nat×ST:=(0,vr6)
def e18:Nat×ST:=(9,vr1)
def e19:Nat×ST:=(8,vr1)
def e20:Nat×ST:=(0,ag3)
def e21:Nat×ST:=(5,vr9)
def e22:Nat×ST:=(9,bV4)
def e23:Nat×ST:=(1,ag3)
def e24:Nat×ST:=(0,ag7)
def e25:Nat×ST:=(0,ag4)
def e26:Nat×ST:=(0,ag5)
def e27:Nat×ST:=(0,ag6)
def e28:Nat×ST:=(1,ag2)
def e29:Nat×ST:=(7,vr1)
def e30:Nat×ST:=(0,bWc)
def e31:Nat×ST:=(0,vr5)
def e32:Nat×ST:=(1,vr2)
def e33:Nat×ST:=(0,ag9)
def e34:Nat×ST:=(7,aRf)
def e35:Nat×ST:=(0,bV5)
def e36:Nat×ST:=(5,vr4)
def e37:Nat×ST:=(13,vr1)
def e38:Nat×ST:=(5,vr5)
def e39:Nat×ST:=(0,bV9)
def e40:Nat×ST:=(0,bV6)
def e41:Nat×ST:=(0,bVz)
def e42:Nat×ST:=(0,bV8)
def e43:Nat×ST:=(6,vr2)
def e44:Nat×ST:=(12,vr2)
def e45:Nat×ST:=(10,vr1)
def e46:Nat×ST:=(12,vr1)
def e47:Nat×ST:=(34,vr2)
def e48:Nat×ST:=(0,bM0)
def e49:Nat×ST:=(0,bRu)
def e50:Nat×ST:=(3,bWb)
def e51:Nat×ST:=(7,aVv)
def e52:Nat×ST:=(7,.one (.row 18))
def e53:Nat×ST:=(7,.one (.row 9))
def e54:Nat×ST:=(11,.one (.row 14))
def o1:Nat×OT:=(1000000,ob1)
def o2:Nat×OT:=(1,ow4)
def o3:Nat×OT:=(1000000,ob2)
def o4:Nat×OT:=(0,ow9)
def o5:Nat×OT:=(2,bTd)
def o6:Nat×OT:=(0,ow6)
def o7:Nat×OT:=(0,aIj)
def o8:Nat×OT:=(1624,ow3)
def o9:Nat×OT:=(300001,ow7)
def o10:Nat×OT:=(0,ow1)
def o11:Nat×OT:=(6,ow1)
def o12:Nat×OT:=(0,ow7)
def o13:Nat×OT:=(1,ow8)
def o14:Nat×OT:=(0,ow5)
def o15:Nat×OT:=(1,aFk)
def o16:Nat×OT:=(300001,ow1)
def o17:Nat×OT:=(15,ow3)
def o18:Nat×OT:=(0,bCv)
def o19:Nat×OT:=(300003,ow8)
def o20:Nat×OT:=(300001,ow6)
def o21:Nat×OT:=(300002,ow4)
def o22:Nat×OT:=(3,ob4)
def o23:Nat×OT:=(300001,ow9)
def o24:Nat×OT:=(300003,bTd)
def o25:Nat×OT:=(2,ow2)
def o26:Nat×OT:=(3,ow2)
def o27:Nat×OT:=(4,ow5)
def o28:Nat×OT:=(5,aFc)
def o29:Nat×OT:=(7,aBt)
def o30:Nat×OT:=(9,aFh)
def o31:Nat×OT:=(1,ow3)
def o32:Nat×OT:=(2,aFd)
def o33:Nat×OT:=(300001,bCv)
def o34:Nat×OT:=(10,aQ8)
def o35:Nat×OT:=(10,ow3)
def o36:Nat×OT:=(300001,aQ8)
def o37:Nat×OT:=(1000000,ob5)
def o38:Nat×OT:=(300001,ow5)
def o39:Nat×OT:=(300001,ow2)
def o40:Nat×OT:=(0,.row 175 3 tAS false)
def o41:Nat×OT:=(1,.row 167 5 tLk false)
def k0:Nat×ST:=(0,.keep)
def k1:Nat×ST:=(1,.keep)
def k2:Nat×ST:=(2,.keep)
def k3:Nat×ST:=(3,.keep)
def k4:Nat×ST:=(4,.keep)
def k5:Nat×ST:=(5,.keep)
def k6:Nat×ST:=(6,.keep)
def k7:Nat×ST:=(7,.keep)
def k8:Nat×ST:=(8,.keep)
def k9:Nat×ST:=(9,.keep)
def k10:Nat×ST:=(10,.keep)
def k11:Nat×ST:=(11,.keep)
def k12:Nat×ST:=(12,.keep)
def k13:Nat×ST:=(13,.keep)
def k14:Nat×ST:=(14,.keep)
def k15:Nat×ST:=(15,.keep)
def k16:Nat×ST:=(16,.keep)
def k17:Nat×ST:=(17,.keep)
def k18:Nat×ST:=(18,.keep)
def k19:Nat×ST:=(19,.keep)
def k20:Nat×ST:=(20,.keep)
def k21:Nat×ST:=(21,.keep)
def k22:Nat×ST:=(22,.keep)
def k23:Nat×ST:=(23,.keep)
def k31:Nat×ST:=(31,.keep)
def k32:Nat×ST:=(32,.keep)
def k33:Nat×ST:=(33,.keep)
def k35:Nat×ST:=(35,.keep)
def k36:Nat×ST:=(36,.keep)
def k37:Nat×ST:=(37,.keep)
def k38:Nat×ST:=(38,.keep)
def k39:Nat×ST:=(39,.keep)
def k49:Nat×ST:=(49,.keep)
def k50:Nat×ST:=(50,.keep)
def k51:Nat×ST:=(51,.keep)
def k52:Nat×ST:=(52,.keep)
def k53:Nat×ST:=(53,.keep)
def k56:Nat×ST:=(56,.keep)
def k57:Nat×ST:=(57,.keep)
def k58:Nat×ST:=(58,.keep)
def k64:Nat×ST:=(64,.keep)
def k65:Nat×ST:=(65,.keep)
def k66:Nat×ST:=(66,.keep)
def k67:Nat×ST:=(67,.keep)
def k87:Nat×ST:=(87,.keep)
def k88:Nat×ST:=(88,.keep)
def aVl:Nat×ST:=(101,.keep)
def aV7:Nat×ST:=(102,.keep)
def bBi:Nat×ST:=(103,.keep)
def bR6:Nat×ST:=(149,.keep)
def bTe:Nat×ST:=(150,.keep)
def bWg:Nat×ST:=(151,.keep)
def j0:Nat×OT:=(0,.keep)
def j1:Nat×OT:=(1,.keep)
def j2:Nat×OT:=(2,.keep)
def j3:Nat×OT:=(3,.keep)
def j4:Nat×OT:=(4,.keep)
def j5:Nat×OT:=(5,.keep)
def j6:Nat×OT:=(6,.keep)
def j7:Nat×OT:=(7,.keep)
def j8:Nat×OT:=(8,.keep)
def j9:Nat×OT:=(9,.keep)
def j10:Nat×OT:=(10,.keep)
def j11:Nat×OT:=(11,.keep)
def j12:Nat×OT:=(12,.keep)
def j14:Nat×OT:=(14,.keep)
def j15:Nat×OT:=(15,.keep)
def j16:Nat×OT:=(16,.keep)
def j19:Nat×OT:=(19,.keep)
def bOa:Nat×OT:=(1080,.keep)
def bNv:Nat×OT:=(1081,.keep)
def bE5:Nat×OT:=(1112,.keep)
def bNk:Nat×OT:=(1113,.keep)
def bNq:Nat×OT:=(1114,.keep)
def aAs:Nat×OT:=(1128,.keep)
def bBj:Nat×OT:=(1129,.keep)
def bB2:Nat×OT:=(1130,.keep)
def bEo:Nat×OT:=(1131,.keep)
def bDe:Nat×OT:=(1132,.keep)
def bEx:Nat×OT:=(1133,.keep)
def bCn:Nat×OT:=(1134,.keep)
def bCu:Nat×OT:=(1135,.keep)
def bOg:Nat×OT:=(1136,.keep)
def bCd:Nat×OT:=(1137,.keep)
def bN8:Nat×OT:=(1144,.keep)
def bOm:Nat×OT:=(1145,.keep)
def bOe:Nat×OT:=(1146,.keep)
def aOq:Nat×OT:=(1160,.keep)
def aTs:Nat×OT:=(1176,.keep)
def bEu:Nat×OT:=(1177,.keep)
def bBt:Nat×OT:=(1178,.keep)
def aD6:Nat×OT:=(1192,.keep)
def aPu:Nat×OT:=(1193,.keep)
def bC4:Nat×OT:=(1194,.keep)
def bDk:Nat×OT:=(1195,.keep)
def bE6:Nat×OT:=(1196,.keep)
def bEs:Nat×OT:=(1197,.keep)
def bEc:Nat×OT:=(1198,.keep)
def bBl:Nat×OT:=(1199,.keep)
def bBy:Nat×OT:=(1200,.keep)
def bEw:Nat×OT:=(1201,.keep)
def xU:Nat×OT:=(1208,.keep)
def aD0:Nat×OT:=(1209,.keep)
def bVd:Nat×OT:=(1224,.keep)
def zF:Nat×OT:=(1272,.keep)
def aAw:Nat×OT:=(1273,.keep)
def bC3:Nat×OT:=(1288,.keep)
def aB7:Nat×OT:=(1304,.keep)
def aT8:Nat×OT:=(1305,.keep)
def aTq:Nat×OT:=(1306,.keep)
def aT7:Nat×OT:=(1307,.keep)
def aTw:Nat×OT:=(1308,.keep)
def aT9:Nat×OT:=(1309,.keep)
def aT2:Nat×OT:=(1310,.keep)
def aTt:Nat×OT:=(1311,.keep)
def aTz:Nat×OT:=(1312,.keep)
def aTx:Nat×OT:=(1313,.keep)
def aEr:Nat×OT:=(1336,.keep)
def aEl:Nat×OT:=(1337,.keep)
def yY:Nat×OT:=(1400,.keep)
def bVs:Nat×OT:=(1401,.keep)
def bU8:Nat×OT:=(1608,.keep)
def bVk:Nat×OT:=(1609,.keep)
def aUg:Nat×OT:=(1624,.keep)
def uZ:Nat×OT:=(1672,.keep)
def vN:Nat×OT:=(1720,.keep)
def bOd:Nat×OT:=(1736,.keep)
def bVr:Nat×OT:=(1755,.keep)
def bU7:Nat×OT:=(1756,.keep)
def bU5:Nat×OT:=(1944,.keep)
def bDy:Nat×OT:=(2312,.keep)
def bEi:Nat×OT:=(2313,.keep)
def bBp:Nat×OT:=(2314,.keep)
def bEl:Nat×OT:=(2315,.keep)
def bDb:Nat×OT:=(2316,.keep)
def bB5:Nat×OT:=(2317,.keep)
def bDp:Nat×OT:=(2318,.keep)
def bDl:Nat×OT:=(2319,.keep)
def bOl:Nat×OT:=(2320,.keep)
def bC2:Nat×OT:=(2321,.keep)
def iQ:Nat×OT:=(300001,.keep)
def aK7:Nat×OT:=(300002,.keep)
def aAf:Nat×OT:=(300003,.keep)
def aQd:Nat×OT:=(300006,.keep)
def aQg:Nat×OT:=(300007,.keep)
def aQo:Nat×OT:=(300008,.keep)
def aRi:Nat×OT:=(300009,.keep)
def aQp:Nat×OT:=(300010,.keep)
def aP3:Nat×OT:=(300011,.keep)
def aQv:Nat×OT:=(300012,.keep)
def aQ2:Nat×OT:=(300013,.keep)
def aQm:Nat×OT:=(300014,.keep)
def aP0:Nat×OT:=(300015,.keep)
def eU:Nat×OT:=(1000000,.keep)
def sh1:Sh:=⟨[e3],[]⟩
def sh2:Sh:=⟨[e2],[]⟩
def sh3:Sh:=⟨[],[]⟩
def sh4:Sh:=⟨[e10],[]⟩
def sh5:Sh:=⟨[e2,e1],[]⟩
def sh6:Sh:=⟨[e14],[]⟩
def sh7:Sh:=⟨[e16],[]⟩
def sh8:Sh:=⟨[e17],[]⟩
def sh9:Sh:=⟨[e6],[o10]⟩
def aHq:Sh:=⟨[e25],[]⟩
def aIt:Sh:=⟨[k1],[j1]⟩
def aNa:Sh:=⟨[e5,e1,e4],[]⟩
def aM3:Sh:=⟨[e24],[]⟩
def aL2:Sh:=⟨[e27,e1],[]⟩
def aMb:Sh:=⟨[],[o4,o2,o5,o3]⟩
def aL3:Sh:=⟨[e43],[]⟩
def aRk:Sh:=⟨[e20],[]⟩
def aQ1:Sh:=⟨[e31],[]⟩
def aQj:Sh:=⟨[e42],[o6]⟩
def aRg:Sh:=⟨[e6],[(0,ow3)]⟩
def aP5:Sh:=⟨[e33],[o6,o15]⟩
def aPz:Sh:=⟨[k2,k3,e7],[j2,j3]⟩
def aXk:Sh:=⟨[e26],[]⟩
def aXc:Sh:=⟨[e5,e23],[]⟩
def aVm:Sh:=⟨[e40],[o7,o31,o32]⟩
def aXn:Sh:=⟨[e48],[]⟩
def aUi:Sh:=⟨[e5,e28],[]⟩
def aWq:Sh:=⟨[k0,k1,e44],[]⟩
def bD0:Sh:=⟨[e5,e1],[]⟩
def bD8:Sh:=⟨[e6],[(0,ow2)]⟩
def bE9:Sh:=⟨[e5],[]⟩
def bDf:Sh:=⟨[(0,bTi)],[o14,(1,aFc)]⟩
def bEr:Sh:=⟨[e39],[o12,o13,o25,o26,o27,o28,o11,o29,(8,aIy),o30]⟩
def bBs:Sh:=⟨[e41],[o7]⟩
def bEg:Sh:=⟨[k0,k1,e7],[]⟩
def bKs:Sh:=⟨[e11],[o1]⟩
def bJ1:Sh:=⟨[e2],[o1]⟩
def bL0:Sh:=⟨[e11,e1],[o1]⟩
def bMt:Sh:=⟨[e2,e1,e4],[]⟩
def bMf:Sh:=⟨[e26,e1,e4],[]⟩
def bK7:Sh:=⟨[e31,e1],[]⟩
def bLb:Sh:=⟨[e20,e1],[]⟩
def bNh:Sh:=⟨[e2,(1,vr5)],[]⟩
def bKw:Sh:=⟨[e2,e1,e4,(3,ag5)],[]⟩
def bMg:Sh:=⟨[(0,bT0)],[o18]⟩
def bMb:Sh:=⟨[e20,e23],[]⟩
def bMq:Sh:=⟨[e27],[]⟩
def bKd:Sh:=⟨[e41],[o18]⟩
def bLi:Sh:=⟨[(0,aWb)],[]⟩
def bJ9:Sh:=⟨[e49],[]⟩
def bK6:Sh:=⟨[(0,bKx)],[]⟩
def bM8:Sh:=⟨[e5,(1,ag6)],[]⟩
def bKf:Sh:=⟨[e6],[(0,aQ8)]⟩
def bM1:Sh:=⟨[e6],[(0,aFd)]⟩
def bNd:Sh:=⟨[e6],[o14]⟩
def bL5:Sh:=⟨[(0,bEp)],[]⟩
def bKm:Sh:=⟨[e33,e32],[o6,o15]⟩
def bJz:Sh:=⟨[e11,e1,e4,(3,ag4)],[o3,o4,o2,o5]⟩
def bKi:Sh:=⟨[e49,(1,ag4)],[]⟩
def bK3:Sh:=⟨[(8,vr2)],[]⟩
def bKo:Sh:=⟨[k2,k3],[j2,(3,ob3),o20]⟩
def bUh:Sh:=⟨[e5,e1,e4,(3,ag5)],[]⟩
def bSq:Sh:=⟨[(0,bLt)],[(0,ow2),(1,ow2)]⟩
def bT1:Sh:=⟨[(0,bLt)],[o12,o13]⟩
def bT8:Sh:=⟨[e5,(1,ag8),e4,e8],[]⟩
def bR3:Sh:=⟨[(0,bTo),e1,e4],[]⟩
def bSd:Sh:=⟨[(0,ag8),e1,e4],[]⟩
def bSc:Sh:=⟨[e14,(1,aWb)],[]⟩
def bUu:Sh:=⟨[e30,e1,e4,e8],[]⟩
def bUq:Sh:=⟨[e35,e1,e4,e8],[]⟩
def bUm:Sh:=⟨[e30,e1,e4,e8,e9],[]⟩
def bSm:Sh:=⟨[e35,e1,e4,e8,e9],[]⟩
def bTb:Sh:=⟨[e11],[o3,o4,o2,o5]⟩
def bSx:Sh:=⟨[e11,e1],[o3,o4,o2,o5]⟩
def bSz:Sh:=⟨[k1,k2,e36,k6],[j2,o16]⟩
def bS3:Sh:=⟨[k2,k3,(37,vr2)],[j2,j3]⟩
def bS2:Sh:=⟨[k0,k2,k3,k4,k8],[j2,o22,o9,o19,o1]⟩
def bSu:Sh:=⟨[k9,(30,vr2)],[j9]⟩
def bSf:Sh:=⟨[k1,e50,e9],[j1,(5,ow1)]⟩
def bUk:Sh:=⟨[k2,k3,e38,e12],[j2,j3]⟩
def bSh:Sh:=⟨[k2,k3,k5,k6],[j2,j3]⟩
def bT3:Sh:=⟨[k2],[(2,.box [.row 3,.row 7]),(3,ow7),(7,ow8)]⟩
def bSl:Sh:=⟨[k1,k2,k3,e9],[j1,j2,(3,ob3),o20]⟩
def bR5:Sh:=⟨[k1,k2,k3,e51],[j3,o17]⟩
def bTg:Sh:=⟨[k2,k3,(31,vr2)],[j2,j3]⟩
def bT6:Sh:=⟨[e15,k4,k5],[o11,aAs]⟩
def bTu:Sh:=⟨[k0,k3,k4,e7],[iQ]⟩
def bRx:Sh:=⟨[e1,(5,.one (.row 1112))],[(1112,aFk)]⟩
def bRr:Sh:=⟨[k0,k1,k7,(8,.one (.ptr 8 0)),e18],[j0,j1,j2,j7,(8,bWd),eU]⟩
def bRs:Sh:=⟨[k0,k1,k7,k8,k9,(54,vr2)],[j0,j1,j2,j7,j8,eU]⟩
def bSn:Sh:=⟨[k0,k1,(11,.one (.ptr 11 0)),e44],[j0,j1,j2,(11,bWf),(2584,ow6),(2585,aFk),eU]⟩
def bR0:Sh:=⟨[k0,k1,k7,k9,(116,vr2)],[j0,j1,j2,j7,eU]⟩
def bUr:Sh:=⟨[k0,k1,k7,(13,.one (.ptr 13 0))],[j0,j1,j2,j7,(13,bV7),(3176,ow6),(3177,aFk),eU]⟩
def bRp:Sh:=⟨[k0],[o23,o21,o24,o37]⟩
def aEk.k:=cn 8 sh8 sh1 aEk
def yO.k:=cn 40 sh8 ⟨[(0,.one (.ptr 0 0))],[(0,ob1)]⟩ yO
def oI.k:=cn 169 bKs bJ1 λ(a,b,c)=>oI (a,b,c)
def aN.k:=cn 69 bL0 bJ1 λ(a,b,c,d)=>aN (b,c,d) a
def tK.k:=cn 398 ⟨[e6,e1],[(0,.row 3 1 ti false)]⟩ sh9 λ(a,b)=>tK b a
def jJ.k:=cn 327 bD0 sh9 λ(a,b,c)=>jJ (a,b) c
def sE.k:=cn 251 ⟨[e11,e1,e4,e8],[(1000000,.box [.row 0,.row 1]),o40,o41]⟩ ⟨[],[o40,o41,(1000000,.box [.row 0,.row 1])]⟩ λ(a,b,c,d,e)=>sE (d,e) a b c
def iB.k:=cn 76 bL0 ⟨[e3],[o1]⟩ λ(a,b,c,d)=>iB (b,c,d) a
def aV.k:=cn 105 bMt sh1 λ(a,b,c)=>aV a b c
def eN.k:=cn 92 bD0 sh1 λ(a,b,c)=>eN (a,b) c
def oP.k:=cn 203 ⟨[e5,(1,ag5)],[]⟩ sh1 λ(a,b,c,d,e,f,g)=>oP (a,b) (c,d,e,f,g)
def wD.k:=cn 162 bKs ⟨[(0,bLt)],[o12,o13,o1]⟩ λ(a,b,c)=>wD (a,b,c)
def rN.k:=cn 204 bMf sh1 λ(a,b,c,d,e,f,g)=>rN (a,b,c,d,e) f g
def mL.k:=cn 336 aNa sh2 λ(a,b,c,d)=>mL (a,b) c d
def gM.k:=cn 332 aNa sh2 λ(a,b,c,d)=>gM (a,b) c d
def gX.k:=cn 258 aNa sh9 λ(a,b,c,d)=>gX (a,b) c d
def jZ.k:=cn 259 aNa sh5 λ(a,b,c,d)=>jZ (a,b) c d
def dK.k:=cn 261 aRk sh9 λ(a,b,c)=>dK (a,b,c)
def jE.k:=cn 260 bK7 sh1 λ(a,b)=>jE a b
def nN.k:=cn 335 bLb sh9 λ(a,b,c,d)=>nN (a,b,c) d
def oA.k:=cn 330 sh2 sh1 oA
def tX.k:=cn 403 sh5 sh2 λ(a,b)=>tX a b
def oV.k:=cn 334 bNh sh2 λ(a,b)=>oV a b
def gE.k:=cn 257 bLb sh2 λ(a,b,c,d)=>gE (a,b,c) d
def aEj.k:=cn 433 sh5 sh2 λ(a,b)=>aEj a b
def tO.k:=cn 412 aQ1 sh2 tO
def rJ.k:=cn 402 bNh sh2 λ(a,b)=>rJ a b
def tR.k:=cn 333 bKw sh2 λ(a,b,c,d,e,f,g,h)=>tR a b c (d,e,f,g,h)
def fB.k:=cn 256 bKw aXk λ(a,b,c,d,e,f,g,h)=>fB a b c (d,e,f,g,h)
def vI.k:=cn 165 ⟨[e11,(1,ag1),e4],[o1]⟩ ⟨[(0,bT0)],[o18,o1]⟩ λ(a,b,c,d,e,f)=>vI (d,e,f) (a,b) c
def gI.k:=cn 205 aRk bMg λ(a,b,c)=>gI (a,b,c)
def sM.k:=cn 164 aXc bMg λ(a,b,c,d,e)=>sM (a,b) (c,d,e)
def fD.k:=cn 107 ⟨[(0,bL1)],[]⟩ bD8 fD
def lV.k:=cn 399 aXk sh1 λ(a,b,c,d,e)=>lV (a,b,c,d,e)
def fR.k:=cn 328 aXc sh1 λ(a,b,c,d,e)=>fR (a,b) (c,d,e)
def jT.k:=cn 400 bUh sh1 λ(a,b,c,d,e,f,g,h,i)=>jT (a,b) c d (e,f,g,h,i)
def eZ.k:=cn 329 aXc sh2 λ(a,b,c,d,e)=>eZ (a,b) (c,d,e)
def eM.k:=cn 289 aRk sh2 λ(a,b,c)=>eM (a,b,c)
def cX.k:=cn 255 aXc sh2 λ(a,b,c,d,e)=>cX (a,b) (c,d,e)
def gC.k:=cn 252 aXc sh1 λ(a,b,c,d,e)=>gC (a,b) (c,d,e)
def iP.k:=cn 253 aRk sh1 λ(a,b,c)=>iP (a,b,c)
def iD.k:=cn 417 ⟨[(0,bEp),(1,bEp)],[]⟩ sh1 λ(a,b)=>iD a b
def iX.k:=cn 401 bMb sh1 λ(a,b,c,d,e,f)=>iX (a,b,c) (d,e,f)
def rS.k:=cn 331 ⟨[(0,bL1),e23],[]⟩ sh1 λ(a,b,c,d)=>rS a (b,c,d)
def mT.k:=cn 254 ⟨[(0,ag8),e23],[]⟩ sh1 λ(a,b,c,d,e)=>mT (a,b) (c,d,e)
def mS.k:=cn 163 ⟨[e5,(1,ag8),(2,ag3)],[]⟩ bSq λ(a,b,c,d,e,f,g)=>mS (a,b) (c,d) (e,f,g)
def tJ.k:=cn 202 sh2 sh1 tJ
def kT.k:=cn 104 bE9 sh1 λ(a,b)=>kT (a,b)
def pM.k:=cn 106 bE9 bT1 λ(a,b)=>pM (a,b)
def lY.k:=cn 108 sh2 bDf lY
def pO.k:=cn 37 bT8 bEr λ(a,b,c,d,e,f)=>pO (a,b) (c,d) e f
def hO.k:=cn 177 aRk sh2 λ(a,b,c)=>hO (a,b,c)
def uX.k:=cn 83 ⟨[e11,(1,ag8)],[o1]⟩ ⟨[e2,e1],[o1]⟩ λ(a,b,c,d,e)=>uX (c,d,e) (a,b)
def yD.k:=cn 78 ⟨[e11,(1,vr5)],[o1]⟩ bJ1 λ(a,b,c,d)=>yD (b,c,d) a
def wE.k:=cn 84 bMt aVm λ(a,b,c)=>wE a b c
def sK.k:=cn 166 bL0 ⟨[e6],[(0,aFk),o1]⟩ λ(a,b,c,d)=>sK (b,c,d) a
def oT.k:=cn 268 ⟨[(0,bCl)],[]⟩ ⟨[e6],[o7]⟩ oT
def uO.k:=cn 354 bMq bKd λ(a,b,c,d)=>uO (a,b,c,d)
def jL.k:=cn 283 sh6 aQj jL
def uQ.k:=cn 269 aXn aRg uQ
def mF.k:=cn 178 aM3 aVm λ(a,b,c,d,e,f,g,h,i)=>mF (a,b,c,d,e,f,g,h,i)
def aEb.k:=cn 188 sh5 sh2 λ(a,b)=>aEb a b
def dL.k:=cn 189 bLi sh1 λ(a,b,c)=>dL (a,b,c)
def lG.k:=cn 91 aM3 sh1 λ(a,b,c,d,e,f,g,h,i)=>lG (a,b,c,d,e,f,g,h,i)
def tH.k:=cn 85 ⟨[e24,(1,vr6)],[]⟩ ⟨[e40,e32],[o7,o31,o32]⟩ λ(a,b,c,d,e,f,g,h,i,j)=>tH (a,b,c,d,e,f,g,h,i) j
def pE.k:=cn 184 ⟨[e35],[]⟩ bDf λ(a,b,c)=>pE (a,b,c)
def uW.k:=cn 219 aHq aP5 λ(a,b,c,d,e,f,g,h,i,j)=>uW (a,b,c,d,e,f,g,h,i,j)
def rV.k:=cn 185 ⟨[(0,.one (.var (.sl tFy)))],[]⟩ ⟨[e6],[(0,aBt)]⟩ rV
def mX.k:=cn 186 ⟨[(0,.one (.var (.sl tFl)))],[]⟩ ⟨[e6],[(0,aIy)]⟩ mX
def uV.k:=cn 281 bJ9 bBs λ(a,b,c,d)=>uV (a,b,c,d)
def nD.k:=cn 187 ⟨[(0,bTo)],[]⟩ ⟨[e6],[(0,aFh)]⟩ nD
def uN.k:=cn 90 bK6 bEr λ(a,b,c,d,e,f,g,h,i,j,k,l,m)=>uN ((a,b),(c,d),(e,f,g),h,i,j,k,l,m)
def rA.k:=cn 93 bR3 sh2 λ(a,b,c)=>rA a b c
def cV.k:=cn 286 ⟨[(0,ag8),e1],[]⟩ bD8 λ(a,b,c)=>cV (a,b) c
def mV.k:=cn 358 bLb sh2 λ(a,b,c,d)=>mV (a,b,c) d
def eD.k:=cn 413 sh2 sh1 eD
def cT.k:=cn 359 ⟨[e20,e1,e4],[]⟩ bKd λ(a,b,c,d,e)=>cT (a,b,c) d e
def jQ.k:=cn 361 bSd bD8 λ(a,b,c,d)=>jQ (a,b) c d
def lN.k:=cn 362 ⟨[e20,e23,e16,(3,ag3)],[]⟩ aQj λ(a,b,c,d,e,f,g,h,i,j)=>lN (a,b,c) (d,e,f) g (h,i,j)
def fN.k:=cn 288 ⟨[(0,ag8),e23,e4,e8,(4,ag3)],[]⟩ aRg λ(a,b,c,d,e,f,g,h,i,j)=>fN (a,b) (c,d,e) f g (h,i,j)
def qC.k:=cn 285 bSd aRg λ(a,b,c,d)=>qC (a,b) c d
def uS.k:=cn 360 bMb aQj λ(a,b,c,d,e,f)=>uS (a,b,c) (d,e,f)
def mZ.k:=cn 287 bMb aQj λ(a,b,c,d,e,f)=>mZ (a,b,c) (d,e,f)
def kC.k:=cn 192 bT8 aRg λ(a,b,c,d,e,f)=>kC (a,b) (c,d) e f
def rE.k:=cn 434 bMq sh9 λ(a,b,c,d)=>rE (a,b,c,d)
def iF.k:=cn 382 aL2 sh2 λ(a,b,c,d,e)=>iF (a,b,c,d) e
def iE.k:=cn 378 aL2 sh2 λ(a,b,c,d,e)=>iE (a,b,c,d) e
def qU.k:=cn 414 bM8 sh1 λ(a,b,c,d,e,f)=>qU (a,b) (c,d,e,f)
def sJ.k:=cn 415 sh2 sh2 sJ
def jS.k:=cn 363 aUi sh1 λ(a,b,c)=>jS (a,b) c
def jY.k:=cn 313 sh6 bKf jY
def fT.k:=cn 364 sh6 sh9 fT
def mN.k:=cn 290 aUi sh1 λ(a,b,c)=>mN (a,b) c
def vZ.k:=cn 432 sh5 sh2 λ(a,b)=>vZ a b
def lB.k:=cn 407 aL2 sh2 λ(a,b,c,d,e)=>lB (a,b,c,d) e
def uL.k:=cn 416 aL2 sh2 λ(a,b,c,d,e)=>uL (a,b,c,d) e
def mP.k:=cn 365 bM8 sh1 λ(a,b,c,d,e,f)=>mP (a,b) (c,d,e,f)
def mU.k:=cn 291 aUi sh1 λ(a,b,c)=>mU (a,b) c
def rP.k:=cn 292 ⟨[e26,e1],[]⟩ sh1 λ(a,b,c,d,e,f)=>rP (a,b,c,d,e) f
def nF.k:=cn 193 ⟨[e5,e28,e4],[]⟩ sh1 λ(a,b,c,d)=>nF (a,b) c d
def oZ.k:=cn 366 ⟨[e27,(1,ag6)],[]⟩ sh1 λ(a,b,c,d,e,f,g,h)=>oZ (a,b,c,d) (e,f,g,h)
def nB.k:=cn 293 ⟨[e14,e28],[]⟩ sh1 λ(a,b)=>nB a b
def sO.k:=cn 194 ⟨[e48,e28],[]⟩ sh1 λ(a,b)=>sO a b
def lJ.k:=cn 95 ⟨[e5,(1,ag8),e4,e8,e9],[]⟩ aXn λ(a,b,c,d,e,f,g)=>lJ (a,b) (c,d) e f g
def lC.k:=cn 355 sh6 sh2 lC
def jK.k:=cn 356 sh6 sh2 jK
def nC.k:=cn 357 sh6 sh2 nC
def pI.k:=cn 284 ⟨[e14,e28],[]⟩ sh1 λ(a,b)=>pI a b
def rD.k:=cn 191 aXn aXn rD
def fW.k:=cn 352 ⟨[(0,aXd),e1],[]⟩ bM1 λ(a,b)=>fW a b
def uT.k:=cn 353 bSc sh1 λ(a,b,c,d)=>uT a (b,c,d)
def sN.k:=cn 282 ⟨[(0,aXd),e28,e4],[]⟩ sh1 λ(a,b,c)=>sN a b c
def iS.k:=cn 190 ⟨[(0,aXd),(1,bM0),e4],[]⟩ aRg λ(a,b,c)=>iS a b c
def aAz.k:=cn 167 sh5 sh2 λ(a,b)=>aAz a b
def tG.k:=cn 94 ⟨[e24,(1,bM0),e4],[]⟩ ⟨[(0,.agg [.var ti,.var ti,.var ti,.var ti,.row 0,.var (.sl tPt),.var ti,.var ti,.row 1])],[o7,(1,aFd)]⟩ λ(a,b,c,d,e,f,g,h,i,j,k)=>tG (a,b,c,d,e,f,g,h,i) j k
def vC.k:=cn 96 sh5 bBs λ(a,b)=>vC a b
def uR.k:=cn 33 ⟨[(0,bKx),(1,ag7)],[]⟩ ⟨[e39,e32],[o12,o13,o25,o26,o27,o28,o11,o29,(8,ow4),o30]⟩ λ(a,b,c,d,e,f,g,h,i,j,k,l,m,n,o,p,q,r,s,t,u,v)=>uR ((a,b),(c,d),(e,f,g),h,i,j,k,l,m) (n,o,p,q,r,s,t,u,v)
def nL.k:=cn 262 sh6 bKf nL
def pL.k:=cn 297 ⟨[e30,(1,ag5)],[]⟩ bNd λ(a,b,c,d,e,f)=>pL a (b,c,d,e,f)
def gY.k:=cn 296 aXk sh1 λ(a,b,c,d,e)=>gY (a,b,c,d,e)
def yR.k:=cn 299 ⟨[e26,e1,e4,e8],[]⟩ sh1 λ(a,b,c,d,e,f,g,h)=>yR (a,b,c,d,e) f g h
def lW.k:=cn 298 bUu sh2 λ(a,b,c,d)=>lW a b c d
def yP.k:=cn 263 ⟨[e30,(1,ag5),e4,e8],[]⟩ ⟨[e6,e32],[o14]⟩ λ(a,b,c,d,e,f,g,h)=>yP a (b,c,d,e,f) g h
def dB.k:=cn 168 ⟨[e30,e1,(2,ag2),e8,e9,e7,e12],[]⟩ ⟨[e6,e32],[o14]⟩ λ(a,b,c,d,e,f,g)=>dB a b c d e f g
def vY.k:=cn 68 bKs ⟨[e39],[o12,o13,o25,o26,o27,o28,o11,o29,(8,ow4),o30,o1]⟩ λ(a,b,c)=>vY (a,b,c)
def tD.k:=cn 21 sh8 ⟨[e39,e1],[o12,o13,o25,o26,o27,o28,o11,o29,(8,ow4),o30]⟩ tD
def lZ.k:=cn 80 bE9 bT1 λ(a,b)=>lZ (a,b)
def oW.k:=cn 225 bL5 ⟨[e6],[o18]⟩ oW
def nR.k:=cn 267 aRk bMg λ(a,b,c)=>nR (a,b,c)
def kD.k:=cn 176 ⟨[(0,bL1)],[]⟩ bD8 kD
def oG.k:=cn 81 ⟨[(0,ag8)],[]⟩ bSq λ(a,b)=>oG (a,b)
def eK.k:=cn 229 ⟨[e30],[]⟩ bNd eK
def eQ.k:=cn 144 ⟨[e35],[]⟩ bDf λ(a,b,c)=>eQ (a,b,c)
def oX.k:=cn 145 aQ1 sh9 oX
def iW.k:=cn 135 sh6 aQj iW
def fA.k:=cn 136 sh8 ⟨[e6],[(0,aFk)]⟩ fA
def dP.k:=cn 48 aHq aP5 λ(a,b,c,d,e,f,g,h,i,j)=>dP (a,b,c,d,e,f,g,h,i,j)
def iK.k:=cn 230 ⟨[(0,bCl)],[]⟩ ⟨[e6],[o7]⟩ iK
def qR.k:=cn 231 aXn aRg qR
def eC.k:=cn 232 ⟨[(0,aXd)],[]⟩ bM1 eC
def jC.k:=cn 146 aM3 aVm λ(a,b,c,d,e,f,g,h,i)=>jC (a,b,c,d,e,f,g,h,i)
def mK.k:=cn 147 bJ9 bBs λ(a,b,c,d)=>mK (a,b,c,d)
def kA.k:=cn 57 bK6 bEr λ(a,b,c,d,e,f,g,h,i,j,k,l,m)=>kA ((a,b),(c,d),(e,f,g),h,i,j,k,l,m)
def bA.k:=cn 60 bMt sh1 λ(a,b,c)=>bA a b c
def sG.k:=cn 152 sh2 sh1 sG
def pF.k:=cn 62 bD0 sh1 λ(a,b,c)=>pF (a,b) c
def wI.k:=cn 153 ⟨[e5,(1,ag5)],[]⟩ sh1 λ(a,b,c,d,e,f,g)=>wI (a,b) (c,d,e,f,g)
def fS.k:=cn 133 bMf sh1 λ(a,b,c,d,e,f,g)=>fS (a,b,c,d,e) f g
def kW.k:=cn 59 bE9 sh1 λ(a,b)=>kW (a,b)
def bI.k:=cn 157 bLi sh1 λ(a,b,c)=>bI (a,b,c)
def gU.k:=cn 242 aXk sh1 λ(a,b,c,d,e)=>gU (a,b,c,d,e)
def dZ.k:=cn 244 bMf sh1 λ(a,b,c,d,e,f,g)=>dZ (a,b,c,d,e) f g
def iO.k:=cn 243 bUu sh2 λ(a,b,c,d)=>iO a b c d
def fY.k:=cn 154 ⟨[e30,e1,e4],[]⟩ sh1 λ(a,b,c)=>fY a b c
def nQ.k:=cn 155 bUq sh2 λ(a,b,c,d,e,f)=>nQ (a,b,c) d e f
def aB6.k:=cn 74 sh5 sh2 λ(a,b)=>aB6 a b
def sU.k:=cn 245 bUm sh2 λ(a,b,c,d,e)=>sU a b c d e
def iR.k:=cn 246 bUm sh2 λ(a,b,c,d,e)=>iR a b c d e
def tW.k:=cn 156 bSm sh2 λ(a,b,c,d,e,f,g)=>tW (a,b,c) d e f g
def jO.k:=cn 61 ⟨[e35,e1],[]⟩ sh1 λ(a,b,c,d)=>jO (a,b,c) d
def qQ.k:=cn 63 aM3 sh1 λ(a,b,c,d,e,f,g,h,i)=>qQ (a,b,c,d,e,f,g,h,i)
def pB.k:=cn 64 bJ9 sh1 λ(a,b,c,d)=>pB (a,b,c,d)
def rK.k:=cn 158 ⟨[e17,(1,vr6)],[]⟩ sh1 λ(a,b)=>rK a b
def kU.k:=cn 65 ⟨[(0,bCl),(1,bCl)],[]⟩ sh1 λ(a,b)=>kU a b
def jR.k:=cn 19 ⟨[e24,(1,bRu)],[]⟩ sh1 λ(a,b,c,d,e,f,g,h,i,j,k,l,m)=>jR (a,b,c,d,e,f,g,h,i) (j,k,l,m)
def mC.k:=cn 17 bK6 sh1 λ(a,b,c,d,e,f,g,h,i,j,k,l,m)=>mC ((a,b),(c,d),(e,f,g),h,i,j,k,l,m)
def fM.k:=cn 318 ⟨[e30,e1],[]⟩ bNd λ(a,b)=>fM a b
def tU.k:=cn 233 ⟨[e35,e1],[]⟩ bDf λ(a,b,c,d)=>tU (a,b,c) d
def fP.k:=cn 51 sh2 sh1 fP
def fQ.k:=cn 129 aL2 sh2 λ(a,b,c,d,e)=>fQ (a,b,c,d) e
def fH.k:=cn 124 aL2 sh2 λ(a,b,c,d,e)=>fH (a,b,c,d) e
def jU.k:=cn 143 sh6 bKf jU
def qS.k:=cn 250 sh6 sh5 qS
def kB.k:=cn 161 ⟨[e2,e28,e4,e8,(4,vr6)],[]⟩ aP5 λ(a,b,c,d,e)=>kB a b c d e
def eJ.k:=cn 319 aM3 bKm λ(a,b,c,d,e,f,g,h,i)=>eJ (a,b,c,d,e,f,g,h,i)
def oL.k:=cn 320 aM3 sh2 λ(a,b,c,d,e,f,g,h,i)=>oL (a,b,c,d,e,f,g,h,i)
def sH.k:=cn 234 aM3 ⟨[e40,(1,.agg [.var ti,.var ti,.var ti,.row 3,.var ti,.var ti,.var ti,.var ti,.var ti,.row 4]),e16],[o7,o31,o32,(3,ow6),(4,aFk)]⟩ λ(a,b,c,d,e,f,g,h,i)=>sH (a,b,c,d,e,f,g,h,i)
def kZ.k:=cn 150 bJz aMb λ(a,b,c,d,e,f,g,h,i,j,k,l,m,n,o,p,q,r,s,t,u,v,w,x,y)=>kZ ((m,n),(o,p),(q,r,s),t,u,w,x,y,v) a b (c,d,e,f,g,h,i,j,k,l)
def oR.k:=cn 132 bK7 aQ1 λ(a,b)=>oR a b
def pN.k:=cn 44 bD0 aQ1 λ(a,b,c)=>pN (a,b) c
def jW.k:=cn 46 aNa sh2 λ(a,b,c,d)=>jW (a,b) c d
def pZ.k:=cn 45 bK7 sh1 λ(a,b)=>pZ a b
def oM.k:=cn 134 sh2 sh1 oM
def pH.k:=cn 47 sh5 sh2 λ(a,b)=>pH a b
def eL.k:=cn 11 ⟨[e5,(1,vr5),e4],[]⟩ sh2 λ(a,b,c,d)=>eL (a,b) c d
def kK.k:=cn 122 ⟨[e2,(1,.one (.ptr 1000001 0))],[(1000001,ob6)]⟩ ⟨[(0,.agg [.var ti,.var ti,.var ti,.var ti,.var ti,.row 0,.var ti,.var ti,.var ti,.var ti,.var ti,.row 1])],[o6,o15,(1000001,ob6)]⟩ λ(a,b,c,d,e,f,g,h,i,j,k)=>kK a (b,c,d,e,f,g,h,i,j,k)
def dF.k:=cn 137 sh2 sh1 dF
def lU.k:=cn 138 aXk sh1 λ(a,b,c,d,e)=>lU (a,b,c,d,e)
def kV.k:=cn 316 bL5 sh1 kV
def kX.k:=cn 222 sh6 sh1 kX
def uB.k:=cn 49 aHq sh1 λ(a,b,c,d,e,f,g,h,i,j)=>uB (a,b,c,d,e,f,g,h,i,j)
def dY.k:=cn 15 aHq sh2 λ(a,b,c,d,e,f,g,h,i,j)=>dY (a,b,c,d,e,f,g,h,i,j)
def nP.k:=cn 123 aHq sh1 λ(a,b,c,d,e,f,g,h,i,j)=>nP (a,b,c,d,e,f,g,h,i,j)
def wQ.k:=cn 227 ⟨[e5,(1,bEp)],[]⟩ sh1 λ(a,b,c)=>wQ (a,b) c
def mM.k:=cn 228 aNa sh5 λ(a,b,c,d)=>mM (a,b) c d
def qY.k:=cn 140 bM8 sh1 λ(a,b,c,d,e,f)=>qY (a,b) (c,d,e,f)
def tM.k:=cn 141 sh2 sh2 tM
def jN.k:=cn 55 aUi sh1 λ(a,b,c)=>jN (a,b) c
def vB.k:=cn 142 ⟨[(0,.one (.var (.sl kY)))],[]⟩ sh9 vB
def fU.k:=cn 56 sh6 sh9 fU
def pK.k:=cn 14 aUi sh1 λ(a,b,c)=>pK (a,b) c
def tQ.k:=cn 50 sh5 sh2 λ(a,b)=>tQ a b
def tT.k:=cn 52 sh5 sh2 λ(a,b)=>tT a b
def aEf.k:=cn 393 sh5 sh2 λ(a,b)=>aEf a b
def wG.k:=cn 317 aQ1 sh2 wG
def rR.k:=cn 226 bNh sh2 λ(a,b)=>rR a b
def wF.k:=cn 139 bKw sh2 λ(a,b,c,d,e,f,g,h)=>wF a b c (d,e,f,g,h)
def qX.k:=cn 53 bUh sh1 λ(a,b,c,d,e,f,g,h,i)=>qX (a,b) c d (e,f,g,h,i)
def gW.k:=cn 12 ⟨[e5,(1,ag4)],[]⟩ bKm λ(a,b,c,d,e,f,g,h,i,j,k,l)=>gW (a,b) (c,d,e,f,g,h,i,j,k,l)
def rU.k:=cn 54 ⟨[e26,e1],[]⟩ sh1 λ(a,b,c,d,e,f)=>rU (a,b,c,d,e) f
def fZ.k:=cn 13 ⟨[e25,e1],[]⟩ sh1 λ(a,b,c,d,e,f,g,h,i,j,k)=>fZ (a,b,c,d,e,f,g,h,i,j) k
def kH.k:=cn 125 ⟨[e5,e1,(2,ag4)],[]⟩ ⟨[e25,e1],[]⟩ λ(a,b,c,d,e,f,g,h,i,j,k,l,m)=>kH (a,b) c (d,e,f,g,h,i,j,k,l,m)
def gJ.k:=cn 126 aHq sh1 λ(a,b,c,d,e,f,g,h,i,j)=>gJ (a,b,c,d,e,f,g,h,i,j)
def jX.k:=cn 127 aHq sh1 λ(a,b,c,d,e,f,g,h,i,j)=>jX (a,b,c,d,e,f,g,h,i,j)
def lE.k:=cn 128 aHq aP5 λ(a,b,c,d,e,f,g,h,i,j)=>lE (a,b,c,d,e,f,g,h,i,j)
def iZ.k:=cn 224 aNa sh2 λ(a,b,c,d)=>iZ (a,b) c d
def jM.k:=cn 223 sh5 sh1 λ(a,b)=>jM a b
def nO.k:=cn 130 ⟨[e5,(1,aWb)],[]⟩ sh1 λ(a,b,c,d,e)=>nO (a,b) (c,d,e)
def sI.k:=cn 131 sh5 sh1 λ(a,b)=>sI a b
def tY.k:=cn 43 ⟨[e5,e1,e4,e8,e9,(5,ag4)],[]⟩ ⟨[(0,bKa),e1],[]⟩ λ(a,b,c,d,e,f,g,h,i,j,k,l,m,n,o,p)=>tY (a,b) c d e f (g,h,i,j,k,l,m,n,o,p)
def rB.k:=cn 394 bUq sh2 λ(a,b,c,d,e,f)=>rB (a,b,c) d e f
def tC.k:=cn 321 bSm ⟨[(0,bTi),e32],[o14,(1,aFc)]⟩ λ(a,b,c,d,e,f,g)=>tC (a,b,c) d e f g
def kE.k:=cn 235 ⟨[e11,e1,(2,bKa)],[o3,o4,o2,o5]⟩ aMb λ(a,b,c,d,e,f,g,h,i,j,k,l,m,n,o,p,q,r,s,t,u,v,w,x,y,z)=>kE ((n,o),(p,q),(r,s,t),u,v,x,y,z,w) a (b,c,(d,e,f,g,h,i,j,k,l,m))
def oK.k:=cn 86 bR3 sh2 λ(a,b,c)=>oK a b c
def rC.k:=cn 322 bKi sh1 λ(a,b,c,d,e,f,g,h,i,j,k,l,m,n)=>rC (a,b,c,d) (e,f,g,h,i,j,k,l,m,n)
def nA.k:=cn 236 bKi bBs λ(a,b,c,d,e,f,g,h,i,j,k,l,m,n)=>nA (a,b,c,d) (e,f,g,h,i,j,k,l,m,n)
def nJ.k:=cn 247 sh2 sh2 nJ
def qT.k:=cn 248 aL2 sh2 λ(a,b,c,d,e)=>qT (a,b,c,d) e
def mB.k:=cn 249 bL5 ⟨[e6],[o18]⟩ mB
def nM.k:=cn 159 bMq bKd λ(a,b,c,d)=>nM (a,b,c,d)
def jV.k:=cn 66 sh6 aQj jV
def yN.k:=cn 323 ⟨[e25,e1,e4,(3,vr6)],[]⟩ aP5 λ(a,b,c,d,e,f,g,h,i,j,k,l,m)=>yN (a,b,c,d,e,f,g,h,i,j) k l m
def tL.k:=cn 237 bKi bKm λ(a,b,c,d,e,f,g,h,i,j,k,l,m,n)=>tL (a,b,c,d) (e,f,g,h,i,j,k,l,m,n)
def qZ.k:=cn 324 ⟨[e24,(1,ag4)],[]⟩ aVm λ(a,b,c,d,e,f,g,h,i,j,k,l,m,n,o,p,q,r,s)=>qZ (a,b,c,d,e,f,g,h,i) (j,k,l,m,n,o,p,q,r,s)
def pQ.k:=cn 438 ⟨[e17,e1],[]⟩ ⟨[e2,e1,e16],[]⟩ λ(a,b)=>pQ a b
def pR.k:=cn 430 ⟨[e17,e1,e4],[]⟩ ⟨[e6,e1,e16],[o10]⟩ λ(a,b,c)=>pR a b c
def gT.k:=cn 395 sh8 ⟨[(0,aWb),e32],[]⟩ gT
def sY.k:=cn 343 bSc sh1 λ(a,b,c,d)=>sY a (b,c,d)
def kS.k:=cn 396 ⟨[(0,aXd),(1,aWb)],[]⟩ bM1 λ(a,b,c,d)=>kS a (b,c,d)
def gR.k:=cn 325 ⟨[e24,(1,ag4),e4],[]⟩ aVm λ(a,b,c,d,e,f,g,h,i,j,k,l,m,n,o,p,q,r,s,t)=>gR (a,b,c,d,e,f,g,h,i) (j,k,l,m,n,o,p,q,r,s) t
def gD.k:=cn 238 ⟨[e11,e1,(2,ag4)],[o3,o4,o2,o5]⟩ aMb λ(a,b,c,d,e,f,g,h,i,j,k,l,m,n,o,p,q,r,s,t,u,v,w,x)=>gD ((l,m),(n,o),(p,q,r),s,t,v,w,x,u) a (b,c,d,e,f,g,h,i,j,k)
def aCi.k:=cn 23 sh5 sh2 λ(a,b)=>aCi a b
def gF.k:=cn 241 aHq ⟨[e42],[(0,bTw)]⟩ λ(a,b,c,d,e,f,g,h,i,j)=>gF (a,b,c,d,e,f,g,h,i,j)
def mA.k:=cn 439 ⟨[e17,e1],[]⟩ ⟨[e6],[(0,aFk)]⟩ λ(a,b)=>mA a b
def oY.k:=cn 431 ⟨[e17,(1,vr5)],[]⟩ sh8 λ(a,b)=>oY a b
def pU.k:=cn 397 aQ1 sh8 pU
def gV.k:=cn 326 bLi sh8 λ(a,b,c)=>gV (a,b,c)
def hP.k:=cn 239 ⟨[e5,e1,e4,e8,(4,ag4)],[]⟩ aP5 λ(a,b,c,d,e,f,g,h,i,j,k,l,m,n,o)=>hP (a,b) c d e (f,g,h,i,j,k,l,m,n,o)
def pP.k:=cn 240 sh6 sh2 pP
def dX.k:=cn 150 bJz aMb λ(a,b,c,d,e,f,g,h,i,j,k,l,m,n,o,p,q,r,s,t,u,v,w,x,y)=>dX ((m,n),(o,p),(q,r,s),t,u,w,x,y,v) a b (c,d,e,f,g,h,i,j,k,l)
def bJ.k:=cn 150 bJz aMb λ(a,b,c,d,e,f,g,h,i,j,k,l,m,n,o,p,q,r,s,t,u,v,w,x,y)=>bJ ((m,n),(o,p),(q,r,s),t,u,w,x,y,v) a b (c,d,e,f,g,h,i,j,k,l)
def mD.k:=cn 148 bTb ⟨[e3],[o4,o2,o5,o3]⟩ λ(a,b,c,d,e,f,g,h,i,j,k,l,m)=>mD ((a,b),(c,d),(e,f,g),h,i,k,l,m,j)
def kF.k:=cn 149 bSx ⟨[(0,bKa)],[o4,o2,o5,o3]⟩ λ(a,b,c,d,e,f,g,h,i,j,k,l,m,n)=>kF ((b,c),(d,e),(f,g,h),i,j,l,m,n,k) a
def gA.k:=cn 170 bSx aMb λ(a,b,c,d,e,f,g,h,i,j,k,l,m,n)=>gA ((b,c),(d,e),(f,g,h),i,j,l,m,n,k) a
def jB.k:=cn 70 bTb aMb λ(a,b,c,d,e,f,g,h,i,j,k,l,m)=>jB ((a,b),(c,d),(e,f,g),h,i,k,l,m,j)
def qV.k:=cn 22 ⟨[(0,bKx),e1],[]⟩ bEr λ(a,b,c,d,e,f,g,h,i,j,k,l,m,n)=>qV ((a,b),(c,d),(e,f,g),h,i,j,k,l,m) n
def l_FnFast.k:=cn 4 sh8 sh1 l_FnFast
end

end Go.Proofs.YtnkjolpkcmgcaaaGreat
