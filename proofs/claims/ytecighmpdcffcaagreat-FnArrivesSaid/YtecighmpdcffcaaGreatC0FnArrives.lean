/-
  Contracts of the functions of the program. Conditions: none.
-/
import Derived.Test.YtecighmpdcffcaaGreatT0FnArrives
import Derived.Test.YtecighmpdcffcaaGreatProg
import Derived.KernelRfl
set_option linter.unusedVariables false
set_option linter.unusedSimpArgs false
set_option maxRecDepth 100000
namespace Go.Proofs.YtecighmpdcffcaaGreat
open Go.Ab Go.V
noncomputable section
theorem follows:Tryz.prog.follows .mixedOrders=true:=by kernel_rfl
theorem _root_.Go.V.Con.Ok.c {P:Program} {c:Con} {E:List Con} (h:c.Ok P) (k:aDd P E):aDd P (c::E):=⟨h,k⟩
theorem fk {E:List Con} {c:Con} {fn:Func} (hf:Tryz.prog.funcs[c.f]? =some fn) (k:aDd Tryz.prog E) (pl:Plan) (e: ∀ x,bGq Tryz.prog E fn pl c.pre c.post x=c.sem x:=by intro x;kernel_rfl) (hn:(fn.name=="runtime.NumGoroutine")=false:=by rfl):c.Ok Tryz.prog:=bSf hf hn follows (aDd.mem k) fun x y h=>(e x).trans h
theorem nok:aDd Tryz.prog []:=trivial
abbrev _root_.Go.V.Plan.q (p:Plan):Plan:= .seq .z p
def ow1:OT:= .row 79 9 tFl false
def ow2:OT:= .row 108 4 tPp true
def ow3:OT:= .row 3 1 ti true
def ow4:OT:= .row 5 1 tb true
def ow5:OT:= .row 62 12 tFy false
def ow6:OT:= .row 43 1 tPt true
def ow7:OT:= .row 82 4 tIb false
def ow8:OT:= .row 231 3 tSg true
def ow9:OT:= .row 199 5 tRs true
def aBs:OT:= .row 216 1 tMs true
def aIn:OT:= .row 163 3 tAS true
def aEb:OT:= .row 125 5 tLk true
def aAy:OT:= .row 128 4 tUs true
def aIo:OT:= .row 179 5 bZ true
def aC4:OT:= .row 116 3 tRv true
def aC0:OT:= .row 62 12 tFy true
def aP2:OT:= .row 192 3 wS true
def aFw:OT:= .row 82 4 tIb true
def aI5:OT:= .row 79 9 tFl true
def aOt:OT:= .row 43 1 tPt false
def aTi:OT:= .row 108 4 tPp false
def bHa:OT:= .row 73 15 jL false
def ob1:OT:= .box [.var (.sl tb),.var ti,.var ti]
def ob2:OT:= .box [.var (.sl tAS),.var (.sl tLk),.var (.sl tSg),.var (.sl tSg),.var ti,.var (.sl tRs),.var (.sl tUs),.var ti,.var (.sl ti),.row 0,.row 1,.row 2,.var ti]
def ob3:OT:= .box [.row 300001]
def ob4:OT:= .box [.var (.sl tAS),.var (.sl tLk)]
def ob5:OT:= .box [.var (.sl tAS),.var (.sl tLk),.var (.sl tSg),.var (.sl tSg),.var ti,.var (.sl tRs),.var (.sl tUs),.var ti,.var (.sl ti),.row 300001,.row 300002,.row 300003,.var ti]
def ob6:OT:= .box [.var ti,.var ti,.var ti,.var (.sl tPp),.var ti,.var ti,.var ti,.var ti,.var ti,.var (.sl tb)]
def ob7:OT:= .box [.row 300001,.row 300003]
def ob8:OT:= .box [.var ti,.var ti,.var ti,.row 300001,.var ti,.var ti,.var ti,.var ti,.var ti,.row 300002]
def ob9:OT:= .box [.var ti,.var ti,.var ti,.row 300001]
def aZn:OT:= .box [.var ti,.var ti,.row 300003]
def aZ4:OT:= .box [.row 300005]
def bJi:OT:= .box [.var ti,.var ti,.var ti,.var ti,.var ti,.var (.sl tPp),.var ti,.var ti,.var ti,.var ti,.var ti,.var (.sl tb)]
def bI6:OT:= .box [.row 300001,.nil]
def bJt:OT:= .box [.var ti,.var ti,.row 300004]
def bGt:OT:= .box [.row 1208,.row 1209,.row 1272,.row 1273,.var ti,.row 1336,.row 1337,.var ti,.row 1400,.row 300001,.nil,.nil,.var ti]
def bH8:OT:= .box [.row 1208,.row 1209,.row 1272,.row 1273,.var ti,.row 1336,.row 1337,.var ti,.row 1400,.row 300001,.row 300002,.nil,.var ti]
def bQe:OT:= .box [.var ti,.var ti,.row 300001]
def bR0:OT:= .box [.var ti,.var ti,.var ti,.var ti,.var ti]
def bPj:OT:= .box [.row 1160,.row 1208]
def bRc:OT:= .box [.var ti,.var ti,.var ti,.nil]
def bQ1:OT:= .box [.var ti,.var ti,.var ti]
def bQr:OT:= .box [.row 300001,.row 300002]
def bOw:OT:= .box [.row 300007,.row 300008,.row 300009,.row 300010,.var ti,.row 300006,.row 300011,.var ti,.row 300012,.row 300013,.row 300014,.row 300015,.var ti]
def bPi:OT:= .box [.var ti,.var ti,.var ti,.var ti,.row 300003,.row 300004,.var ti,.var ti,.row 300005]
def bQy:OT:= .box [.var (.sl tPp)]
def bOu:OT:= .box [.var ti,.var ti,.var ti,.var (.sl tPp),.var ti,.var ti,.var ti,.var ti,.var ti,.row 1161]
def bTi:OT:= .box [.var ti,.var ti,.var ti,.row 1112]
def bTl:OT:= .box [.var ti,.var ti,.var ti,.var ti,.row 1112,.row 1113,.var ti,.var ti,.row 1114]
def bTu:OT:= .box [.var ti,.var ti,.var ti,.row 1544]
def bTj:OT:= .box [.var ti,.var ti,.var ti,.var ti,.row 2312,.row 2313,.var ti,.var ti,.row 2314]
def bTs:OT:= .box [.var ti,.var ti,.var ti,.var ti,.var ti,.row 1560,.var ti,.var ti,.var ti,.var ti,.var ti,.row 1561]
def bTo:OT:= .box [.var ti,.row 2152,.row 2153]
def bTx:OT:= .box [.var (.sl tAS),.var (.sl tLk),.var (.sl tSg),.var (.sl tSg),.var ti,.row 2152,.row 2153,.var ti,.var (.sl ti),.row 0,.row 1,.row 2,.var ti]
def bTd:OT:= .box [.var ti,.var ti,.var ti,.row 2904,.var ti,.var ti,.var ti,.var ti,.var ti,.row 2905]
def bPe:OT:= .box [.var ti,.var ti,.nil,.var ti,.var ti,.var ti,.var ti,.var ti,.var (.sl tPp),.var ti,.var ti,.var ti,.var ti,.var ti,.row 300001]
def bP6:OT:= .box [.var ti,.row 300001,.row 1177]
def bRi:OT:= .box [.var ti,.row 300001,.row 300002]
def bOq:OT:= .box [.var (.sl tAS),.var (.sl tLk),.var (.sl tSg),.var (.sl tSg),.var ti,.var (.sl tRs),.var (.sl tUs),.var ti,.var (.sl ti),.row 1209,.row 1210,.row 1211,.var ti]
def bO1:OT:= .box [.row 1208,.row 1209,.row 1272,.row 1273,.var ti,.row 1336,.row 1337,.var ti,.row 1400,.row 300001,.row 300002,.row 300003,.var ti]
def bTm:OT:= .box [.var ti,.var ti,.var ti,.row 2584,.var ti,.var ti,.var ti,.var ti,.var ti,.row 2585]
def bTa:OT:= .box [.var ti,.var ti,.var ti,.row 3176,.var ti,.var ti,.var ti,.var ti,.var ti,.row 3177]
def bRq:OT:= .box [.var ti,.var ti,.var ti,.var (.sl tPp),.var ti,.var ti,.var ti,.var ti,.var ti,.row 300001]
def ag1:ST:= .agg [.var (.sl tAS),.var (.sl tLk)]
def ag2:ST:= .agg [.var ti,.var ti,.var ti,.var (.sl tPp),.var ti,.var ti,.var ti,.var ti,.var ti,.var (.sl tb)]
def ag3:ST:= .agg [.var (.sl tPp)]
def ag4:ST:= .agg [.var ti,.var ti,.var (.sl bZ)]
def ag5:ST:= .agg [.var ti,.var ti,.var ti,.var ti,.var ti]
def ag6:ST:= .agg [.var ti,.var ti,.var ti,.var (.sl bZ)]
def ag7:ST:= .agg [.var ti,.var ti,.var ti,.row 0,.var ti,.var ti,.var ti,.var ti,.var ti,.row 1]
def ag8:ST:= .agg [.var ti,.var ti,.var ti,.var ti,.var (.sl tMs),.var (.sl tPt),.var ti,.var ti,.var (.sl tRv)]
def ag9:ST:= .agg [.var (.sl tSg),.var (.sl tSg)]
def bQi:ST:= .agg [.var ti,.var ti,.var ti]
def bQz:ST:= .agg [.var ti,.var (.sl tRs),.var (.sl tUs)]
def bP8:ST:= .agg [.row 0]
def bRp:ST:= .agg [.var ti,.var ti,.var ti,.var (.sl tMs)]
def bT0:ST:= .agg [.var ti,.row 0,.row 1]
def bTp:ST:= .agg [.var ti,.var ti,.var ti,.var ti,.row 0,.row 1,.var ti,.var ti,.row 2]
def bT3:ST:= .agg [.var ti,.var ti,.var ti,.row 0]
def bPw:ST:= .agg [.var (.sl tAS),.var (.sl tLk),.var (.sl tSg),.var (.sl tSg),.var ti,.var (.sl tRs),.var (.sl tUs),.var ti,.var (.sl ti),.var (.sl tFy),.var (.sl tFl),.var (.sl tIb),.var ti]
def bTv:ST:= .agg [.row 0,.row 1,.row 2,.row 3,.var ti,.row 4,.row 5,.var ti,.row 6,.row 7,.row 8,.row 9,.var ti]
def bTz:ST:= .agg [.row 0,.row 1]
def bQ3:ST:= .agg [.var ti,.var ti,.row 0]
def bB1:ST:= .agg [.var ti,.var ti,.var ti,.var ti,.var ti,.var (.sl tPp),.var ti,.var ti,.var ti,.var ti,.var ti,.var (.sl tb)]
def bJ5:ST:= .agg [.var (.sl tAS),.var (.sl tLk),.var (.sl tSg),.var (.sl tSg),.var ti,.var (.sl tRs),.var (.sl tUs),.var ti,.var (.sl ti),.row 0,.row 1,.row 2,.var ti]
def bHe:ST:= .agg [.var ti,.var ti,.var ti,.var (.sl tPp),.var ti,.var ti,.var ti,.var ti,.var ti,.row 0]
def bRv:ST:= .agg [.var ti,.var ti,.var (.sl tb),.var ti,.var ti,.var ti,.var ti,.var ti,.var (.sl tPp),.var ti,.var ti,.var ti,.var ti,.var ti,.var (.sl tb)]
def bRj:ST:= .agg [.var ti,.var ti,.var ti,.var ti,.var ti,.row 0,.var ti,.var ti,.var ti,.var ti,.var ti,.row 1]
def bTw:ST:= .agg [.var (.sl tAS),.var (.sl tLk),.var (.sl tSg),.var (.sl tSg),.var ti,.var (.sl tRs),.var (.sl tUs),.var ti,.var (.sl ti),.row 1001109,.row 1001110,.row 1001111,.var ti]
def vr1:ST:= .one (.var ti)
def vr2:ST:= .one (.var .bool)
def vr3:ST:= .one (.row 0)
def vr4:ST:= .one (.ptr 1000000 0)
def vr5:ST:= .one (.var (.sl tb))
def vr6:ST:= .one (.row 300001)
def vr7:ST:= .one (.var (.sl ti))
def vr8:ST:= .one (.row 7)
def vr9:ST:= .one (.row 6)
def aO1:ST:= .one (.row 10)
def bRr:ST:= .one (.var (.sl tRs))
def bTe:ST:= .one (.row 1624)
def aZd:ST:= .one (.var (.sl tPt))
def bHg:ST:= .one (.var (.sl tRv))
def aV3:ST:= .one (.row 15)
def aZp:ST:= .one (.var (.sl bZ))
def bTc:ST:= .one (.row 5)
def bTb:ST:= .one (.ptr 7 0)
def bTy:ST:= .one (.ptr 11 0)
def aUm:ST:= .one (.var (.sl tSg))
def aUy:ST:= .one (.row 14)
def bHd:ST:= .one (.ptr 8 0)
def bBr:ST:= .one (.var (.sl tMs))
def bQw:ST:= .one (.ptr 13 0)
def bCj:ST:= .one (.row 16)
def bJ6:ST:= .one (.ptr 0 0)
def bRe:ST:= .one (.var (.sl tIb))
def bJg:ST:= .one (.row 127)
def e1:Nat×ST:=(1,vr1)
def e2:Nat×ST:=(0,vr1)
def e3:Nat×ST:=(0,vr2)
def e4:Nat×ST:=(2,vr1)
def e5:Nat×ST:=(0,ag1)
def e6:Nat×ST:=(3,vr1)
def e7:Nat×ST:=(5,vr1)
def e8:Nat×ST:=(0,vr3)
def e9:Nat×ST:=(0,vr4)
def e10:Nat×ST:=(4,vr1)
def e11:Nat×ST:=(4,vr2)
def e12:Nat×ST:=(0,vr5)
def e13:Nat×ST:=(6,vr1)
def e14:Nat×ST:=(2,vr2)
def e15:Nat×ST:=(0,ag3)
def e16:Nat×ST:=(0,ag2)
def e17:Nat×ST:=(9,vr1)
def e18:Nat×ST:=(3,vr6)
def e19:Nat×ST:=(8,vr1)
def e20:Nat×ST:=(3,vr9)
def e21:Nat×ST:=(7,vr1)
def e22:Nat×ST:=(0,ag4)
def e23:Nat×ST:=(0,ag7)
def e24:Nat×ST:=(5,vr8)
def e25:Nat×ST:=(1,ag2)
def e26:Nat×ST:=(0,ag8)
def e27:Nat×ST:=(1,ag3)
def e28:Nat×ST:=(1,ag4)
def e29:Nat×ST:=(0,ag6)
def e30:Nat×ST:=(1,vr2)
def e31:Nat×ST:=(9,bTe)
def e32:Nat×ST:=(0,ag5)
def e33:Nat×ST:=(0,bRr)
def e34:Nat×ST:=(10,vr1)
def e35:Nat×ST:=(0,vr7)
def e36:Nat×ST:=(0,bQz)
def e37:Nat×ST:=(12,vr2)
def e38:Nat×ST:=(0,bT0)
def e39:Nat×ST:=(0,bTp)
def e40:Nat×ST:=(0,bT3)
def e41:Nat×ST:=(0,bP8)
def e42:Nat×ST:=(0,bRp)
def e43:Nat×ST:=(3,ag2)
def e44:Nat×ST:=(7,aO1)
def e45:Nat×ST:=(1,vr7)
def e46:Nat×ST:=(0,bPw)
def e47:Nat×ST:=(0,bHg)
def e48:Nat×ST:=(6,vr2)
def e49:Nat×ST:=(13,vr1)
def e50:Nat×ST:=(5,vr7)
def e51:Nat×ST:=(0,ag9)
def e52:Nat×ST:=(0,bTv)
def e53:Nat×ST:=(0,aZd)
def e54:Nat×ST:=(12,vr1)
def e55:Nat×ST:=(0,bTz)
def e56:Nat×ST:=(0,bQi)
def e57:Nat×ST:=(1,bQi)
def e58:Nat×ST:=(31,vr2)
def e59:Nat×ST:=(3,bTc)
def e60:Nat×ST:=(7,bTb)
def e61:Nat×ST:=(34,vr2)
def e62:Nat×ST:=(7,aV3)
def e63:Nat×ST:=(15,vr1)
def e64:Nat×ST:=(11,bTy)
def e65:Nat×ST:=(7,.one (.row 18))
def e66:Nat×ST:=(7,.one (.row 9))
def e67:Nat×ST:=(7,.one (.row 29))
def o1:Nat×OT:=(1000000,ob1)
def o2:Nat×OT:=(1,ow1)
def o3:Nat×OT:=(0,ow5)
def o4:Nat×OT:=(2,ow7)
def o5:Nat×OT:=(1000000,ob2)
def o6:Nat×OT:=(0,ow2)
def o7:Nat×OT:=(1,ow4)
def o8:Nat×OT:=(0,aBs)
def o9:Nat×OT:=(300001,ow2)
def o10:Nat×OT:=(0,ow9)
def o11:Nat×OT:=(300001,aIn)
def o12:Nat×OT:=(1624,ow6)
def o13:Nat×OT:=(0,ow3)
def o14:Nat×OT:=(0,aIn)
def o15:Nat×OT:=(1,aEb)
def o16:Nat×OT:=(6,ow3)
def o17:Nat×OT:=(0,ow4)
def o18:Nat×OT:=(3,ob3)
def o19:Nat×OT:=(300002,ow1)
def o20:Nat×OT:=(0,aIo)
def o21:Nat×OT:=(1,ow6)
def o22:Nat×OT:=(300001,ow3)
def o23:Nat×OT:=(15,ow6)
def o24:Nat×OT:=(300001,ow5)
def o25:Nat×OT:=(300003,ow7)
def o26:Nat×OT:=(1,aAy)
def o27:Nat×OT:=(2,aC4)
def o28:Nat×OT:=(300003,aEb)
def o29:Nat×OT:=(2,ob4)
def o30:Nat×OT:=(3,ob7)
def o31:Nat×OT:=(300001,aIo)
def o32:Nat×OT:=(1000000,ob5)
def o33:Nat×OT:=(2,ow8)
def o34:Nat×OT:=(3,ow8)
def o35:Nat×OT:=(4,ow9)
def o36:Nat×OT:=(5,aAy)
def o37:Nat×OT:=(7,aC0)
def o38:Nat×OT:=(9,aFw)
def o39:Nat×OT:=(10,aP2)
def o40:Nat×OT:=(10,ow6)
def o41:Nat×OT:=(300001,ow9)
def o42:Nat×OT:=(300001,aP2)
def o43:Nat×OT:=(1001109,ow5)
def o44:Nat×OT:=(1001110,ow1)
def o45:Nat×OT:=(1001111,ow7)
def o46:Nat×OT:=(300001,ow8)
def o47:Nat×OT:=(300003,aIo)
def o48:Nat×OT:=(300002,ow4)
def o49:Nat×OT:=(300001,ow4)
def o50:Nat×OT:=(0,.row 163 3 tAS false)
def o51:Nat×OT:=(1,.row 125 5 tLk false)
def k0:Nat×ST:=(0,.keep)
def k1:Nat×ST:=(1,.keep)
def k2:Nat×ST:=(2,.keep)
def k3:Nat×ST:=(3,.keep)
def k4:Nat×ST:=(4,.keep)
def k5:Nat×ST:=(5,.keep)
def k6:Nat×ST:=(6,.keep)
def k7:Nat×ST:=(7,.keep)
def k8:Nat×ST:=(8,.keep)
def k9:Nat×ST:=(9,.keep)
def k10:Nat×ST:=(10,.keep)
def k11:Nat×ST:=(11,.keep)
def k12:Nat×ST:=(12,.keep)
def k13:Nat×ST:=(13,.keep)
def k14:Nat×ST:=(14,.keep)
def k15:Nat×ST:=(15,.keep)
def k16:Nat×ST:=(16,.keep)
def k17:Nat×ST:=(17,.keep)
def k18:Nat×ST:=(18,.keep)
def k19:Nat×ST:=(19,.keep)
def k20:Nat×ST:=(20,.keep)
def k21:Nat×ST:=(21,.keep)
def k31:Nat×ST:=(31,.keep)
def k32:Nat×ST:=(32,.keep)
def k33:Nat×ST:=(33,.keep)
def k35:Nat×ST:=(35,.keep)
def k36:Nat×ST:=(36,.keep)
def k49:Nat×ST:=(49,.keep)
def k50:Nat×ST:=(50,.keep)
def k51:Nat×ST:=(51,.keep)
def k64:Nat×ST:=(64,.keep)
def k65:Nat×ST:=(65,.keep)
def j0:Nat×OT:=(0,.keep)
def j1:Nat×OT:=(1,.keep)
def j2:Nat×OT:=(2,.keep)
def j3:Nat×OT:=(3,.keep)
def j4:Nat×OT:=(4,.keep)
def j5:Nat×OT:=(5,.keep)
def j6:Nat×OT:=(6,.keep)
def j7:Nat×OT:=(7,.keep)
def j8:Nat×OT:=(8,.keep)
def j9:Nat×OT:=(9,.keep)
def j10:Nat×OT:=(10,.keep)
def j11:Nat×OT:=(11,.keep)
def j12:Nat×OT:=(12,.keep)
def j14:Nat×OT:=(14,.keep)
def j15:Nat×OT:=(15,.keep)
def j16:Nat×OT:=(16,.keep)
def j19:Nat×OT:=(19,.keep)
def j26:Nat×OT:=(26,.keep)
def j29:Nat×OT:=(29,.keep)
def aSa:Nat×OT:=(1080,.keep)
def aS5:Nat×OT:=(1081,.keep)
def bSy:Nat×OT:=(1082,.keep)
def aMv:Nat×OT:=(1112,.keep)
def bB8:Nat×OT:=(1113,.keep)
def bB9:Nat×OT:=(1114,.keep)
def aC8:Nat×OT:=(1128,.keep)
def bLy:Nat×OT:=(1129,.keep)
def bK8:Nat×OT:=(1130,.keep)
def bLp:Nat×OT:=(1131,.keep)
def bKv:Nat×OT:=(1132,.keep)
def bLn:Nat×OT:=(1133,.keep)
def bLh:Nat×OT:=(1134,.keep)
def bLk:Nat×OT:=(1135,.keep)
def bSv:Nat×OT:=(1136,.keep)
def bMb:Nat×OT:=(1137,.keep)
def bSb:Nat×OT:=(1144,.keep)
def bS3:Nat×OT:=(1145,.keep)
def bSz:Nat×OT:=(1146,.keep)
def aE1:Nat×OT:=(1160,.keep)
def bLl:Nat×OT:=(1161,.keep)
def aSq:Nat×OT:=(1176,.keep)
def aJ6:Nat×OT:=(1177,.keep)
def aZs:Nat×OT:=(1178,.keep)
def aG0:Nat×OT:=(1192,.keep)
def bKg:Nat×OT:=(1193,.keep)
def tW:Nat×OT:=(1208,.keep)
def uK:Nat×OT:=(1209,.keep)
def aEx:Nat×OT:=(1210,.keep)
def aFh:Nat×OT:=(1211,.keep)
def aSv:Nat×OT:=(1212,.keep)
def aSs:Nat×OT:=(1213,.keep)
def aSp:Nat×OT:=(1214,.keep)
def aSz:Nat×OT:=(1215,.keep)
def aSj:Nat×OT:=(1216,.keep)
def aS3:Nat×OT:=(1217,.keep)
def bSn:Nat×OT:=(1224,.keep)
def bS2:Nat×OT:=(1225,.keep)
def aAv:Nat×OT:=(1272,.keep)
def aCa:Nat×OT:=(1273,.keep)
def aZr:Nat×OT:=(1288,.keep)
def aMs:Nat×OT:=(1304,.keep)
def aFl:Nat×OT:=(1320,.keep)
def aEv:Nat×OT:=(1336,.keep)
def aE0:Nat×OT:=(1337,.keep)
def bSl:Nat×OT:=(1368,.keep)
def aA3:Nat×OT:=(1400,.keep)
def bR7:Nat×OT:=(1401,.keep)
def aSu:Nat×OT:=(1496,.keep)
def aSe:Nat×OT:=(1497,.keep)
def aSb:Nat×OT:=(1498,.keep)
def aR7:Nat×OT:=(1499,.keep)
def aS4:Nat×OT:=(1500,.keep)
def aSo:Nat×OT:=(1501,.keep)
def aSx:Nat×OT:=(1502,.keep)
def aR9:Nat×OT:=(1503,.keep)
def aS6:Nat×OT:=(1504,.keep)
def aS0:Nat×OT:=(1505,.keep)
def bS4:Nat×OT:=(1528,.keep)
def bS8:Nat×OT:=(1529,.keep)
def bSa:Nat×OT:=(1530,.keep)
def bKj:Nat×OT:=(1560,.keep)
def bMa:Nat×OT:=(1561,.keep)
def bSd:Nat×OT:=(1592,.keep)
def bSp:Nat×OT:=(1593,.keep)
def aSl:Nat×OT:=(1624,.keep)
def vX:Nat×OT:=(1672,.keep)
def bSh:Nat×OT:=(1688,.keep)
def vT:Nat×OT:=(1720,.keep)
def bK3:Nat×OT:=(1736,.keep)
def bS1:Nat×OT:=(1787,.keep)
def bSm:Nat×OT:=(1788,.keep)
def bR8:Nat×OT:=(1944,.keep)
def bL4:Nat×OT:=(2152,.keep)
def bKx:Nat×OT:=(2153,.keep)
def bB3:Nat×OT:=(2312,.keep)
def aZy:Nat×OT:=(2313,.keep)
def aZ6:Nat×OT:=(2314,.keep)
def bBn:Nat×OT:=(2315,.keep)
def bAq:Nat×OT:=(2316,.keep)
def bCt:Nat×OT:=(2317,.keep)
def bBh:Nat×OT:=(2318,.keep)
def bCb:Nat×OT:=(2319,.keep)
def bLr:Nat×OT:=(2320,.keep)
def bBy:Nat×OT:=(2321,.keep)
def dL:Nat×OT:=(300001,.keep)
def wC:Nat×OT:=(300002,.keep)
def vA:Nat×OT:=(300003,.keep)
def aDp:Nat×OT:=(300004,.keep)
def bOk:Nat×OT:=(300005,.keep)
def aPz:Nat×OT:=(300006,.keep)
def aPv:Nat×OT:=(300007,.keep)
def aOx:Nat×OT:=(300008,.keep)
def aPi:Nat×OT:=(300009,.keep)
def aO6:Nat×OT:=(300010,.keep)
def aP7:Nat×OT:=(300011,.keep)
def aP3:Nat×OT:=(300012,.keep)
def aP5:Nat×OT:=(300013,.keep)
def aPa:Nat×OT:=(300014,.keep)
def aO0:Nat×OT:=(300015,.keep)
def aS:Nat×OT:=(1000000,.keep)
def zI:Nat×OT:=(1001109,.keep)
def zN:Nat×OT:=(1001110,.keep)
def zK:Nat×OT:=(1001111,.keep)
def sh1:Sh:=⟨[e3],[]⟩
def sh2:Sh:=⟨[e2],[]⟩
def sh3:Sh:=⟨[],[]⟩
def sh4:Sh:=⟨[e11],[]⟩
def sh5:Sh:=⟨[e2,e1],[]⟩
def sh6:Sh:=⟨[e15],[]⟩
def sh7:Sh:=⟨[e14],[]⟩
def sh8:Sh:=⟨[e9],[o1]⟩
def sh9:Sh:=⟨[e16],[]⟩
def aBc:Sh:=⟨[e12],[]⟩
def aC5:Sh:=⟨[k0,k1,e7],[]⟩
def aEl:Sh:=⟨[],[o3,o2,o4,o5]⟩
def aFp:Sh:=⟨[e8],[o13]⟩
def aFn:Sh:=⟨[e23],[o6,o7]⟩
def aFr:Sh:=⟨[k2,k3,e7],[j2,j3]⟩
def aMm:Sh:=⟨[e5,e1,e4],[]⟩
def aMe:Sh:=⟨[e22],[]⟩
def aMh:Sh:=⟨[e35],[]⟩
def aLw:Sh:=⟨[e39],[o8,o21,o27]⟩
def aL5:Sh:=⟨[e41],[o6]⟩
def aMb:Sh:=⟨[e26],[]⟩
def aLq:Sh:=⟨[e29,e1],[]⟩
def aL0:Sh:=⟨[e48],[]⟩
def aP6:Sh:=⟨[e9,e1],[o1]⟩
def aPc:Sh:=⟨[e8],[(0,ow6)]⟩
def aO2:Sh:=⟨[e9,e1,e4,e43],[o5,o3,o2,o4]⟩
def aOw:Sh:=⟨[e42,e25],[]⟩
def aP0:Sh:=⟨[k0,k1,e37],[]⟩
def aVi:Sh:=⟨[e2],[o1]⟩
def aUz:Sh:=⟨[e5,e28],[]⟩
def aTr:Sh:=⟨[e38],[o10,o26]⟩
def aV1:Sh:=⟨[e53],[]⟩
def aU5:Sh:=⟨[e40],[o8]⟩
def aVr:Sh:=⟨[e5,e27],[]⟩
def aUi:Sh:=⟨[e23,e30],[o6,o7]⟩
def aTt:Sh:=⟨[e12,e1],[]⟩
def aVo:Sh:=⟨[e8],[o17]⟩
def aVm:Sh:=⟨[k1,e6],[j1]⟩
def bB2:Sh:=⟨[e5,e1],[]⟩
def bCi:Sh:=⟨[e32],[]⟩
def bA8:Sh:=⟨[e8],[(0,ow8)]⟩
def bA5:Sh:=⟨[e22,e28],[]⟩
def bBf:Sh:=⟨[e52],[o14,o15,o33,o34,o35,o36,o16,o37,(8,aI5),o38]⟩
def bAh:Sh:=⟨[e29],[]⟩
def bAt:Sh:=⟨[e40],[o20]⟩
def bAs:Sh:=⟨[e56],[]⟩
def bAn:Sh:=⟨[e9,e1,(2,ag2)],[o5,o3,o2,o4]⟩
def bB6:Sh:=⟨[e36,e1,e4,e6],[]⟩
def aZq:Sh:=⟨[e33,e1,e4,e6,e10],[]⟩
def bBz:Sh:=⟨[e3],[o3,o2,o4,o5]⟩
def bCs:Sh:=⟨[k1],[j1]⟩
def bBg:Sh:=⟨[k2,k3],[j2,o18,o9]⟩
def bBu:Sh:=⟨[k0],[o24,o19,o25,o32]⟩
def bHm:Sh:=⟨[e2,e1,e4],[]⟩
def bHp:Sh:=⟨[e32,e1,e4],[]⟩
def bJn:Sh:=⟨[e35,e1],[]⟩
def bGz:Sh:=⟨[e22,e1],[]⟩
def bI3:Sh:=⟨[e2,e45],[]⟩
def bJc:Sh:=⟨[e2,e1,e4,(3,ag5)],[]⟩
def bGs:Sh:=⟨[(0,bQ3)],[o20]⟩
def bG0:Sh:=⟨[e5,(1,ag6)],[]⟩
def bJa:Sh:=⟨[e8],[(0,aP2)]⟩
def bHj:Sh:=⟨[e15,e27],[]⟩
def bH4:Sh:=⟨[e8],[(0,aC4)]⟩
def bJ1:Sh:=⟨[e8],[o10]⟩
def bHw:Sh:=⟨[e16,e1],[]⟩
def bJq:Sh:=⟨[e5,e1,e4,e6,e10,(5,ag2)],[]⟩
def bH1:Sh:=⟨[e36,e1,e4,e6,e10],[]⟩
def bIj:Sh:=⟨[(0,aZp)],[]⟩
def bG1:Sh:=⟨[(8,vr2)],[]⟩
def bIa:Sh:=⟨[k0,k1,k5,(25,vr2)],[]⟩
def bIb:Sh:=⟨[k1,k2,k3,e10],[j1,j2,o18,o9]⟩
def bI9:Sh:=⟨[k2,k3],[j2,j3]⟩
def bQ8:Sh:=⟨[e55],[o14,o15,o1]⟩
def bOs:Sh:=⟨[e5,e1,e4,(3,ag5)],[]⟩
def bQc:Sh:=⟨[(0,aZp),(1,aZp)],[]⟩
def bQ4:Sh:=⟨[e55],[(0,ow8),(1,ow8)]⟩
def bP5:Sh:=⟨[e5,(1,ag9),e4,e6],[]⟩
def bOp:Sh:=⟨[(0,bRe),e1,e4],[]⟩
def bOy:Sh:=⟨[e29,(1,ag6)],[]⟩
def bO6:Sh:=⟨[e33,e1,e4,e6],[]⟩
def bQm:Sh:=⟨[e2,e27,e4,e6,(4,vr5)],[]⟩
def bRs:Sh:=⟨[e12,(1,vr5)],[]⟩
def bP3:Sh:=⟨[(0,bRj)],[o6,o7]⟩
def bO4:Sh:=⟨[e5,e1,(2,ag2)],[]⟩
def bO8:Sh:=⟨[e16,e1,e4,(3,vr5)],[]⟩
def bRl:Sh:=⟨[e8,e1,e14],[o13]⟩
def bQo:Sh:=⟨[e38,e30],[o10,o26]⟩
def bQ6:Sh:=⟨[e5,e1,e4,e6,(4,ag2)],[]⟩
def bQb:Sh:=⟨[e9,(1,bRv)],[o5,o3,o2,o4]⟩
def bPk:Sh:=⟨[e9,(1,bTw)],[o1,o43,o44,o45]⟩
def bQt:Sh:=⟨[(0,bJ5)],[o3,o2,o4,o1]⟩
def bQ0:Sh:=⟨[e38],[o10,o26,o1]⟩
def bRb:Sh:=⟨[e46,e1,e4,e43],[]⟩
def bQ2:Sh:=⟨[k1,k2,(5,vr6),k6],[j2,o22]⟩
def bPz:Sh:=⟨[k0,k2,k3,k4,k8],[j2,o30,o11,o28,o1]⟩
def bQq:Sh:=⟨[k1,k2,k3,e21],[j3]⟩
def bPy:Sh:=⟨[k9,(30,vr2)],[j9]⟩
def bRu:Sh:=⟨[k1,e59,e10],[j1,(5,ow3)]⟩
def bKy:Sh:=⟨[k2,k3,(22,vr2)],[j2,j3]⟩
def bKn:Sh:=⟨[k2,k3,e50,e13],[j2,j3]⟩
def bL3:Sh:=⟨[k2,k3,k5,k6],[j2,j3]⟩
def bLx:Sh:=⟨[k2],[(2,.box [.row 3,.row 7]),(3,aIn),(7,aEb)]⟩
def bMe:Sh:=⟨[k1,k2,k3,e62],[j3,o23]⟩
def bLs:Sh:=⟨[k2,k3,e58],[j2,j3]⟩
def bK0:Sh:=⟨[e20,k4,k5],[o16,aC8]⟩
def bKs:Sh:=⟨[k0,k3,k4,e7],[dL]⟩
def bKz:Sh:=⟨[k4,k5],[j4,(5,bTi),(1112,aBs)]⟩
def bKi:Sh:=⟨[k3,k4,(16,vr2)],[j3,j4]⟩
def bL0:Sh:=⟨[k4,k5],[j4,(5,bTl),aMv,bB8,bB9]⟩
def bKk:Sh:=⟨[k2,k4,(21,vr2)],[j2,aE1]⟩
def bL1:Sh:=⟨[k3,k6,k7,k8,(24,vr2)],[j3,j6,j7,j8,aSq,aJ6,aZs]⟩
def bKd:Sh:=⟨[k3,k6,k7,k8,(42,vr2)],[j3,j6,j7,j8,aSq,aJ6,aZs]⟩
def bLi:Sh:=⟨[k0,k1,k5,k6,e60],[j0,j1,j2,j5,(7,bTu),(1544,aBs),aS]⟩
def bKo:Sh:=⟨[k0,k1,k5,e34],[j0,o2,j2,j5,aS]⟩
def bL9:Sh:=⟨[k0,k1,k5,k10],[j0,o2,j2,j5,aS]⟩
def bLq:Sh:=⟨[k0,k1,k5,k10,e64],[j0,j1,j2,j5,(11,bTj),(2312,aBs),(2313,ow6),(2314,aC4),aS]⟩
def bLo:Sh:=⟨[e1,(5,vr9)],[(6,ow4)]⟩
def bKl:Sh:=⟨[k0,k1,k7,(8,bHd)],[j0,j1,j2,j7,(8,bTs),(1560,ow2),(1561,ow4),aS]⟩
def bLb:Sh:=⟨[k0,k8,k9,k10,e64,e37],[j0,j1,j2,j8,(11,bTo),bKj,bMa,(2152,ow9),(2153,aAy),aS]⟩
def bLt:Sh:=⟨[k0,k8,k9,k10,k11,(83,vr2)],[j0,j1,j2,j8,j11,bKj,bMa,bL4,bKx,aS]⟩
def bLm:Sh:=⟨[],[o3,j1,j2,bL4,bKx,(1000000,bTx)]⟩
def bK2:Sh:=⟨[k0,k1,k7,(13,bQw)],[j0,j1,j2,j7,(13,bTd),(2904,ow2),(2905,ow4),aS]⟩
def bK4:Sh:=⟨[],[o3,j1,j2,o5]⟩
def bK1:Sh:=⟨[e1,(5,.one (.row 1112))],[(1112,ow4)]⟩
def bLj:Sh:=⟨[k0,k1,k7,(8,bHd),e17],[j0,j1,j2,j7,(8,bJi),aS]⟩
def bMc:Sh:=⟨[k0,k1,k7,k8,k9,(54,vr2)],[j0,j1,j2,j7,j8,aS]⟩
def bK7:Sh:=⟨[k0,k1,e64,e37],[j0,j1,j2,(11,bTm),(2584,ow2),(2585,ow4),aS]⟩
def bKt:Sh:=⟨[k0,k1,k7,k9,(116,vr2)],[j0,j1,j2,j7,aS]⟩
def bLc:Sh:=⟨[k0,k1,k7,(13,bQw)],[j0,j1,j2,j7,(13,bTa),(3176,ow2),(3177,ow4),aS]⟩
def bKr:Sh:=⟨[k2,k3,e10,e7],[o29,(3,ob8),dL,wC,aS]⟩
def bKu:Sh:=⟨[k2,k3,e13],[j2,j3]⟩
def aEy.con:Con:=⟨7,aBc,sh1,false,fun x=>aEy x⟩
def wE.con:Con:=⟨70,aBc,⟨[(0,bJ6)],[(0,ob1)]⟩,false,fun x=>wE x⟩
def nZ.con:Con:=⟨86,sh8,aVi,false,fun (x0,x1,x2)=>nZ (x0,x1,x2)⟩
def aB.con:Con:=⟨38,aP6,aVi,false,fun (x0,x1,x2,x3)=>aB (x1,x2,x3) x0⟩
def tR.con:Con:=⟨285,⟨[e8,e1],[(0,.row 3 1 ti false)]⟩,aFp,false,fun (x0,x1)=>tR x1 x0⟩
def gG.con:Con:=⟨197,bB2,aFp,false,fun (x0,x1,x2)=>gG (x0,x1) x2⟩
def sN.con:Con:=⟨308,⟨[e9,e1,e4,e6],[(1000000,.box [.row 0,.row 1]),o50,o51]⟩,⟨[],[o50,o51,(1000000,.box [.row 0,.row 1])]⟩,false,fun (x0,x1,x2,x3,x4)=>sN (x3,x4) x0 x1 x2⟩
def cD.con:Con:=⟨37,aP6,⟨[e3],[o1]⟩,false,fun (x0,x1,x2,x3)=>cD (x1,x2,x3) x0⟩
def aL.con:Con:=⟨126,bHm,sh1,false,fun (x0,x1,x2)=>aL x0 x1 x2⟩
def dQ.con:Con:=⟨240,bB2,sh1,false,fun (x0,x1,x2)=>dQ (x0,x1) x2⟩
def oI.con:Con:=⟨309,⟨[e5,(1,ag5)],[]⟩,sh1,false,fun (x0,x1,x2,x3,x4,x5,x6)=>oI (x0,x1) (x2,x3,x4,x5,x6)⟩
def qG.con:Con:=⟨226,sh8,bQ8,false,fun (x0,x1,x2)=>qG (x0,x1,x2)⟩
def sH.con:Con:=⟨286,bHp,sh1,false,fun (x0,x1,x2,x3,x4,x5,x6)=>sH (x0,x1,x2,x3,x4) x5 x6⟩
def jO.con:Con:=⟨199,aMm,sh2,false,fun (x0,x1,x2,x3)=>jO (x0,x1) x2 x3⟩
def dT.con:Con:=⟨282,aMm,sh2,false,fun (x0,x1,x2,x3)=>dT (x0,x1) x2 x3⟩
def iA.con:Con:=⟨316,aMm,aFp,false,fun (x0,x1,x2,x3)=>iA (x0,x1) x2 x3⟩
def eF.con:Con:=⟨118,aMm,sh5,false,fun (x0,x1,x2,x3)=>eF (x0,x1) x2 x3⟩
def cX.con:Con:=⟨317,aMe,aFp,false,fun (x0,x1,x2)=>cX (x0,x1,x2)⟩
def fB.con:Con:=⟨198,bJn,sh1,false,fun (x0,x1)=>fB x0 x1⟩
def tX.con:Con:=⟨360,bGz,aFp,false,fun (x0,x1,x2,x3)=>tX (x0,x1,x2) x3⟩
def kG.con:Con:=⟨275,sh2,sh1,false,fun x=>kG x⟩
def qK.con:Con:=⟨301,sh5,sh2,false,fun (x0,x1)=>qK x0 x1⟩
def sS.con:Con:=⟨359,bI3,sh2,false,fun (x0,x1)=>sS x0 x1⟩
def gF.con:Con:=⟨315,bGz,sh2,false,fun (x0,x1,x2,x3)=>gF (x0,x1,x2) x3⟩
def aE7.con:Con:=⟨415,sh5,sh2,false,fun (x0,x1)=>aE7 x0 x1⟩
def uJ.con:Con:=⟨404,aMh,sh2,false,fun x=>uJ x⟩
def rY.con:Con:=⟨388,bI3,sh2,false,fun (x0,x1)=>rY x0 x1⟩
def uF.con:Con:=⟨358,bJc,sh2,false,fun (x0,x1,x2,x3,x4,x5,x6,x7)=>uF x0 x1 x2 (x3,x4,x5,x6,x7)⟩
def eX.con:Con:=⟨314,bJc,bCi,false,fun (x0,x1,x2,x3,x4,x5,x6,x7)=>eX x0 x1 x2 (x3,x4,x5,x6,x7)⟩
def iT.con:Con:=⟨229,⟨[e9,(1,ag1),e4],[o1]⟩,⟨[(0,bQ3)],[o20,o1]⟩,false,fun (x0,x1,x2,x3,x4,x5)=>iT (x3,x4,x5) (x0,x1) x2⟩
def fN.con:Con:=⟨183,aMe,bGs,false,fun (x0,x1,x2)=>fN (x0,x1,x2)⟩
def tA.con:Con:=⟨228,aUz,bGs,false,fun (x0,x1,x2,x3,x4)=>tA (x0,x1) (x2,x3,x4)⟩
def eZ.con:Con:=⟨110,⟨[(0,aUm)],[]⟩,bA8,false,fun x=>eZ x⟩
def jA.con:Con:=⟨383,bCi,sh1,false,fun (x0,x1,x2,x3,x4)=>jA (x0,x1,x2,x3,x4)⟩
def iH.con:Con:=⟨355,aUz,sh1,false,fun (x0,x1,x2,x3,x4)=>iH (x0,x1) (x2,x3,x4)⟩
def fO.con:Con:=⟨349,bOs,sh1,false,fun (x0,x1,x2,x3,x4,x5,x6,x7,x8)=>fO (x0,x1) x2 x3 (x4,x5,x6,x7,x8)⟩
def gB.con:Con:=⟨356,aUz,sh2,false,fun (x0,x1,x2,x3,x4)=>gB (x0,x1) (x2,x3,x4)⟩
def cE.con:Con:=⟨264,aMe,sh2,false,fun (x0,x1,x2)=>cE (x0,x1,x2)⟩
def gC.con:Con:=⟨313,aUz,sh2,false,fun (x0,x1,x2,x3,x4)=>gC (x0,x1) (x2,x3,x4)⟩
def jW.con:Con:=⟨310,aUz,sh1,false,fun (x0,x1,x2,x3,x4)=>jW (x0,x1) (x2,x3,x4)⟩
def kD.con:Con:=⟨311,aMe,sh1,false,fun (x0,x1,x2)=>kD (x0,x1,x2)⟩
def iI.con:Con:=⟨403,bQc,sh1,false,fun (x0,x1)=>iI x0 x1⟩
def iX.con:Con:=⟨387,bA5,sh1,false,fun (x0,x1,x2,x3,x4,x5)=>iX (x0,x1,x2) (x3,x4,x5)⟩
def sG.con:Con:=⟨357,⟨[(0,aUm),e28],[]⟩,sh1,false,fun (x0,x1,x2,x3)=>sG x0 (x1,x2,x3)⟩
def mI.con:Con:=⟨312,⟨[e51,e28],[]⟩,sh1,false,fun (x0,x1,x2,x3,x4)=>mI (x0,x1) (x2,x3,x4)⟩
def mH.con:Con:=⟨227,⟨[e5,(1,ag9),(2,ag4)],[]⟩,bQ4,false,fun (x0,x1,x2,x3,x4,x5,x6)=>mH (x0,x1) (x2,x3) (x4,x5,x6)⟩
def tU.con:Con:=⟨341,sh2,sh1,false,fun x=>tU x⟩
def kN.con:Con:=⟨254,⟨[e5],[]⟩,sh1,false,fun (x0,x1)=>kN (x0,x1)⟩
def pE.con:Con:=⟨109,⟨[e5],[]⟩,⟨[e55],[o14,o15]⟩,false,fun (x0,x1)=>pE (x0,x1)⟩
def fC.con:Con:=⟨318,sh2,aTr,false,fun x=>fC x⟩
def oV.con:Con:=⟨230,bP5,bBf,false,fun (x0,x1,x2,x3,x4,x5)=>oV (x0,x1) (x2,x3) x4 x5⟩
def eD.con:Con:=⟨265,aMe,sh2,false,fun (x0,x1,x2)=>eD (x0,x1,x2)⟩
def vB.con:Con:=⟨231,⟨[e9,(1,ag9)],[o1]⟩,⟨[e2,e1],[o1]⟩,false,fun (x0,x1,x2,x3,x4)=>vB (x2,x3,x4) (x0,x1)⟩
def dS.con:Con:=⟨89,⟨[e9,e45],[o1]⟩,aVi,false,fun (x0,x1,x2,x3)=>dS (x1,x2,x3) x0⟩
def xQ.con:Con:=⟨232,bHm,aLw,false,fun (x0,x1,x2)=>xQ x0 x1 x2⟩
def dP.con:Con:=⟨170,aP6,⟨[e8],[o17,o1]⟩,false,fun (x0,x1,x2,x3)=>dP (x1,x2,x3) x0⟩
def oM.con:Con:=⟨272,⟨[(0,bBr)],[]⟩,⟨[e8],[o8]⟩,false,fun x=>oM x⟩
def nO.con:Con:=⟨54,bAh,bAt,false,fun (x0,x1,x2,x3)=>nO (x0,x1,x2,x3)⟩
def gX.con:Con:=⟨133,sh6,aL5,false,fun x=>gX x⟩
def vH.con:Con:=⟨273,aV1,aPc,false,fun x=>vH x⟩
def eJ.con:Con:=⟨185,aMb,aLw,false,fun (x0,x1,x2,x3,x4,x5,x6,x7,x8)=>eJ (x0,x1,x2,x3,x4,x5,x6,x7,x8)⟩
def yY.con:Con:=⟨291,sh5,sh2,false,fun (x0,x1)=>yY x0 x1⟩
def bR.con:Con:=⟨135,bAs,sh1,false,fun (x0,x1,x2)=>bR (x0,x1,x2)⟩
def lD.con:Con:=⟨257,aMb,sh1,false,fun (x0,x1,x2,x3,x4,x5,x6,x7,x8)=>lD (x0,x1,x2,x3,x4,x5,x6,x7,x8)⟩
def pL.con:Con:=⟨233,⟨[e26,(1,vr5)],[]⟩,⟨[e39,e30],[o8,o21,o27]⟩,false,fun (x0,x1,x2,x3,x4,x5,x6,x7,x8,x9)=>pL (x0,x1,x2,x3,x4,x5,x6,x7,x8) x9⟩
def gW.con:Con:=⟨111,⟨[e36],[]⟩,aTr,false,fun (x0,x1,x2)=>gW (x0,x1,x2)⟩
def fD.con:Con:=⟨184,sh9,aFn,false,fun (x0,x1,x2,x3,x4,x5,x6,x7,x8,x9)=>fD (x0,x1,x2,x3,x4,x5,x6,x7,x8,x9)⟩
def sB.con:Con:=⟨112,⟨[(0,.one (.var (.sl tFy)))],[]⟩,⟨[e8],[(0,aC0)]⟩,false,fun x=>sB x⟩
def mX.con:Con:=⟨113,⟨[(0,.one (.var (.sl tFl)))],[]⟩,⟨[e8],[(0,aI5)]⟩,false,fun x=>mX x⟩
def rI.con:Con:=⟨186,⟨[e42],[]⟩,aU5,false,fun (x0,x1,x2,x3)=>rI (x0,x1,x2,x3)⟩
def mY.con:Con:=⟨114,⟨[(0,bRe)],[]⟩,⟨[e8],[(0,aFw)]⟩,false,fun x=>mY x⟩
def lZ.con:Con:=⟨48,⟨[e46],[]⟩,bBf,false,fun (x0,x1,x2,x3,x4,x5,x6,x7,x8,x9,x10,x11,x12)=>lZ ((x0,x1),(x2,x3),(x4,x5,x6),x7,x8,x9,x10,x11,x12)⟩
def kX.con:Con:=⟨201,bOp,sh2,false,fun (x0,x1,x2)=>kX x0 x1 x2⟩
def dJ.con:Con:=⟨392,⟨[e51,e1],[]⟩,bA8,false,fun (x0,x1,x2)=>dJ (x0,x1) x2⟩
def mG.con:Con:=⟨409,bGz,sh2,false,fun (x0,x1,x2,x3)=>mG (x0,x1,x2) x3⟩
def dI.con:Con:=⟨278,sh2,sh1,false,fun x=>dI x⟩
def bM.con:Con:=⟨263,⟨[e22,e1,e4],[]⟩,bAt,false,fun (x0,x1,x2,x3,x4)=>bM (x0,x1,x2) x3 x4⟩
def mW.con:Con:=⟨410,⟨[e51,e1,e4],[]⟩,bA8,false,fun (x0,x1,x2,x3)=>mW (x0,x1) x2 x3⟩
def kU.con:Con:=⟨411,⟨[e22,e28,e14,(3,ag4)],[]⟩,aL5,false,fun (x0,x1,x2,x3,x4,x5,x6,x7,x8,x9)=>kU (x0,x1,x2) (x3,x4,x5) x6 (x7,x8,x9)⟩
def iD.con:Con:=⟨394,⟨[e51,e28,e4,e6,(4,ag4)],[]⟩,aPc,false,fun (x0,x1,x2,x3,x4,x5,x6,x7,x8,x9)=>iD (x0,x1) (x2,x3,x4) x5 x6 (x7,x8,x9)⟩
def sW.con:Con:=⟨391,⟨[e51,e1,e4],[]⟩,aPc,false,fun (x0,x1,x2,x3)=>sW (x0,x1) x2 x3⟩
def iP.con:Con:=⟨262,bA5,aL5,false,fun (x0,x1,x2,x3,x4,x5)=>iP (x0,x1,x2) (x3,x4,x5)⟩
def iG.con:Con:=⟨393,bA5,aL5,false,fun (x0,x1,x2,x3,x4,x5)=>iG (x0,x1,x2) (x3,x4,x5)⟩
def lY.con:Con:=⟨363,bP5,aPc,false,fun (x0,x1,x2,x3,x4,x5)=>lY (x0,x1) (x2,x3) x4 x5⟩
def rL.con:Con:=⟨384,bAh,aFp,false,fun (x0,x1,x2,x3)=>rL (x0,x1,x2,x3)⟩
def dH.con:Con:=⟨194,aLq,sh2,false,fun (x0,x1,x2,x3,x4)=>dH (x0,x1,x2,x3) x4⟩
def eO.con:Con:=⟨190,aLq,sh2,false,fun (x0,x1,x2,x3,x4)=>eO (x0,x1,x2,x3) x4⟩
def rF.con:Con:=⟨347,bG0,sh1,false,fun (x0,x1,x2,x3,x4,x5)=>rF (x0,x1) (x2,x3,x4,x5)⟩
def tK.con:Con:=⟨348,sh2,sh2,false,fun x=>tK x⟩
def jE.con:Con:=⟨276,aVr,sh1,false,fun (x0,x1,x2)=>jE (x0,x1) x2⟩
def eL.con:Con:=⟨121,sh6,bJa,false,fun x=>eL x⟩
def fP.con:Con:=⟨277,sh6,aFp,false,fun x=>fP x⟩
def kW.con:Con:=⟨188,aVr,sh1,false,fun (x0,x1,x2)=>kW (x0,x1) x2⟩
def tZ.con:Con:=⟨300,sh5,sh2,false,fun (x0,x1)=>tZ x0 x1⟩
def gN.con:Con:=⟨215,aLq,sh2,false,fun (x0,x1,x2,x3,x4)=>gN (x0,x1,x2,x3) x4⟩
def vL.con:Con:=⟨416,aLq,sh2,false,fun (x0,x1,x2,x3,x4)=>vL (x0,x1,x2,x3) x4⟩
def mS.con:Con:=⟨412,bG0,sh1,false,fun (x0,x1,x2,x3,x4,x5)=>mS (x0,x1) (x2,x3,x4,x5)⟩
def oW.con:Con:=⟨395,aVr,sh1,false,fun (x0,x1,x2)=>oW (x0,x1) x2⟩
def lA.con:Con:=⟨350,⟨[e32,e1],[]⟩,sh1,false,fun (x0,x1,x2,x3,x4,x5)=>lA (x0,x1,x2,x3,x4) x5⟩
def pA.con:Con:=⟨364,⟨[e5,e27,e4],[]⟩,sh1,false,fun (x0,x1,x2,x3)=>pA (x0,x1) x2 x3⟩
def jF.con:Con:=⟨413,bOy,sh1,false,fun (x0,x1,x2,x3,x4,x5,x6,x7)=>jF (x0,x1,x2,x3) (x4,x5,x6,x7)⟩
def iF.con:Con:=⟨396,bHj,sh1,false,fun (x0,x1)=>iF x0 x1⟩
def vI.con:Con:=⟨365,⟨[e53,e27],[]⟩,sh1,false,fun (x0,x1)=>vI x0 x1⟩
def jN.con:Con:=⟨320,⟨[e5,(1,ag9),e4,e6,e10],[]⟩,aV1,false,fun (x0,x1,x2,x3,x4,x5,x6)=>jN (x0,x1) (x2,x3) x4 x5 x6⟩
def kV.con:Con:=⟨406,sh6,sh2,false,fun x=>kV x⟩
def jI.con:Con:=⟨407,sh6,sh2,false,fun x=>jI x⟩
def mN.con:Con:=⟨408,sh6,sh2,false,fun x=>mN x⟩
def pF.con:Con:=⟨390,bHj,sh1,false,fun (x0,x1)=>pF x0 x1⟩
def rN.con:Con:=⟨362,aV1,aV1,false,fun x=>rN x⟩
def fW.con:Con:=⟨405,⟨[e47,e1],[]⟩,bH4,false,fun (x0,x1)=>fW x0 x1⟩
def pH.con:Con:=⟨294,⟨[e15,e57],[]⟩,sh1,false,fun (x0,x1,x2,x3)=>pH x0 (x1,x2,x3)⟩
def tE.con:Con:=⟨389,⟨[e47,e27,e4],[]⟩,sh1,false,fun (x0,x1,x2)=>tE x0 x1 x2⟩
def iQ.con:Con:=⟨361,⟨[e47,(1,aZd),e4],[]⟩,aPc,false,fun (x0,x1,x2)=>iQ x0 x1 x2⟩
def wR.con:Con:=⟨60,sh5,sh2,false,fun (x0,x1)=>wR x0 x1⟩
def oH.con:Con:=⟨319,⟨[e26,(1,aZd),e4],[]⟩,⟨[(0,.agg [.var ti,.var ti,.var ti,.var ti,.row 0,.var (.sl tPt),.var ti,.var ti,.row 1])],[o8,(1,aC4)]⟩,false,fun (x0,x1,x2,x3,x4,x5,x6,x7,x8,x9,x10)=>oH (x0,x1,x2,x3,x4,x5,x6,x7,x8) x9 x10⟩
def qS.con:Con:=⟨168,sh5,aU5,false,fun (x0,x1)=>qS x0 x1⟩
def vD.con:Con:=⟨234,⟨[e46,(1,ag8)],[]⟩,⟨[e52,e30],[o14,o15,o33,o34,o35,o36,o16,o37,(8,ow1),o38]⟩,false,fun (x0,x1,x2,x3,x4,x5,x6,x7,x8,x9,x10,x11,x12,x13,x14,x15,x16,x17,x18,x19,x20,x21)=>vD ((x0,x1),(x2,x3),(x4,x5,x6),x7,x8,x9,x10,x11,x12) (x13,x14,x15,x16,x17,x18,x19,x20,x21)⟩
def nN.con:Con:=⟨321,sh6,bJa,false,fun x=>nN x⟩
def pG.con:Con:=⟨366,⟨[e33,(1,ag5)],[]⟩,bJ1,false,fun (x0,x1,x2,x3,x4,x5)=>pG x0 (x1,x2,x3,x4,x5)⟩
def hH.con:Con:=⟨367,bCi,sh1,false,fun (x0,x1,x2,x3,x4)=>hH (x0,x1,x2,x3,x4)⟩
def wH.con:Con:=⟨290,⟨[e32,e1,e4,e6],[]⟩,sh1,false,fun (x0,x1,x2,x3,x4,x5,x6,x7)=>wH (x0,x1,x2,x3,x4) x5 x6 x7⟩
def iL.con:Con:=⟨292,bO6,sh2,false,fun (x0,x1,x2,x3)=>iL x0 x1 x2 x3⟩
def wD.con:Con:=⟨322,⟨[e33,(1,ag5),e4,e6],[]⟩,⟨[e8,e30],[o10]⟩,false,fun (x0,x1,x2,x3,x4,x5,x6,x7)=>wD x0 (x1,x2,x3,x4,x5) x6 x7⟩
def dC.con:Con:=⟨235,⟨[e33,e1,(2,ag3),e6,e10,e7,e13],[]⟩,⟨[e8,e30],[o10]⟩,false,fun (x0,x1,x2,x3,x4,x5,x6)=>dC x0 x1 x2 x3 x4 x5 x6⟩
def xJ.con:Con:=⟨151,sh8,⟨[e52],[o14,o15,o33,o34,o35,o36,o16,o37,(8,ow1),o38,o1]⟩,false,fun (x0,x1,x2)=>xJ (x0,x1,x2)⟩
def rQ.con:Con:=⟨169,sh8,⟨[e5,(1,bP8)],[o6,o1]⟩,false,fun (x0,x1,x2)=>rQ (x0,x1,x2)⟩
def qX.con:Con:=⟨132,sh6,sh5,false,fun x=>qX x⟩
def cH.con:Con:=⟨61,bQm,aFn,false,fun (x0,x1,x2,x3,x4)=>cH x0 x1 x2 x3 x4⟩
def rD.con:Con:=⟨87,sh8,⟨[e5,(1,ag7)],[o6,o7,o1]⟩,false,fun (x0,x1,x2)=>rD (x0,x1,x2)⟩
def lP.con:Con:=⟨88,sh8,aVi,false,fun (x0,x1,x2)=>lP (x0,x1,x2)⟩
def xE.con:Con:=⟨90,sh8,⟨[(0,.agg [.any,.any]),e27],[o1]⟩,false,fun (x0,x1,x2)=>xE (x0,x1,x2)⟩
def qE.con:Con:=⟨39,sh8,⟨[e5,(1,bHe)],[o17,o1]⟩,false,fun (x0,x1,x2)=>qE (x0,x1,x2)⟩
def rK.con:Con:=⟨346,aMe,sh1,false,fun (x0,x1,x2)=>rK (x0,x1,x2)⟩
def kL.con:Con:=⟨274,sh6,sh1,false,fun x=>kL x⟩
def iJ.con:Con:=⟨187,sh9,sh1,false,fun (x0,x1,x2,x3,x4,x5,x6,x7,x8,x9)=>iJ (x0,x1,x2,x3,x4,x5,x6,x7,x8,x9)⟩
def mJ.con:Con:=⟨368,⟨[e46,e1,e4],[]⟩,sh1,false,fun (x0,x1,x2,x3,x4,x5,x6,x7,x8,x9,x10,x11,x12,x13,x14)=>mJ ((x0,x1),(x2,x3),(x4,x5,x6),x7,x8,x9,x10,x11,x12) x13 x14⟩
def sF.con:Con:=⟨343,bRs,sh1,false,fun (x0,x1)=>sF x0 x1⟩
def jY.con:Con:=⟨369,⟨[e16,e25],[]⟩,sh1,false,fun (x0,x1,x2,x3,x4,x5,x6,x7,x8,x9,x10,x11,x12,x13,x14,x15,x16,x17,x18,x19)=>jY (x0,x1,x2,x3,x4,x5,x6,x7,x8,x9) (x10,x11,x12,x13,x14,x15,x16,x17,x18,x19)⟩
def oD.con:Con:=⟨323,⟨[e46,(1,bRv)],[]⟩,sh1,false,fun (x0,x1,x2,x3,x4,x5,x6,x7,x8,x9,x10,x11,x12,x13,x14,x15,x16,x17,x18,x19,x20,x21,x22,x23,x24,x25,x26,x27)=>oD ((x0,x1),(x2,x3),(x4,x5,x6),x7,x8,x9,x10,x11,x12) (x13,x14,x15,(x16,x17,(x18,x19,x20,x21,x22,x23,x24,x25,x26,x27)))⟩
def fF.con:Con:=⟨370,⟨[e33,e1],[]⟩,bJ1,false,fun (x0,x1)=>fF x0 x1⟩
def uE.con:Con:=⟨324,⟨[e36,e1],[]⟩,aTr,false,fun (x0,x1,x2,x3)=>uE (x0,x1,x2) x3⟩
def eH.con:Con:=⟨371,aMb,aUi,false,fun (x0,x1,x2,x3,x4,x5,x6,x7,x8)=>eH (x0,x1,x2,x3,x4,x5,x6,x7,x8)⟩
def rG.con:Con:=⟨295,aMb,aLw,false,fun (x0,x1,x2,x3,x4,x5,x6,x7,x8)=>rG (x0,x1,x2,x3,x4,x5,x6,x7,x8)⟩
def tI.con:Con:=⟨325,aMb,⟨[e39,(1,.agg [.var ti,.var ti,.var ti,.row 3,.var ti,.var ti,.var ti,.var ti,.var ti,.row 4]),e14],[o8,o21,o27,(3,ow2),(4,ow4)]⟩,false,fun (x0,x1,x2,x3,x4,x5,x6,x7,x8)=>tI (x0,x1,x2,x3,x4,x5,x6,x7,x8)⟩
def nH.con:Con:=⟨49,aO2,aEl,false,fun (x0,x1,x2,x3,x4,x5,x6,x7,x8,x9,x10,x11,x12,x13,x14,x15,x16,x17,x18,x19,x20,x21,x22,x23,x24)=>nH ((x12,x13),(x14,x15),(x16,x17,x18),x19,x20,x22,x23,x24,x21) x0 x1 (x2,x3,x4,x5,x6,x7,x8,x9,x10,x11)⟩
def oQ.con:Con:=⟨283,sh2,sh1,false,fun x=>oQ x⟩
def wG.con:Con:=⟨284,sh2,sh1,false,fun x=>wG x⟩
def pI.con:Con:=⟨200,sh5,sh2,false,fun (x0,x1)=>pI x0 x1⟩
def eI.con:Con:=⟨116,⟨[e5,e45,e4],[]⟩,sh2,false,fun (x0,x1,x2,x3)=>eI (x0,x1) x2 x3⟩
def cF.con:Con:=⟨53,sh9,sh2,false,fun (x0,x1,x2,x3,x4,x5,x6,x7,x8,x9)=>cF (x0,x1,x2,x3,x4,x5,x6,x7,x8,x9)⟩
def rW.con:Con:=⟨189,⟨[e2,e25],[]⟩,bP3,false,fun (x0,x1,x2,x3,x4,x5,x6,x7,x8,x9,x10)=>rW x0 (x1,x2,x3,x4,x5,x6,x7,x8,x9,x10)⟩
def gY.con:Con:=⟨279,⟨[e5,e25],[]⟩,aUi,false,fun (x0,x1,x2,x3,x4,x5,x6,x7,x8,x9,x10,x11)=>gY (x0,x1) (x2,x3,x4,x5,x6,x7,x8,x9,x10,x11)⟩
def iN.con:Con:=⟨280,bHw,sh1,false,fun (x0,x1,x2,x3,x4,x5,x6,x7,x8,x9,x10)=>iN (x0,x1,x2,x3,x4,x5,x6,x7,x8,x9) x10⟩
def mV.con:Con:=⟨191,bO4,⟨[e23,e1],[o6,o7]⟩,false,fun (x0,x1,x2,x3,x4,x5,x6,x7,x8,x9,x10,x11,x12)=>mV (x0,x1) x2 (x3,x4,x5,x6,x7,x8,x9,x10,x11,x12)⟩
def lE.con:Con:=⟨193,sh9,sh1,false,fun (x0,x1,x2,x3,x4,x5,x6,x7,x8,x9)=>lE (x0,x1,x2,x3,x4,x5,x6,x7,x8,x9)⟩
def gK.con:Con:=⟨192,sh9,aFn,false,fun (x0,x1,x2,x3,x4,x5,x6,x7,x8,x9)=>gK (x0,x1,x2,x3,x4,x5,x6,x7,x8,x9)⟩
def jM.con:Con:=⟨281,sh5,sh1,false,fun (x0,x1)=>jM x0 x1⟩
def nE.con:Con:=⟨195,⟨[e5,e57],[]⟩,sh1,false,fun (x0,x1,x2,x3,x4)=>nE (x0,x1) (x2,x3,x4)⟩
def sT.con:Con:=⟨196,sh5,sh1,false,fun (x0,x1)=>sT x0 x1⟩
def lR.con:Con:=⟨115,bJq,bP3,false,fun (x0,x1,x2,x3,x4,x5,x6,x7,x8,x9,x10,x11,x12,x13,x14,x15)=>lR (x0,x1) x2 x3 x4 x5 (x6,x7,x8,x9,x10,x11,x12,x13,x14,x15)⟩
def uD.con:Con:=⟨287,aOw,sh1,false,fun (x0,x1,x2,x3,x4,x5,x6,x7,x8,x9,x10,x11,x12,x13)=>uD (x0,x1,x2,x3) (x4,x5,x6,x7,x8,x9,x10,x11,x12,x13)⟩
def mT.con:Con:=⟨202,aOw,aU5,false,fun (x0,x1,x2,x3,x4,x5,x6,x7,x8,x9,x10,x11,x12,x13)=>mT (x0,x1,x2,x3) (x4,x5,x6,x7,x8,x9,x10,x11,x12,x13)⟩
def lJ.con:Con:=⟨214,sh2,sh2,false,fun x=>lJ x⟩
def nL.con:Con:=⟨134,bAh,bAt,false,fun (x0,x1,x2,x3)=>nL (x0,x1,x2,x3)⟩
def jT.con:Con:=⟨62,sh6,aL5,false,fun x=>jT x⟩
def aAm.con:Con:=⟨288,bO8,aFn,false,fun (x0,x1,x2,x3,x4,x5,x6,x7,x8,x9,x10,x11,x12)=>aAm (x0,x1,x2,x3,x4,x5,x6,x7,x8,x9) x10 x11 x12⟩
def sR.con:Con:=⟨203,aOw,aUi,false,fun (x0,x1,x2,x3,x4,x5,x6,x7,x8,x9,x10,x11,x12,x13)=>sR (x0,x1,x2,x3) (x4,x5,x6,x7,x8,x9,x10,x11,x12,x13)⟩
def oS.con:Con:=⟨204,⟨[e26,e25],[]⟩,aLw,false,fun (x0,x1,x2,x3,x4,x5,x6,x7,x8,x9,x10,x11,x12,x13,x14,x15,x16,x17,x18)=>oS (x0,x1,x2,x3,x4,x5,x6,x7,x8) (x9,x10,x11,x12,x13,x14,x15,x16,x17,x18)⟩
def pR.con:Con:=⟨385,aTt,⟨[e2,e1,e14],[]⟩,false,fun (x0,x1)=>pR x0 x1⟩
def pT.con:Con:=⟨351,⟨[e12,e1,e4],[]⟩,bRl,false,fun (x0,x1,x2)=>pT x0 x1 x2⟩
def hU.con:Con:=⟨293,aBc,⟨[e56,e30],[]⟩,false,fun x=>hU x⟩
def kQ.con:Con:=⟨296,⟨[e47,e57],[]⟩,⟨[e47],[]⟩,false,fun (x0,x1,x2,x3)=>kQ x0 (x1,x2,x3)⟩
def gZ.con:Con:=⟨209,⟨[e26,e25,e4],[]⟩,⟨[(0,.agg [.var ti,.var ti,.var ti,.var ti,.row 0,.row 1,.var ti,.var ti,.var (.sl tRv)])],[o8,o21]⟩,false,fun (x0,x1,x2,x3,x4,x5,x6,x7,x8,x9,x10,x11,x12,x13,x14,x15,x16,x17,x18,x19)=>gZ (x0,x1,x2,x3,x4,x5,x6,x7,x8) (x9,x10,x11,x12,x13,x14,x15,x16,x17,x18) x19⟩
def lS.con:Con:=⟨122,bAn,aEl,false,fun (x0,x1,x2,x3,x4,x5,x6,x7,x8,x9,x10,x11,x12,x13,x14,x15,x16,x17,x18,x19,x20,x21,x22,x23)=>lS ((x11,x12),(x13,x14),(x15,x16,x17),x18,x19,x21,x22,x23,x20) x0 (x1,x2,x3,x4,x5,x6,x7,x8,x9,x10)⟩
def rO.con:Con:=⟨117,bAn,aEl,false,fun (x0,x1,x2,x3,x4,x5,x6,x7,x8,x9,x10,x11,x12,x13,x14,x15,x16,x17,x18,x19,x20,x21,x22,x23)=>rO ((x11,x12),(x13,x14),(x15,x16,x17),x18,x19,x21,x22,x23,x20) x0 (x1,x2,x3,x4,x5,x6,x7,x8,x9,x10)⟩
def oR.con:Con:=⟨289,⟨[(0,.one (.var (.sl tUs))),e1,e4,e6],[]⟩,sh2,false,fun (x0,x1,x2,x3)=>oR x0 x1 x2 x3⟩
def oL.con:Con:=⟨205,bB6,sh2,false,fun (x0,x1,x2,x3,x4,x5)=>oL (x0,x1,x2) x3 x4 x5⟩
def iM.con:Con:=⟨206,aZq,sh2,false,fun (x0,x1,x2,x3,x4)=>iM x0 x1 x2 x3 x4⟩
def tJ.con:Con:=⟨207,bB6,aTr,false,fun (x0,x1,x2,x3,x4,x5)=>tJ (x0,x1,x2) x3 x4 x5⟩
def tL.con:Con:=⟨208,aZq,sh2,false,fun (x0,x1,x2,x3,x4)=>tL x0 x1 x2 x3 x4⟩
def kA.con:Con:=⟨119,bH1,bQo,false,fun (x0,x1,x2,x3,x4,x5,x6)=>kA (x0,x1,x2) x3 x4 x5 x6⟩
def rM.con:Con:=⟨120,sh9,sh2,false,fun (x0,x1,x2,x3,x4,x5,x6,x7,x8,x9)=>rM (x0,x1,x2,x3,x4,x5,x6,x7,x8,x9)⟩
def eM.con:Con:=⟨16,sh9,⟨[e41],[(0,aTi)]⟩,false,fun (x0,x1,x2,x3,x4,x5,x6,x7,x8,x9)=>eM (x0,x1,x2,x3,x4,x5,x6,x7,x8,x9)⟩
def lT.con:Con:=⟨216,aTt,aVo,false,fun (x0,x1)=>lT x0 x1⟩
def pD.con:Con:=⟨136,aMh,aVo,false,fun x=>pD x⟩
def gU.con:Con:=⟨63,bAs,aVo,false,fun (x0,x1,x2)=>gU (x0,x1,x2)⟩
def dY.con:Con:=⟨19,bQ6,aFn,false,fun (x0,x1,x2,x3,x4,x5,x6,x7,x8,x9,x10,x11,x12,x13,x14)=>dY (x0,x1) x2 x3 x4 (x5,x6,x7,x8,x9,x10,x11,x12,x13,x14)⟩
def gD.con:Con:=⟨49,aO2,aEl,false,fun (x0,x1,x2,x3,x4,x5,x6,x7,x8,x9,x10,x11,x12,x13,x14,x15,x16,x17,x18,x19,x20,x21,x22,x23,x24)=>gD ((x12,x13),(x14,x15),(x16,x17,x18),x19,x20,x22,x23,x24,x21) x0 x1 (x2,x3,x4,x5,x6,x7,x8,x9,x10,x11)⟩
def iO.con:Con:=⟨117,bAn,aEl,false,fun (x0,x1,x2,x3,x4,x5,x6,x7,x8,x9,x10,x11,x12,x13,x14,x15,x16,x17,x18,x19,x20,x21,x22,x23)=>iO ((x11,x12),(x13,x14),(x15,x16,x17),x18,x19,x21,x22,x23,x20) x0 (x1,x2,x3,x4,x5,x6,x7,x8,x9,x10)⟩
def cY.con:Con:=⟨49,aO2,aEl,false,fun (x0,x1,x2,x3,x4,x5,x6,x7,x8,x9,x10,x11,x12,x13,x14,x15,x16,x17,x18,x19,x20,x21,x22,x23,x24)=>cY ((x12,x13),(x14,x15),(x16,x17,x18),x19,x20,x22,x23,x24,x21) x0 x1 (x2,x3,x4,x5,x6,x7,x8,x9,x10,x11)⟩
def sU.con:Con:=⟨237,⟨[e9],[o5,o3,o2,o4]⟩,bBz,false,fun (x0,x1,x2,x3,x4,x5,x6,x7,x8,x9,x10,x11,x12)=>sU ((x0,x1),(x2,x3),(x4,x5,x6),x7,x8,x10,x11,x12,x9)⟩
def tN.con:Con:=⟨238,⟨[e9,e1],[o5,o3,o2,o4]⟩,⟨[(0,bB1)],[o3,o2,o4,o5]⟩,false,fun (x0,x1,x2,x3,x4,x5,x6,x7,x8,x9,x10,x11,x12,x13)=>tN ((x1,x2),(x3,x4),(x5,x6,x7),x8,x9,x11,x12,x13,x10) x0⟩
def vC.con:Con:=⟨239,⟨[e9,e1,e14],[o5,o3,o2,o4]⟩,bBz,false,fun (x0,x1,x2,x3,x4,x5,x6,x7,x8,x9,x10,x11,x12,x13,x14)=>vC ((x2,x3),(x4,x5),(x6,x7,x8),x9,x10,x12,x13,x14,x11) x0 x1⟩
def wX.con:Con:=⟨241,bQb,bBz,false,fun (x0,x1,x2,x3,x4,x5,x6,x7,x8,x9,x10,x11,x12,x13,x14,x15,x16,x17,x18,x19,x20,x21,x22,x23,x24,x25,x26,x27)=>wX ((x15,x16),(x17,x18),(x19,x20,x21),x22,x23,x25,x26,x27,x24) (x0,x1,x2,(x3,x4,(x5,x6,x7,x8,x9,x10,x11,x12,x13,x14)))⟩
def aAd.con:Con:=⟨153,bQb,bBz,false,fun (x0,x1,x2,x3,x4,x5,x6,x7,x8,x9,x10,x11,x12,x13,x14,x15,x16,x17,x18,x19,x20,x21,x22,x23,x24,x25,x26,x27)=>aAd ((x15,x16),(x17,x18),(x19,x20,x21),x22,x23,x25,x26,x27,x24) (x0,x1,x2,(x3,x4,(x5,x6,x7,x8,x9,x10,x11,x12,x13,x14)))⟩
def mR.con:Con:=⟨236,bPk,⟨[(0,.agg [.var ti,.var ti,.row 1,.var ti,.var ti,.var ti,.var ti,.var ti,.var (.sl tPp),.var ti,.var ti,.var ti,.var ti,.var ti,.row 0])],[o17,o7,o1,o43,o44,o45]⟩,false,fun (x0,x1,x2,x3,x4,x5,x6,x7,x8,x9,x10,x11,x12,x13,x14,x15)=>mR (x10,x11,x12) ((x0,x1),(x2,x3),(x4,x5,x6),x7,x8,x13,x14,x15,x9)⟩
def rR.con:Con:=⟨152,bPk,⟨[(0,.agg [.var ti,.var ti,.row 0,.var ti,.var ti,.var ti,.var ti,.var ti,.var (.sl tPp),.var ti,.var ti,.var ti,.var ti,.var ti,.row 1])],[o17,o7,o1,o43,o44,o45]⟩,false,fun (x0,x1,x2,x3,x4,x5,x6,x7,x8,x9,x10,x11,x12,x13,x14,x15)=>rR (x10,x11,x12) ((x0,x1),(x2,x3),(x4,x5,x6),x7,x8,x13,x14,x15,x9)⟩
def wY.con:Con:=⟨71,aP6,⟨[e52,(1,.one (.var (.sl jL))),(2,.agg [.var (.sl tAS),.var (.sl tLk),.var (.sl tSg),.var (.sl tSg),.var ti,.var (.sl tRs),.var (.sl tUs),.var ti,.var (.sl ti),.row 10,.row 11,.row 12,.var ti])],[o14,o15,o33,o34,o35,o36,o16,o37,(8,ow1),o38,(10,ow5),(11,ow1),(12,ow7),o1]⟩,false,fun (x0,x1,x2,x3)=>wY (x1,x2,x3) x0⟩
def tT.con:Con:=⟨81,aP6,bQt,false,fun (x0,x1,x2,x3)=>tT (x1,x2,x3) x0⟩
def aAj.con:Con:=⟨166,sh8,bQ8,false,fun (x0,x1,x2)=>aAj (x0,x1,x2)⟩
def mE.con:Con:=⟨43,sh8,aVi,false,fun (x0,x1,x2)=>mE (x0,x1,x2)⟩
def oB.con:Con:=⟨344,sh8,⟨[e32],[o1]⟩,false,fun (x0,x1,x2)=>oB (x0,x1,x2)⟩
def vK.con:Con:=⟨260,sh8,bQ0,false,fun (x0,x1,x2)=>vK (x0,x1,x2)⟩
def wZ.con:Con:=⟨261,sh8,⟨[e32],[o1]⟩,false,fun (x0,x1,x2)=>wZ (x0,x1,x2)⟩
def xO.con:Con:=⟨167,sh8,bQ0,false,fun (x0,x1,x2)=>xO (x0,x1,x2)⟩
def vV.con:Con:=⟨85,aP6,bQt,false,fun (x0,x1,x2,x3)=>vV (x1,x2,x3) x0⟩
def xB.con:Con:=⟨36,aTt,⟨[(0,bJ6),(1,.agg [.var (.sl tAS),.var (.sl tLk),.var (.sl tSg),.var (.sl tSg),.var ti,.var (.sl tRs),.var (.sl tUs),.var ti,.var (.sl ti),.row 1,.row 2,.row 3,.var ti])],[(0,ob1),(1,ow5),(2,ow1),(3,ow7)]⟩,false,fun (x0,x1)=>xB x0 x1⟩
def fX.con:Con:=⟨8,aBc,⟨[(0,bJ5),e1,e4,e43],[o3,o2,o4]⟩,false,fun x=>fX x⟩
def lW.con:Con:=⟨91,⟨[e5],[]⟩,⟨[e55],[o14,o15]⟩,false,fun (x0,x1)=>lW (x0,x1)⟩
def oT.con:Con:=⟨125,bIj,⟨[e8],[o20]⟩,false,fun x=>oT x⟩
def nJ.con:Con:=⟨266,aMe,bGs,false,fun (x0,x1,x2)=>nJ (x0,x1,x2)⟩
def kF.con:Con:=⟨171,⟨[(0,aUm)],[]⟩,bA8,false,fun x=>kF x⟩
def nW.con:Con:=⟨92,⟨[e51],[]⟩,bQ4,false,fun (x0,x1)=>nW (x0,x1)⟩
def eG.con:Con:=⟨172,⟨[e33],[]⟩,bJ1,false,fun x=>eG x⟩
def eP.con:Con:=⟨93,⟨[e36],[]⟩,aTr,false,fun (x0,x1,x2)=>eP (x0,x1,x2)⟩
def oK.con:Con:=⟨94,aMh,aFp,false,fun x=>oK x⟩
def iZ.con:Con:=⟨52,sh6,aL5,false,fun x=>iZ x⟩
def eW.con:Con:=⟨127,aBc,aVo,false,fun x=>eW x⟩
def dO.con:Con:=⟨95,sh9,aFn,false,fun (x0,x1,x2,x3,x4,x5,x6,x7,x8,x9)=>dO (x0,x1,x2,x3,x4,x5,x6,x7,x8,x9)⟩
def iK.con:Con:=⟨173,⟨[(0,bBr)],[]⟩,⟨[e8],[o8]⟩,false,fun x=>iK x⟩
def qZ.con:Con:=⟨174,aV1,aPc,false,fun x=>qZ x⟩
def dZ.con:Con:=⟨175,⟨[e47],[]⟩,bH4,false,fun x=>dZ x⟩
def lG.con:Con:=⟨96,aMb,aLw,false,fun (x0,x1,x2,x3,x4,x5,x6,x7,x8)=>lG (x0,x1,x2,x3,x4,x5,x6,x7,x8)⟩
def mD.con:Con:=⟨97,⟨[e42],[]⟩,aU5,false,fun (x0,x1,x2,x3)=>mD (x0,x1,x2,x3)⟩
def jP.con:Con:=⟨40,⟨[e46],[]⟩,bBf,false,fun (x0,x1,x2,x3,x4,x5,x6,x7,x8,x9,x10,x11,x12)=>jP ((x0,x1),(x2,x3),(x4,x5,x6),x7,x8,x9,x10,x11,x12)⟩
def kS.con:Con:=⟨41,aO2,aEl,false,fun (x0,x1,x2,x3,x4,x5,x6,x7,x8,x9,x10,x11,x12,x13,x14,x15,x16,x17,x18,x19,x20,x21,x22,x23,x24)=>kS ((x12,x13),(x14,x15),(x16,x17,x18),x19,x20,x22,x23,x24,x21) x0 x1 (x2,x3,x4,x5,x6,x7,x8,x9,x10,x11)⟩
def oN.con:Con:=⟨148,bJn,aMh,false,fun (x0,x1)=>oN x0 x1⟩
def pS.con:Con:=⟨65,bB2,aMh,false,fun (x0,x1,x2)=>pS (x0,x1) x2⟩
def kR.con:Con:=⟨149,bHp,sh1,false,fun (x0,x1,x2,x3,x4,x5,x6)=>kR (x0,x1,x2,x3,x4) x5 x6⟩
def jR.con:Con:=⟨67,aMm,sh2,false,fun (x0,x1,x2,x3)=>jR (x0,x1) x2 x3⟩
def qI.con:Con:=⟨66,bJn,sh1,false,fun (x0,x1)=>qI x0 x1⟩
def cW.con:Con:=⟨75,bHm,sh1,false,fun (x0,x1,x2)=>cW x0 x1 x2⟩
def oF.con:Con:=⟨150,sh2,sh1,false,fun x=>oF x⟩
def pO.con:Con:=⟨68,sh5,sh2,false,fun (x0,x1)=>pO x0 x1⟩
def cT.con:Con:=⟨21,⟨[e5,e45,e4],[]⟩,sh2,false,fun (x0,x1,x2,x3)=>cT (x0,x1) x2 x3⟩
def kE.con:Con:=⟨137,⟨[e2,(1,.one (.ptr 1000001 0))],[(1000001,ob6)]⟩,⟨[(0,bRj)],[o6,o7,(1000001,ob6)]⟩,false,fun (x0,x1,x2,x3,x4,x5,x6,x7,x8,x9,x10)=>kE x0 (x1,x2,x3,x4,x5,x6,x7,x8,x9,x10)⟩
def dG.con:Con:=⟨218,sh2,sh1,false,fun x=>dG x⟩
def lO.con:Con:=⟨352,bCi,sh1,false,fun (x0,x1,x2,x3,x4)=>lO (x0,x1,x2,x3,x4)⟩
def kK.con:Con:=⟨302,bIj,sh1,false,fun x=>kK x⟩
def kP.con:Con:=⟨217,sh6,sh1,false,fun x=>kP x⟩
def uG.con:Con:=⟨124,sh9,sh1,false,fun (x0,x1,x2,x3,x4,x5,x6,x7,x8,x9)=>uG (x0,x1,x2,x3,x4,x5,x6,x7,x8,x9)⟩
def dX.con:Con:=⟨51,sh9,sh2,false,fun (x0,x1,x2,x3,x4,x5,x6,x7,x8,x9)=>dX (x0,x1,x2,x3,x4,x5,x6,x7,x8,x9)⟩
def nI.con:Con:=⟨138,sh9,sh1,false,fun (x0,x1,x2,x3,x4,x5,x6,x7,x8,x9)=>nI (x0,x1,x2,x3,x4,x5,x6,x7,x8,x9)⟩
def yU.con:Con:=⟨77,bB2,sh1,false,fun (x0,x1,x2)=>yU (x0,x1) x2⟩
def xA.con:Con:=⟨353,⟨[e5,(1,aZp)],[]⟩,sh1,false,fun (x0,x1,x2)=>xA (x0,x1) x2⟩
def fJ.con:Con:=⟨221,sh2,sh1,false,fun x=>fJ x⟩
def fG.con:Con:=⟨145,aLq,sh2,false,fun (x0,x1,x2,x3,x4)=>fG (x0,x1,x2,x3) x4⟩
def jU.con:Con:=⟨22,aMm,sh5,false,fun (x0,x1,x2,x3)=>jU (x0,x1) x2 x3⟩
def fA.con:Con:=⟨140,aLq,sh2,false,fun (x0,x1,x2,x3,x4)=>fA (x0,x1,x2,x3) x4⟩
def rH.con:Con:=⟨303,bG0,sh1,false,fun (x0,x1,x2,x3,x4,x5)=>rH (x0,x1) (x2,x3,x4,x5)⟩
def tP.con:Con:=⟨304,sh2,sh2,false,fun x=>tP x⟩
def jK.con:Con:=⟨219,aVr,sh1,false,fun (x0,x1,x2)=>jK (x0,x1) x2⟩
def jV.con:Con:=⟨181,sh6,bJa,false,fun x=>jV x⟩
def vP.con:Con:=⟨305,⟨[(0,.one (.var (.sl wS)))],[]⟩,aFp,false,fun x=>vP x⟩
def fL.con:Con:=⟨220,sh6,aFp,false,fun x=>fL x⟩
def pK.con:Con:=⟨139,aVr,sh1,false,fun (x0,x1,x2)=>pK (x0,x1) x2⟩
def uC.con:Con:=⟨298,sh5,sh2,false,fun (x0,x1)=>uC x0 x1⟩
def uH.con:Con:=⟨297,sh5,sh2,false,fun (x0,x1)=>uH x0 x1⟩
def aE8.con:Con:=⟨414,sh5,sh2,false,fun (x0,x1)=>aE8 x0 x1⟩
def xC.con:Con:=⟨398,aMh,sh2,false,fun x=>xC x⟩
def rX.con:Con:=⟨386,bI3,sh2,false,fun (x0,x1)=>rX x0 x1⟩
def xP.con:Con:=⟨354,bJc,sh2,false,fun (x0,x1,x2,x3,x4,x5,x6,x7)=>xP x0 x1 x2 (x3,x4,x5,x6,x7)⟩
def rP.con:Con:=⟨306,bOs,sh1,false,fun (x0,x1,x2,x3,x4,x5,x6,x7,x8)=>rP (x0,x1) x2 x3 (x4,x5,x6,x7,x8)⟩
def iB.con:Con:=⟨222,⟨[e5,e25],[]⟩,aUi,false,fun (x0,x1,x2,x3,x4,x5,x6,x7,x8,x9,x10,x11)=>iB (x0,x1) (x2,x3,x4,x5,x6,x7,x8,x9,x10,x11)⟩
def sA.con:Con:=⟨307,⟨[e32,e1],[]⟩,sh1,false,fun (x0,x1,x2,x3,x4,x5)=>sA (x0,x1,x2,x3,x4) x5⟩
def gA.con:Con:=⟨223,bHw,sh1,false,fun (x0,x1,x2,x3,x4,x5,x6,x7,x8,x9,x10)=>gA (x0,x1,x2,x3,x4,x5,x6,x7,x8,x9) x10⟩
def jX.con:Con:=⟨141,bO4,bHw,false,fun (x0,x1,x2,x3,x4,x5,x6,x7,x8,x9,x10,x11,x12)=>jX (x0,x1) x2 (x3,x4,x5,x6,x7,x8,x9,x10,x11,x12)⟩
def gH.con:Con:=⟨142,sh9,sh1,false,fun (x0,x1,x2,x3,x4,x5,x6,x7,x8,x9)=>gH (x0,x1,x2,x3,x4,x5,x6,x7,x8,x9)⟩
def jQ.con:Con:=⟨143,sh9,sh1,false,fun (x0,x1,x2,x3,x4,x5,x6,x7,x8,x9)=>jQ (x0,x1,x2,x3,x4,x5,x6,x7,x8,x9)⟩
def lC.con:Con:=⟨144,sh9,aFn,false,fun (x0,x1,x2,x3,x4,x5,x6,x7,x8,x9)=>lC (x0,x1,x2,x3,x4,x5,x6,x7,x8,x9)⟩
def iU.con:Con:=⟨225,aMm,sh2,false,fun (x0,x1,x2,x3)=>iU (x0,x1) x2 x3⟩
def jG.con:Con:=⟨224,sh5,sh1,false,fun (x0,x1)=>jG x0 x1⟩
def nD.con:Con:=⟨146,⟨[e5,e57],[]⟩,sh1,false,fun (x0,x1,x2,x3,x4)=>nD (x0,x1) (x2,x3,x4)⟩
def sQ.con:Con:=⟨147,sh5,sh1,false,fun (x0,x1)=>sQ x0 x1⟩
def qF.con:Con:=⟨64,bJq,⟨[(0,bB1),e1],[]⟩,false,fun (x0,x1,x2,x3,x4,x5,x6,x7,x8,x9,x10,x11,x12,x13,x14,x15)=>qF (x0,x1) x2 x3 x4 x5 (x6,x7,x8,x9,x10,x11,x12,x13,x14,x15)⟩
def rC.con:Con:=⟨162,bB6,sh2,false,fun (x0,x1,x2,x3,x4,x5)=>rC (x0,x1,x2) x3 x4 x5⟩
def qY.con:Con:=⟨267,bB6,sh2,false,fun (x0,x1,x2,x3,x4,x5)=>qY (x0,x1,x2) x3 x4 x5⟩
def fM.con:Con:=⟨251,bHp,sh1,false,fun (x0,x1,x2,x3,x4,x5,x6)=>fM (x0,x1,x2,x3,x4) x5 x6⟩
def lV.con:Con:=⟨250,bO6,sh2,false,fun (x0,x1,x2,x3)=>lV x0 x1 x2 x3⟩
def aDc.con:Con:=⟨340,sh5,sh2,false,fun (x0,x1)=>aDc x0 x1⟩
def sP.con:Con:=⟨252,aZq,sh2,false,fun (x0,x1,x2,x3,x4)=>sP x0 x1 x2 x3 x4⟩
def iR.con:Con:=⟨253,aZq,sh2,false,fun (x0,x1,x2,x3,x4)=>iR x0 x1 x2 x3 x4⟩
def xD.con:Con:=⟨163,bH1,sh2,false,fun (x0,x1,x2,x3,x4,x5,x6)=>xD (x0,x1,x2) x3 x4 x5 x6⟩
def sX.con:Con:=⟨176,bH1,bQo,false,fun (x0,x1,x2,x3,x4,x5,x6)=>sX (x0,x1,x2) x3 x4 x5 x6⟩
def kB.con:Con:=⟨98,⟨[e9,e1,(2,bB1)],[o5,o3,o2,o4]⟩,aEl,false,fun (x0,x1,x2,x3,x4,x5,x6,x7,x8,x9,x10,x11,x12,x13,x14,x15,x16,x17,x18,x19,x20,x21,x22,x23,x24,x25)=>kB ((x13,x14),(x15,x16),(x17,x18,x19),x20,x21,x23,x24,x25,x22) x0 (x1,x2,(x3,x4,x5,x6,x7,x8,x9,x10,x11,x12))⟩
def oP.con:Con:=⟨99,bOp,sh2,false,fun (x0,x1,x2)=>oP x0 x1 x2⟩
def rB.con:Con:=⟨177,aOw,sh1,false,fun (x0,x1,x2,x3,x4,x5,x6,x7,x8,x9,x10,x11,x12,x13)=>rB (x0,x1,x2,x3) (x4,x5,x6,x7,x8,x9,x10,x11,x12,x13)⟩
def mF.con:Con:=⟨100,aOw,aU5,false,fun (x0,x1,x2,x3,x4,x5,x6,x7,x8,x9,x10,x11,x12,x13)=>mF (x0,x1,x2,x3) (x4,x5,x6,x7,x8,x9,x10,x11,x12,x13)⟩
def nF.con:Con:=⟨210,sh2,sh2,false,fun x=>nF x⟩
def rA.con:Con:=⟨211,aLq,sh2,false,fun (x0,x1,x2,x3,x4)=>rA (x0,x1,x2,x3) x4⟩
def lU.con:Con:=⟨212,bIj,⟨[e8],[o20]⟩,false,fun x=>lU x⟩
def nM.con:Con:=⟨129,bAh,bAt,false,fun (x0,x1,x2,x3)=>nM (x0,x1,x2,x3)⟩
def jS.con:Con:=⟨58,sh6,aL5,false,fun x=>jS x⟩
def rU.con:Con:=⟨128,sh6,sh5,false,fun x=>rU x⟩
def mC.con:Con:=⟨57,bQm,aFn,false,fun (x0,x1,x2,x3,x4)=>mC x0 x1 x2 x3 x4⟩
def aAf.con:Con:=⟨178,bO8,aFn,false,fun (x0,x1,x2,x3,x4,x5,x6,x7,x8,x9,x10,x11,x12)=>aAf (x0,x1,x2,x3,x4,x5,x6,x7,x8,x9) x10 x11 x12⟩
def sV.con:Con:=⟨101,aOw,aUi,false,fun (x0,x1,x2,x3,x4,x5,x6,x7,x8,x9,x10,x11,x12,x13)=>sV (x0,x1,x2,x3) (x4,x5,x6,x7,x8,x9,x10,x11,x12,x13)⟩
def rV.con:Con:=⟨179,⟨[e26,e25],[]⟩,aLw,false,fun (x0,x1,x2,x3,x4,x5,x6,x7,x8,x9,x10,x11,x12,x13,x14,x15,x16,x17,x18)=>rV (x0,x1,x2,x3,x4,x5,x6,x7,x8) (x9,x10,x11,x12,x13,x14,x15,x16,x17,x18)⟩
def pC.con:Con:=⟨382,aTt,⟨[e2,e1,e14],[]⟩,false,fun (x0,x1)=>pC x0 x1⟩
def pN.con:Con:=⟨345,⟨[e12,e1,e4],[]⟩,bRl,false,fun (x0,x1,x2)=>pN x0 x1 x2⟩
def cR.con:Con:=⟨130,bAs,sh1,false,fun (x0,x1,x2)=>cR (x0,x1,x2)⟩
def hP.con:Con:=⟨268,aBc,⟨[e56,e30],[]⟩,false,fun x=>hP x⟩
def tS.con:Con:=⟨269,⟨[e15,e57],[]⟩,sh1,false,fun (x0,x1,x2,x3)=>tS x0 (x1,x2,x3)⟩
def tH.con:Con:=⟨270,aMb,sh2,false,fun (x0,x1,x2,x3,x4,x5,x6,x7,x8)=>tH (x0,x1,x2,x3,x4,x5,x6,x7,x8)⟩
def kM.con:Con:=⟨271,⟨[e47,e57],[]⟩,bH4,false,fun (x0,x1,x2,x3)=>kM x0 (x1,x2,x3)⟩
def gV.con:Con:=⟨180,⟨[e26,e25,e4],[]⟩,aLw,false,fun (x0,x1,x2,x3,x4,x5,x6,x7,x8,x9,x10,x11,x12,x13,x14,x15,x16,x17,x18,x19)=>gV (x0,x1,x2,x3,x4,x5,x6,x7,x8) (x9,x10,x11,x12,x13,x14,x15,x16,x17,x18) x19⟩
def gJ.con:Con:=⟨102,bAn,aEl,false,fun (x0,x1,x2,x3,x4,x5,x6,x7,x8,x9,x10,x11,x12,x13,x14,x15,x16,x17,x18,x19,x20,x21,x22,x23)=>gJ ((x11,x12),(x13,x14),(x15,x16,x17),x18,x19,x21,x22,x23,x20) x0 (x1,x2,x3,x4,x5,x6,x7,x8,x9,x10)⟩
def aHm.con:Con:=⟨56,sh5,sh2,false,fun (x0,x1)=>aHm x0 x1⟩
def eN.con:Con:=⟨15,sh9,⟨[e41],[(0,aTi)]⟩,false,fun (x0,x1,x2,x3,x4,x5,x6,x7,x8,x9)=>eN (x0,x1,x2,x3,x4,x5,x6,x7,x8,x9)⟩
def lQ.con:Con:=⟨299,aTt,aVo,false,fun (x0,x1)=>lQ x0 x1⟩
def pM.con:Con:=⟨213,⟨[e12,e45],[]⟩,aBc,false,fun (x0,x1)=>pM x0 x1⟩
def oZ.con:Con:=⟨131,aMh,aBc,false,fun x=>oZ x⟩
def gT.con:Con:=⟨59,bAs,aBc,false,fun (x0,x1,x2)=>gT (x0,x1,x2)⟩
def eR.con:Con:=⟨18,bQ6,aFn,false,fun (x0,x1,x2,x3,x4,x5,x6,x7,x8,x9,x10,x11,x12,x13,x14)=>eR (x0,x1) x2 x3 x4 (x5,x6,x7,x8,x9,x10,x11,x12,x13,x14)⟩
def pQ.con:Con:=⟨103,sh6,sh2,false,fun x=>pQ x⟩
def dW.con:Con:=⟨41,aO2,aEl,false,fun (x0,x1,x2,x3,x4,x5,x6,x7,x8,x9,x10,x11,x12,x13,x14,x15,x16,x17,x18,x19,x20,x21,x22,x23,x24)=>dW ((x12,x13),(x14,x15),(x16,x17,x18),x19,x20,x22,x23,x24,x21) x0 x1 (x2,x3,x4,x5,x6,x7,x8,x9,x10,x11)⟩
def cS.con:Con:=⟨41,aO2,aEl,false,fun (x0,x1,x2,x3,x4,x5,x6,x7,x8,x9,x10,x11,x12,x13,x14,x15,x16,x17,x18,x19,x20,x21,x22,x23,x24)=>cS ((x12,x13),(x14,x15),(x16,x17,x18),x19,x20,x22,x23,x24,x21) x0 x1 (x2,x3,x4,x5,x6,x7,x8,x9,x10,x11)⟩
def kJ.con:Con:=⟨9,bRb,bBf,false,fun (x0,x1,x2,x3,x4,x5,x6,x7,x8,x9,x10,x11,x12,x13,x14,x15,x16,x17,x18,x19,x20,x21,x22,x23,x24)=>kJ ((x0,x1),(x2,x3),(x4,x5,x6),x7,x8,x9,x10,x11,x12) x13 x14 (x15,x16,x17,x18,x19,x20,x21,x22,x23,x24)⟩
def vF.con:Con:=⟨104,sh8,⟨[e5,(1,ag7),e4,e6],[o6,o7,o1]⟩,false,fun (x0,x1,x2)=>vF (x0,x1,x2)⟩
def uB.con:Con:=⟨42,aBc,⟨[(0,bJ6),(1,ag1),(2,.agg [.var ti,.var ti,.var ti,.var (.sl tPp),.var ti,.var ti,.var ti,.var ti,.var ti,.row 1]),e6,e10],[(0,ob1),o7]⟩,false,fun x=>uB x⟩
def hZ.con:Con:=⟨10,aBc,⟨[(0,bHe)],[o17]⟩,false,fun x=>hZ x⟩
def fK.con:Con:=⟨11,aBc,⟨[e5,e1,e4,e6,(4,bHe)],[o17]⟩,false,fun x=>fK x⟩
def kO.con:Con:=⟨13,bRb,⟨[(0,bJ5)],[o3,o2,o4]⟩,false,fun (x0,x1,x2,x3,x4,x5,x6,x7,x8,x9,x10,x11,x12,x13,x14,x15,x16,x17,x18,x19,x20,x21,x22,x23,x24)=>kO ((x0,x1),(x2,x3),(x4,x5,x6),x7,x8,x9,x10,x11,x12) x13 x14 (x15,x16,x17,x18,x19,x20,x21,x22,x23,x24)⟩
def qV.con:Con:=⟨44,⟨[e5,(1,ag1)],[]⟩,sh1,false,fun (x0,x1,x2,x3)=>qV (x0,x1) (x2,x3)⟩
def oC.con:Con:=⟨123,bQc,sh1,false,fun (x0,x1)=>oC x0 x1⟩
def vE.con:Con:=⟨182,bA5,sh1,false,fun (x0,x1,x2,x3,x4,x5)=>vE (x0,x1,x2) (x3,x4,x5)⟩
def qR.con:Con:=⟨105,⟨[(0,aUm),(1,aUm)],[]⟩,sh1,false,fun (x0,x1)=>qR x0 x1⟩
def tD.con:Con:=⟨45,⟨[e51,(1,ag9)],[]⟩,sh1,false,fun (x0,x1,x2,x3)=>tD (x0,x1) (x2,x3)⟩
def pB.con:Con:=⟨69,⟨[e33,(1,bRr)],[]⟩,sh1,false,fun (x0,x1)=>pB x0 x1⟩
def jZ.con:Con:=⟨23,⟨[e36,(1,bQz)],[]⟩,sh1,false,fun (x0,x1,x2,x3,x4,x5)=>jZ (x0,x1,x2) (x3,x4,x5)⟩
def lL.con:Con:=⟨24,⟨[e35,e45],[]⟩,sh1,false,fun (x0,x1)=>lL x0 x1⟩
def qW.con:Con:=⟨50,bOy,sh1,false,fun (x0,x1,x2,x3,x4,x5,x6,x7)=>qW (x0,x1,x2,x3) (x4,x5,x6,x7)⟩
def kC.con:Con:=⟨14,bHj,sh1,false,fun (x0,x1)=>kC x0 x1⟩
def yP.con:Con:=⟨55,bRs,sh1,false,fun (x0,x1)=>yP x0 x1⟩
def gI.con:Con:=⟨17,⟨[e16,e25],[]⟩,sh1,false,fun (x0,x1,x2,x3,x4,x5,x6,x7,x8,x9,x10,x11,x12,x13,x14,x15,x16,x17,x18,x19)=>gI (x0,x1,x2,x3,x4,x5,x6,x7,x8,x9) (x10,x11,x12,x13,x14,x15,x16,x17,x18,x19)⟩
def lB.con:Con:=⟨106,⟨[(0,bBr),(1,bBr)],[]⟩,sh1,false,fun (x0,x1)=>lB x0 x1⟩
def rE.con:Con:=⟨107,⟨[e53,(1,aZd)],[]⟩,sh1,false,fun (x0,x1)=>rE x0 x1⟩
def rS.con:Con:=⟨108,⟨[e47,(1,bHg)],[]⟩,sh1,false,fun (x0,x1)=>rS x0 x1⟩
def sO.con:Con:=⟨46,⟨[e26,(1,ag8)],[]⟩,sh1,false,fun (x0,x1,x2,x3,x4,x5,x6,x7,x8,x9,x10,x11,x12,x13,x14,x15,x16,x17)=>sO (x0,x1,x2,x3,x4,x5,x6,x7,x8) (x9,x10,x11,x12,x13,x14,x15,x16,x17)⟩
def vG.con:Con:=⟨47,⟨[e42,(1,bRp)],[]⟩,sh1,false,fun (x0,x1,x2,x3,x4,x5,x6,x7)=>vG (x0,x1,x2,x3) (x4,x5,x6,x7)⟩
def oG.con:Con:=⟨12,⟨[e46,(1,bPw)],[]⟩,sh1,false,fun (x0,x1,x2,x3,x4,x5,x6,x7,x8,x9,x10,x11,x12,x13,x14,x15,x16,x17,x18,x19,x20,x21,x22,x23,x24,x25)=>oG ((x0,x1),(x2,x3),(x4,x5,x6),x7,x8,x9,x10,x11,x12) ((x13,x14),(x15,x16),(x17,x18,x19),x20,x21,x22,x23,x24,x25)⟩
def tM.con:Con:=⟨20,bJq,⟨[(0,bB1)],[]⟩,false,fun (x0,x1,x2,x3,x4,x5,x6,x7,x8,x9,x10,x11,x12,x13,x14,x15)=>tM (x0,x1) x2 x3 x4 x5 (x6,x7,x8,x9,x10,x11,x12,x13,x14,x15)⟩
def l_FnArrives.con:Con:=⟨3,aBc,sh1,false,fun x=>l_FnArrives x⟩
end

end Go.Proofs.YtecighmpdcffcaaGreat
