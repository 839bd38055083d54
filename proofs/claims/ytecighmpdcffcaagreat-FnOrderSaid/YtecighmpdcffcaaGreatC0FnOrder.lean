/-
  Contracts of the functions of the program. Conditions: none.
-/
import Derived.Test.YtecighmpdcffcaaGreatT0FnOrder
import Derived.Test.YtecighmpdcffcaaGreatProg
import Derived.KernelRfl
set_option linter.unusedVariables false
set_option linter.unusedSimpArgs false
set_option maxRecDepth 100000
namespace Go.Proofs.YtecighmpdcffcaaGreat
open Go.Ab Go.V
noncomputable section
theorem follows:Tryz.prog.follows .mixedOrders=true:=by kernel_rfl
theorem _root_.Go.V.Con.Ok.c {P:Program} {c:Con} {E:List Con} (h:c.Ok P) (k:aEp P E):aEp P (c::E):=⟨h,k⟩
theorem fk {E:List Con} {c:Con} {fn:Func} (hf:Tryz.prog.funcs[c.f]? =some fn) (k:aEp Tryz.prog E) (pl:Plan) (e: ∀ x,bI2 Tryz.prog E fn pl c.pre c.post x=c.sem x:=by intro x;kernel_rfl) (hn:(fn.name=="runtime.NumGoroutine")=false:=by rfl):c.Ok Tryz.prog:=bUh hf hn follows (aEp.mem k) fun x y h=>(e x).trans h
theorem nok:aEp Tryz.prog []:=trivial
abbrev _root_.Go.V.Plan.q (p:Plan):Plan:= .seq .z p
def ow1:OT:= .row 79 9 tFl false
def ow2:OT:= .row 3 1 ti true
def ow3:OT:= .row 43 1 tPt true
def ow4:OT:= .row 231 3 tSg true
def ow5:OT:= .row 62 12 tFy false
def ow6:OT:= .row 108 4 tPp true
def ow7:OT:= .row 82 4 tIb false
def ow8:OT:= .row 5 1 tb true
def ow9:OT:= .row 199 5 tRs true
def aCe:OT:= .row 216 1 tMs true
def aJw:OT:= .row 179 5 cG true
def aJb:OT:= .row 163 3 tAS true
def aEg:OT:= .row 125 5 tLk true
def aCp:OT:= .row 116 3 tRv true
def aUz:OT:= .row 43 1 tPt false
def aD9:OT:= .row 128 4 tUs true
def aCf:OT:= .row 62 12 tFy true
def aEc:OT:= .row 82 4 tIb true
def aR0:OT:= .row 192 3 yK true
def aHj:OT:= .row 79 9 tFl true
def aRj:OT:= .row 108 4 tPp false
def bK0:OT:= .row 73 15 fZ false
def ob1:OT:= .box [.var (.sl tb),.var ti,.var ti]
def ob2:OT:= .box [.var (.sl tAS),.var (.sl tLk),.var (.sl tSg),.var (.sl tSg),.var ti,.var (.sl tRs),.var (.sl tUs),.var ti,.var (.sl ti),.row 0,.row 1,.row 2,.var ti]
def ob3:OT:= .box [.row 300001]
def ob4:OT:= .box [.var (.sl tAS),.var (.sl tLk),.var (.sl tSg),.var (.sl tSg),.var ti,.var (.sl tRs),.var (.sl tUs),.var ti,.var (.sl ti),.row 300001,.row 300002,.row 300003,.var ti]
def ob5:OT:= .box [.row 300001,.row 300003]
def ob6:OT:= .box [.var (.sl tAS),.var (.sl tLk)]
def ob7:OT:= .box [.var ti,.var ti,.var ti,.var (.sl tPp),.var ti,.var ti,.var ti,.var ti,.var ti,.var (.sl tb)]
def ob8:OT:= .box [.var ti,.var ti,.var ti,.row 300001]
def ob9:OT:= .box [.var ti,.var ti,.row 300003]
def bDo:OT:= .box [.row 300005]
def bJp:OT:= .box [.row 300001,.nil]
def bK5:OT:= .box [.var ti,.var ti,.row 300004]
def bT3:OT:= .box [.var ti,.var ti,.var ti,.var ti,.row 1144,.row 1145,.var ti,.var ti,.row 1146]
def bIk:OT:= .box [.row 1208,.row 1209,.row 1272,.row 1273,.var ti,.row 1336,.row 1337,.var ti,.row 1400,.row 300001,.nil,.nil,.var ti]
def bJ4:OT:= .box [.row 1208,.row 1209,.row 1272,.row 1273,.var ti,.row 1336,.row 1337,.var ti,.row 1400,.row 300001,.row 300002,.nil,.var ti]
def bTl:OT:= .box [.var ti,.var ti,.row 300001]
def bTo:OT:= .box [.row 1160,.row 1208]
def bRk:OT:= .box [.var ti,.var ti,.var ti,.nil]
def bQ1:OT:= .box [.var ti,.var ti,.var ti]
def bSc:OT:= .box [.row 300001,.row 300002]
def bRz:OT:= .box [.row 300007,.row 300008,.row 300009,.row 300010,.var ti,.row 300006,.row 300011,.var ti,.row 300012,.row 300013,.row 300014,.row 300015,.var ti]
def bSt:OT:= .box [.var ti,.var ti,.var ti,.var ti,.row 300003,.row 300004,.var ti,.var ti,.row 300005]
def bQ8:OT:= .box [.var (.sl tPp)]
def bTi:OT:= .box [.var ti,.var ti,.var ti,.var (.sl tPp),.var ti,.var ti,.var ti,.var ti,.var ti,.row 1161]
def bVz:OT:= .box [.var ti,.var ti,.var ti,.row 1192,.var ti,.var ti,.var ti,.var ti,.var ti,.row 1193]
def bTu:OT:= .box [.var ti,.var ti,.var ti,.row 300001,.var ti,.var ti,.var ti,.var ti,.var ti,.row 300002]
def bVo:OT:= .box [.var ti,.var ti,.var ti,.row 1112]
def bV9:OT:= .box [.var ti,.var ti,.var ti,.var ti,.row 1112,.row 1113,.var ti,.var ti,.row 1114]
def bVu:OT:= .box [.var ti,.var ti,.var ti,.row 1544]
def bV5:OT:= .box [.var ti,.var ti,.var ti,.var ti,.row 2312,.row 2313,.var ti,.var ti,.row 2314]
def bWc:OT:= .box [.var ti,.var ti,.var ti,.var ti,.var ti,.row 1560,.var ti,.var ti,.var ti,.var ti,.var ti,.row 1561]
def bVr:OT:= .box [.var ti,.row 2152,.row 2153]
def bWf:OT:= .box [.var (.sl tAS),.var (.sl tLk),.var (.sl tSg),.var (.sl tSg),.var ti,.row 2152,.row 2153,.var ti,.var (.sl ti),.row 0,.row 1,.row 2,.var ti]
def bWo:OT:= .box [.var ti,.var ti,.var ti,.row 2904,.var ti,.var ti,.var ti,.var ti,.var ti,.row 2905]
def bS6:OT:= .box [.var ti,.var ti,.var ti,.var ti,.var (.sl tMs),.var (.sl tPt),.var ti,.var ti,.var (.sl tRv)]
def bWd:OT:= .box [.var (.sl tAS),.var (.sl tLk),.var (.sl tSg),.var (.sl tSg),.var ti,.var (.sl tRs),.var (.sl tUs),.var ti,.var (.sl ti),.row 14,.row 1,.row 2,.var ti]
def bSl:OT:= .box [.var ti,.var ti,.nil,.var ti,.var ti,.var ti,.var ti,.var ti,.var (.sl tPp),.var ti,.var ti,.var ti,.var ti,.var ti,.row 300001]
def bQ5:OT:= .box [.var ti,.var .bool,.var ti]
def bT6:OT:= .box [.row 1208,.row 1209,.row 1272,.row 1273,.var ti,.row 1336,.row 1337,.var ti,.row 1400,.row 300001,.row 300002,.row 300003,.var ti]
def bV0:OT:= .box [.var ti,.var ti,.var ti,.var ti,.var ti,.var (.sl tPp),.var ti,.var ti,.var ti,.var ti,.var ti,.var (.sl tb)]
def bVm:OT:= .box [.var ti,.var ti,.var ti,.row 2584,.var ti,.var ti,.var ti,.var ti,.var ti,.row 2585]
def bVt:OT:= .box [.var ti,.var ti,.var ti,.row 3176,.var ti,.var ti,.var ti,.var ti,.var ti,.row 3177]
def ag1:ST:= .agg [.var (.sl tAS),.var (.sl tLk)]
def ag2:ST:= .agg [.var ti,.var ti,.var ti,.var (.sl tPp),.var ti,.var ti,.var ti,.var ti,.var ti,.var (.sl tb)]
def ag3:ST:= .agg [.var (.sl tPp)]
def ag4:ST:= .agg [.var ti,.var ti,.var (.sl cG)]
def ag5:ST:= .agg [.var ti,.var ti,.var ti,.var ti,.var ti]
def ag6:ST:= .agg [.var ti,.var ti,.var ti,.var ti,.var (.sl tMs),.var (.sl tPt),.var ti,.var ti,.var (.sl tRv)]
def ag7:ST:= .agg [.var ti,.var ti,.var ti,.var (.sl cG)]
def ag8:ST:= .agg [.var ti,.var ti,.var ti,.row 0,.var ti,.var ti,.var ti,.var ti,.var ti,.row 1]
def ag9:ST:= .agg [.var (.sl tSg),.var (.sl tSg)]
def bWr:ST:= .agg [.var ti,.var ti,.var ti,.var ti,.row 0,.row 1,.var ti,.var ti,.row 2]
def bTm:ST:= .agg [.row 0]
def bQ9:ST:= .agg [.var ti,.var ti,.var ti]
def bWa:ST:= .agg [.var ti,.var (.sl tRs),.var (.sl tUs)]
def bWq:ST:= .agg [.var ti,.var ti,.var ti,.row 0]
def bR3:ST:= .agg [.var ti,.var ti,.var ti,.var (.sl tMs)]
def bWj:ST:= .agg [.var ti,.row 0,.row 1]
def bVs:ST:= .agg [.row 0,.row 1,.row 2,.row 3,.var ti,.row 4,.row 5,.var ti,.row 6,.row 7,.row 8,.row 9,.var ti]
def bV6:ST:= .agg [.var (.sl tAS),.var (.sl tLk),.var (.sl tSg),.var (.sl tSg),.var ti,.var (.sl tRs),.var (.sl tUs),.var ti,.var (.sl ti),.var (.sl tFy),.var (.sl tFl),.var (.sl tIb),.var ti]
def bJv:ST:= .agg [.row 0,.row 1]
def bT7:ST:= .agg [.var ti,.var ti,.var (.sl tb),.var ti,.var ti,.var ti,.var ti,.var ti,.var (.sl tPp),.var ti,.var ti,.var ti,.var ti,.var ti,.var (.sl tb)]
def bSa:ST:= .agg [.var ti,.var ti,.row 0]
def bLe:ST:= .agg [.var ti,.var ti,.var ti,.var ti,.var ti,.var (.sl tPp),.var ti,.var ti,.var ti,.var ti,.var ti,.var (.sl tb)]
def bQ7:ST:= .agg [.var ti,.var ti,.var ti,.var ti,.var ti,.row 0,.var ti,.var ti,.var ti,.var ti,.var ti,.row 1]
def bV2:ST:= .agg [.var ti,.var ti,.var ti,.row 3,.var ti,.var ti,.var ti,.var ti,.var ti,.row 4]
def bV4:ST:= .agg [.var (.sl tAS),.var (.sl tLk),.var (.sl tSg),.var (.sl tSg),.var ti,.var (.sl tRs),.var (.sl tUs),.var ti,.var (.sl ti),.row 1001109,.row 1001110,.row 1001111,.var ti]
def vr1:ST:= .one (.var ti)
def vr2:ST:= .one (.var .bool)
def vr3:ST:= .one (.row 300001)
def vr4:ST:= .one (.row 0)
def vr5:ST:= .one (.ptr 1000000 0)
def vr6:ST:= .one (.var (.sl tb))
def vr7:ST:= .one (.var (.sl ti))
def vr8:ST:= .one (.row 7)
def vr9:ST:= .one (.row 6)
def bKm:ST:= .one (.var (.sl tPt))
def aQ3:ST:= .one (.row 10)
def bVk:ST:= .one (.var (.sl tRs))
def bV7:ST:= .one (.row 1624)
def bRp:ST:= .one (.var (.sl tRv))
def bH5:ST:= .one (.var (.sl cG))
def aVq:ST:= .one (.row 15)
def bV3:ST:= .one (.ptr 7 0)
def bV8:ST:= .one (.row 5)
def bWl:ST:= .one (.ptr 11 0)
def aVn:ST:= .one (.row 14)
def bWp:ST:= .one (.ptr 13 0)
def bDz:ST:= .one (.var (.sl tMs))
def bC7:ST:= .one (.ptr 6 0)
def bRq:ST:= .one (.ptr 8 0)
def bBh:ST:= .one (.row 16)
def bId:ST:= .one (.var (.sl tSg))
def bSk:ST:= .one (.var (.sl tIb))
def bJw:ST:= .one (.row 127)
def bJ8:ST:= .one (.row 300002)
def e1:Nat×ST:=(1,vr1)
def e2:Nat×ST:=(0,vr1)
def e3:Nat×ST:=(0,vr2)
def e4:Nat×ST:=(2,vr1)
def e5:Nat×ST:=(0,ag1)
def e6:Nat×ST:=(0,vr4)
def e7:Nat×ST:=(3,vr1)
def e8:Nat×ST:=(5,vr1)
def e9:Nat×ST:=(0,vr5)
def e10:Nat×ST:=(4,vr2)
def e11:Nat×ST:=(4,vr1)
def e12:Nat×ST:=(3,vr3)
def e13:Nat×ST:=(0,ag3)
def e14:Nat×ST:=(11,vr3)
def e15:Nat×ST:=(0,ag4)
def e16:Nat×ST:=(2,vr2)
def e17:Nat×ST:=(6,vr1)
def e18:Nat×ST:=(9,vr1)
def e19:Nat×ST:=(0,vr6)
def e20:Nat×ST:=(0,ag2)
def e21:Nat×ST:=(8,vr1)
def e22:Nat×ST:=(0,ag6)
def e23:Nat×ST:=(1,ag3)
def e24:Nat×ST:=(3,vr9)
def e25:Nat×ST:=(0,ag8)
def e26:Nat×ST:=(1,vr2)
def e27:Nat×ST:=(7,vr1)
def e28:Nat×ST:=(5,vr8)
def e29:Nat×ST:=(1,ag4)
def e30:Nat×ST:=(1,ag2)
def e31:Nat×ST:=(5,vr3)
def e32:Nat×ST:=(10,vr1)
def e33:Nat×ST:=(0,ag7)
def e34:Nat×ST:=(0,bVk)
def e35:Nat×ST:=(13,vr1)
def e36:Nat×ST:=(9,bV7)
def e37:Nat×ST:=(0,bWr)
def e38:Nat×ST:=(0,bKm)
def e39:Nat×ST:=(0,bWa)
def e40:Nat×ST:=(0,ag5)
def e41:Nat×ST:=(0,bTm)
def e42:Nat×ST:=(12,vr2)
def e43:Nat×ST:=(0,vr7)
def e44:Nat×ST:=(0,bWq)
def e45:Nat×ST:=(0,bRp)
def e46:Nat×ST:=(0,ag9)
def e47:Nat×ST:=(0,bR3)
def e48:Nat×ST:=(7,aQ3)
def e49:Nat×ST:=(1,vr7)
def e50:Nat×ST:=(0,bWj)
def e51:Nat×ST:=(0,bVs)
def e52:Nat×ST:=(6,vr2)
def e53:Nat×ST:=(5,vr7)
def e54:Nat×ST:=(34,vr2)
def e55:Nat×ST:=(0,bH5)
def e56:Nat×ST:=(1,ag9)
def e57:Nat×ST:=(0,bV6)
def e58:Nat×ST:=(11,vr1)
def e59:Nat×ST:=(12,vr1)
def e60:Nat×ST:=(7,bV3)
def e61:Nat×ST:=(0,bQ9)
def e62:Nat×ST:=(1,bQ9)
def e63:Nat×ST:=(31,vr2)
def e64:Nat×ST:=(3,bV8)
def e65:Nat×ST:=(7,aVq)
def e66:Nat×ST:=(15,vr1)
def e67:Nat×ST:=(11,bWl)
def e68:Nat×ST:=(13,bWp)
def e69:Nat×ST:=(7,.one (.row 18))
def e70:Nat×ST:=(7,.one (.row 9))
def e71:Nat×ST:=(7,.one (.row 29))
def e72:Nat×ST:=(1,.one (.var (.sl fZ)))
def o1:Nat×OT:=(1000000,ob1)
def o2:Nat×OT:=(1,ow1)
def o3:Nat×OT:=(0,ow5)
def o4:Nat×OT:=(1000000,ob2)
def o5:Nat×OT:=(2,ow7)
def o6:Nat×OT:=(0,ow6)
def o7:Nat×OT:=(300001,aUz)
def o8:Nat×OT:=(1,ow8)
def o9:Nat×OT:=(0,aCe)
def o10:Nat×OT:=(300001,ow2)
def o11:Nat×OT:=(300002,ow1)
def o12:Nat×OT:=(0,ow9)
def o13:Nat×OT:=(300001,ow6)
def o14:Nat×OT:=(0,ow2)
def o15:Nat×OT:=(1,ow3)
def o16:Nat×OT:=(300001,aJb)
def o17:Nat×OT:=(1624,ow3)
def o18:Nat×OT:=(300001,ow5)
def o19:Nat×OT:=(300003,ow7)
def o20:Nat×OT:=(0,aJw)
def o21:Nat×OT:=(6,ow2)
def o22:Nat×OT:=(2,aCp)
def o23:Nat×OT:=(0,aJb)
def o24:Nat×OT:=(1,aEg)
def o25:Nat×OT:=(300001,aJw)
def o26:Nat×OT:=(3,ob3)
def o27:Nat×OT:=(1000000,ob4)
def o28:Nat×OT:=(300001,ow3)
def o29:Nat×OT:=(15,ow3)
def o30:Nat×OT:=(300001,ow4)
def o31:Nat×OT:=(0,ow8)
def o32:Nat×OT:=(300003,aEg)
def o33:Nat×OT:=(0,ow4)
def o34:Nat×OT:=(1,aD9)
def o35:Nat×OT:=(2,ow4)
def o36:Nat×OT:=(3,ow4)
def o37:Nat×OT:=(4,ow9)
def o38:Nat×OT:=(5,aD9)
def o39:Nat×OT:=(7,aCf)
def o40:Nat×OT:=(9,aEc)
def o41:Nat×OT:=(3,ob5)
def o42:Nat×OT:=(0,ow3)
def o43:Nat×OT:=(10,aR0)
def o44:Nat×OT:=(10,ow3)
def o45:Nat×OT:=(300001,aR0)
def o46:Nat×OT:=(300001,ow9)
def o47:Nat×OT:=(1001109,ow5)
def o48:Nat×OT:=(1001110,ow1)
def o49:Nat×OT:=(1001111,ow7)
def o50:Nat×OT:=(300003,aJw)
def o51:Nat×OT:=(300002,ow3)
def o52:Nat×OT:=(300001,aCp)
def o53:Nat×OT:=(0,.row 163 3 tAS false)
def o54:Nat×OT:=(1,.row 125 5 tLk false)
def k0:Nat×ST:=(0,.keep)
def k1:Nat×ST:=(1,.keep)
def k2:Nat×ST:=(2,.keep)
def k3:Nat×ST:=(3,.keep)
def k4:Nat×ST:=(4,.keep)
def k5:Nat×ST:=(5,.keep)
def k6:Nat×ST:=(6,.keep)
def k7:Nat×ST:=(7,.keep)
def k8:Nat×ST:=(8,.keep)
def k9:Nat×ST:=(9,.keep)
def k10:Nat×ST:=(10,.keep)
def k11:Nat×ST:=(11,.keep)
def k12:Nat×ST:=(12,.keep)
def k13:Nat×ST:=(13,.keep)
def k14:Nat×ST:=(14,.keep)
def k15:Nat×ST:=(15,.keep)
def k16:Nat×ST:=(16,.keep)
def k17:Nat×ST:=(17,.keep)
def k18:Nat×ST:=(18,.keep)
def k19:Nat×ST:=(19,.keep)
def k20:Nat×ST:=(20,.keep)
def k21:Nat×ST:=(21,.keep)
def k22:Nat×ST:=(22,.keep)
def k23:Nat×ST:=(23,.keep)
def k25:Nat×ST:=(25,.keep)
def k26:Nat×ST:=(26,.keep)
def k28:Nat×ST:=(28,.keep)
def k31:Nat×ST:=(31,.keep)
def k32:Nat×ST:=(32,.keep)
def k33:Nat×ST:=(33,.keep)
def k35:Nat×ST:=(35,.keep)
def k36:Nat×ST:=(36,.keep)
def k37:Nat×ST:=(37,.keep)
def k38:Nat×ST:=(38,.keep)
def k39:Nat×ST:=(39,.keep)
def k49:Nat×ST:=(49,.keep)
def k50:Nat×ST:=(50,.keep)
def k51:Nat×ST:=(51,.keep)
def k52:Nat×ST:=(52,.keep)
def k53:Nat×ST:=(53,.keep)
def k54:Nat×ST:=(54,.keep)
def k56:Nat×ST:=(56,.keep)
def k57:Nat×ST:=(57,.keep)
def k58:Nat×ST:=(58,.keep)
def k64:Nat×ST:=(64,.keep)
def k65:Nat×ST:=(65,.keep)
def k66:Nat×ST:=(66,.keep)
def k67:Nat×ST:=(67,.keep)
def k72:Nat×ST:=(72,.keep)
def k73:Nat×ST:=(73,.keep)
def k74:Nat×ST:=(74,.keep)
def k87:Nat×ST:=(87,.keep)
def k88:Nat×ST:=(88,.keep)
def bB7:Nat×ST:=(100,.keep)
def aIm:Nat×ST:=(101,.keep)
def aLk:Nat×ST:=(102,.keep)
def bDb:Nat×ST:=(103,.keep)
def bRj:Nat×ST:=(106,.keep)
def bTj:Nat×ST:=(107,.keep)
def bWk:Nat×ST:=(108,.keep)
def bWg:Nat×ST:=(128,.keep)
def bVl:Nat×ST:=(129,.keep)
def bH8:Nat×ST:=(147,.keep)
def bKe:Nat×ST:=(148,.keep)
def bJl:Nat×ST:=(149,.keep)
def bS5:Nat×ST:=(150,.keep)
def bWi:Nat×ST:=(151,.keep)
def bLg:Nat×ST:=(163,.keep)
def bLk:Nat×ST:=(164,.keep)
def bR4:Nat×ST:=(165,.keep)
def bVw:Nat×ST:=(169,.keep)
def bV1:Nat×ST:=(170,.keep)
def j0:Nat×OT:=(0,.keep)
def j1:Nat×OT:=(1,.keep)
def j2:Nat×OT:=(2,.keep)
def j3:Nat×OT:=(3,.keep)
def j4:Nat×OT:=(4,.keep)
def j5:Nat×OT:=(5,.keep)
def j6:Nat×OT:=(6,.keep)
def j7:Nat×OT:=(7,.keep)
def j8:Nat×OT:=(8,.keep)
def j9:Nat×OT:=(9,.keep)
def j10:Nat×OT:=(10,.keep)
def j11:Nat×OT:=(11,.keep)
def j12:Nat×OT:=(12,.keep)
def j13:Nat×OT:=(13,.keep)
def j14:Nat×OT:=(14,.keep)
def j15:Nat×OT:=(15,.keep)
def j16:Nat×OT:=(16,.keep)
def j19:Nat×OT:=(19,.keep)
def j26:Nat×OT:=(26,.keep)
def j28:Nat×OT:=(28,.keep)
def j29:Nat×OT:=(29,.keep)
def aUi:Nat×OT:=(1080,.keep)
def aTs:Nat×OT:=(1081,.keep)
def bU4:Nat×OT:=(1082,.keep)
def aOn:Nat×OT:=(1112,.keep)
def bAl:Nat×OT:=(1113,.keep)
def bCq:Nat×OT:=(1114,.keep)
def aEi:Nat×OT:=(1128,.keep)
def bMc:Nat×OT:=(1129,.keep)
def bM7:Nat×OT:=(1130,.keep)
def bNx:Nat×OT:=(1131,.keep)
def bL8:Nat×OT:=(1132,.keep)
def bMs:Nat×OT:=(1133,.keep)
def bM1:Nat×OT:=(1134,.keep)
def bNs:Nat×OT:=(1135,.keep)
def bVe:Nat×OT:=(1136,.keep)
def bNi:Nat×OT:=(1137,.keep)
def bNn:Nat×OT:=(1144,.keep)
def bM6:Nat×OT:=(1145,.keep)
def bMw:Nat×OT:=(1146,.keep)
def aGx:Nat×OT:=(1160,.keep)
def bNf:Nat×OT:=(1161,.keep)
def aP7:Nat×OT:=(1176,.keep)
def bCg:Nat×OT:=(1177,.keep)
def bAj:Nat×OT:=(1178,.keep)
def aIx:Nat×OT:=(1192,.keep)
def bN2:Nat×OT:=(1193,.keep)
def vV:Nat×OT:=(1208,.keep)
def aAx:Nat×OT:=(1209,.keep)
def aTq:Nat×OT:=(1210,.keep)
def aUn:Nat×OT:=(1211,.keep)
def aT8:Nat×OT:=(1212,.keep)
def aUb:Nat×OT:=(1213,.keep)
def aUc:Nat×OT:=(1214,.keep)
def aTp:Nat×OT:=(1215,.keep)
def aUj:Nat×OT:=(1216,.keep)
def aUa:Nat×OT:=(1217,.keep)
def bU2:Nat×OT:=(1224,.keep)
def aCm:Nat×OT:=(1272,.keep)
def aDm:Nat×OT:=(1273,.keep)
def bD1:Nat×OT:=(1288,.keep)
def aLy:Nat×OT:=(1304,.keep)
def aGn:Nat×OT:=(1320,.keep)
def aGs:Nat×OT:=(1336,.keep)
def aGj:Nat×OT:=(1337,.keep)
def bU0:Nat×OT:=(1368,.keep)
def aB3:Nat×OT:=(1400,.keep)
def bVg:Nat×OT:=(1401,.keep)
def aT3:Nat×OT:=(1464,.keep)
def aUp:Nat×OT:=(1465,.keep)
def aUm:Nat×OT:=(1466,.keep)
def aUe:Nat×OT:=(1467,.keep)
def aTx:Nat×OT:=(1468,.keep)
def aUq:Nat×OT:=(1469,.keep)
def aT2:Nat×OT:=(1470,.keep)
def aUd:Nat×OT:=(1471,.keep)
def aTr:Nat×OT:=(1472,.keep)
def aTv:Nat×OT:=(1473,.keep)
def bUr:Nat×OT:=(1528,.keep)
def bUl:Nat×OT:=(1529,.keep)
def bUg:Nat×OT:=(1530,.keep)
def bN8:Nat×OT:=(1560,.keep)
def bOl:Nat×OT:=(1561,.keep)
def bVd:Nat×OT:=(1576,.keep)
def bUx:Nat×OT:=(1592,.keep)
def bUq:Nat×OT:=(1593,.keep)
def bU6:Nat×OT:=(1608,.keep)
def bVb:Nat×OT:=(1609,.keep)
def aUl:Nat×OT:=(1624,.keep)
def xP:Nat×OT:=(1672,.keep)
def wZ:Nat×OT:=(1720,.keep)
def bMi:Nat×OT:=(1736,.keep)
def bVc:Nat×OT:=(1755,.keep)
def bU3:Nat×OT:=(1756,.keep)
def uH:Nat×OT:=(1768,.keep)
def bUn:Nat×OT:=(1787,.keep)
def bUb:Nat×OT:=(1788,.keep)
def uM:Nat×OT:=(1816,.keep)
def bUc:Nat×OT:=(1944,.keep)
def bNr:Nat×OT:=(2152,.keep)
def bN1:Nat×OT:=(2153,.keep)
def bBx:Nat×OT:=(2312,.keep)
def bB1:Nat×OT:=(2313,.keep)
def bBw:Nat×OT:=(2314,.keep)
def bC2:Nat×OT:=(2315,.keep)
def bBr:Nat×OT:=(2316,.keep)
def bBy:Nat×OT:=(2317,.keep)
def bB9:Nat×OT:=(2318,.keep)
def bCw:Nat×OT:=(2319,.keep)
def bMp:Nat×OT:=(2320,.keep)
def bCu:Nat×OT:=(2321,.keep)
def cO:Nat×OT:=(300001,.keep)
def sS:Nat×OT:=(300002,.keep)
def mZ:Nat×OT:=(300003,.keep)
def wH:Nat×OT:=(300004,.keep)
def aFg:Nat×OT:=(300005,.keep)
def aBm:Nat×OT:=(300006,.keep)
def aBr:Nat×OT:=(300007,.keep)
def aBj:Nat×OT:=(300008,.keep)
def aBg:Nat×OT:=(300009,.keep)
def aBi:Nat×OT:=(300010,.keep)
def aR2:Nat×OT:=(300011,.keep)
def aRs:Nat×OT:=(300012,.keep)
def aQd:Nat×OT:=(300013,.keep)
def aRt:Nat×OT:=(300014,.keep)
def aQe:Nat×OT:=(300015,.keep)
def aL:Nat×OT:=(1000000,.keep)
def aA5:Nat×OT:=(1001109,.keep)
def aAz:Nat×OT:=(1001110,.keep)
def aA4:Nat×OT:=(1001111,.keep)
def sh1:Sh:=⟨[e3],[]⟩
def sh2:Sh:=⟨[e2],[]⟩
def sh3:Sh:=⟨[],[]⟩
def sh4:Sh:=⟨[e10],[]⟩
def sh5:Sh:=⟨[e2,e1],[]⟩
def sh6:Sh:=⟨[e13],[]⟩
def sh7:Sh:=⟨[e20],[]⟩
def sh8:Sh:=⟨[e16],[]⟩
def sh9:Sh:=⟨[e19],[]⟩
def aFz:Sh:=⟨[e6],[o14]⟩
def aF3:Sh:=⟨[],[o3,o2,o5,o4]⟩
def aHe:Sh:=⟨[e38],[]⟩
def aHf:Sh:=⟨[e22],[]⟩
def aHa:Sh:=⟨[e25],[o6,o8]⟩
def aIi:Sh:=⟨[e15],[]⟩
def aIh:Sh:=⟨[k1],[j1]⟩
def aK6:Sh:=⟨[e9],[o1]⟩
def aKv:Sh:=⟨[e37],[o9,o15,o22]⟩
def aKc:Sh:=⟨[e41],[o6]⟩
def aNj:Sh:=⟨[e5,e1,e4],[]⟩
def aNk:Sh:=⟨[e43],[]⟩
def aNi:Sh:=⟨[e6],[o42]⟩
def aNb:Sh:=⟨[e33,e1],[]⟩
def aNo:Sh:=⟨[e52],[]⟩
def aRi:Sh:=⟨[e15,e1],[]⟩
def aRh:Sh:=⟨[e6],[o33]⟩
def aQ8:Sh:=⟨[e50],[o12,o34]⟩
def aQl:Sh:=⟨[e5,e23],[]⟩
def aQx:Sh:=⟨[e25,e26],[o6,o8]⟩
def aRe:Sh:=⟨[e9,e1,e4,(3,ag2)],[o4,o3,o2,o5]⟩
def aQk:Sh:=⟨[e47,e30],[]⟩
def aQ5:Sh:=⟨[e3],[o3,o2,o5,o4]⟩
def aR3:Sh:=⟨[k0,k1,e42],[]⟩
def aQ1:Sh:=⟨[k2,k3,e8],[j2,j3]⟩
def aUu:Sh:=⟨[e19,e1],[]⟩
def aWs:Sh:=⟨[e5,e1],[]⟩
def aWf:Sh:=⟨[e40],[]⟩
def aWr:Sh:=⟨[e5,e29],[]⟩
def aWw:Sh:=⟨[e44],[o20]⟩
def aXe:Sh:=⟨[e44],[o9]⟩
def aW2:Sh:=⟨[e6],[o31]⟩
def aWc:Sh:=⟨[e55],[]⟩
def aXq:Sh:=⟨[k1,e7],[j1]⟩
def bCm:Sh:=⟨[e2],[o1]⟩
def bAu:Sh:=⟨[e9,e1],[o1]⟩
def bA7:Sh:=⟨[e2,e49],[]⟩
def bD2:Sh:=⟨[e15,e29],[]⟩
def bBn:Sh:=⟨[e5],[]⟩
def bBe:Sh:=⟨[e33],[]⟩
def bAk:Sh:=⟨[e61],[]⟩
def bBi:Sh:=⟨[e5,(1,ag7)],[]⟩
def bCi:Sh:=⟨[e13,e23],[]⟩
def bDt:Sh:=⟨[e6],[(0,aCp)]⟩
def bB0:Sh:=⟨[e6],[o12]⟩
def bAt:Sh:=⟨[e9,e1,(2,ag2)],[o4,o3,o2,o5]⟩
def bDi:Sh:=⟨[e39,e1,e4,e7],[]⟩
def bDq:Sh:=⟨[e34,e1,e4,e7,e11],[]⟩
def bBp:Sh:=⟨[k0,k1,e8],[]⟩
def bC5:Sh:=⟨[e7],[]⟩
def bBz:Sh:=⟨[k2,k3],[j2,o26,o13]⟩
def bBb:Sh:=⟨[k0],[o18,o11,o19,o27]⟩
def bLn:Sh:=⟨[e2,e1,e4],[]⟩
def bIn:Sh:=⟨[e40,e1,e4],[]⟩
def bIy:Sh:=⟨[e43,e1],[]⟩
def bH9:Sh:=⟨[e2,e1,e4,(3,ag5)],[]⟩
def bJb:Sh:=⟨[(0,bSa)],[o20]⟩
def bIe:Sh:=⟨[e5,e56,e4,e7],[]⟩
def bLp:Sh:=⟨[e51],[o23,o24,o35,o36,o37,o38,o21,o39,(8,aHj),o40]⟩
def bKs:Sh:=⟨[e47],[]⟩
def bKp:Sh:=⟨[e57],[]⟩
def bKx:Sh:=⟨[e46,e1,e4],[]⟩
def bLo:Sh:=⟨[e6],[(0,aR0)]⟩
def bJq:Sh:=⟨[e39,e1],[]⟩
def bJd:Sh:=⟨[e20,e1],[]⟩
def bIq:Sh:=⟨[e39,e1,e4,e7,e11],[]⟩
def bKc:Sh:=⟨[e41],[(0,aRj)]⟩
def bKy:Sh:=⟨[e9,(1,bT7)],[o4,o3,o2,o5]⟩
def bJz:Sh:=⟨[e6],[o20]⟩
def bJ7:Sh:=⟨[(8,vr2)],[]⟩
def bJn:Sh:=⟨[k1,k2,k3,e11],[j1,j2,o26,o13]⟩
def bIi:Sh:=⟨[e12],[o10]⟩
def bKf:Sh:=⟨[e14],[o7]⟩
def bSp:Sh:=⟨[e5,e1,e4,(3,ag5)],[]⟩
def bRw:Sh:=⟨[e55,(1,bH5)],[]⟩
def bR8:Sh:=⟨[(0,bJv)],[o33,(1,ow4)]⟩
def bSg:Sh:=⟨[(0,bJv)],[o23,o24]⟩
def bT2:Sh:=⟨[e22,(1,vr6)],[]⟩
def bQ6:Sh:=⟨[e37,e26],[o9,o15,o22]⟩
def bRx:Sh:=⟨[(0,bSk),e1,e4],[]⟩
def bSu:Sh:=⟨[e15,e29,e16,(3,ag4)],[]⟩
def bRn:Sh:=⟨[e46,e29,e4,e7,(4,ag4)],[]⟩
def bTe:Sh:=⟨[e33,(1,ag7)],[]⟩
def bT5:Sh:=⟨[e5,e56,e4,e7,e11],[]⟩
def bTs:Sh:=⟨[e45,(1,bKm),e4],[]⟩
def bRe:Sh:=⟨[e22,(1,bKm),e4],[]⟩
def bTb:Sh:=⟨[e34,e1,e4,e7],[]⟩
def bRa:Sh:=⟨[e2,e23,e4,e7,(4,vr6)],[]⟩
def bT8:Sh:=⟨[e19,(1,vr6)],[]⟩
def bUa:Sh:=⟨[e57,(1,bT7)],[]⟩
def bNt:Sh:=⟨[e37,(1,bV2),e16],[o9,o15,o22,(3,ow6),(4,ow8)]⟩
def bNc:Sh:=⟨[(0,bQ7)],[o6,o8]⟩
def bMm:Sh:=⟨[e5,e1,(2,ag2)],[]⟩
def bMv:Sh:=⟨[e5,e1,e4,e7,e11,(5,ag2)],[]⟩
def bOi:Sh:=⟨[e20,e1,e4,(3,vr6)],[]⟩
def bL0:Sh:=⟨[e6,e1,e16],[o14]⟩
def bL2:Sh:=⟨[e50,e26],[o12,o34]⟩
def bNo:Sh:=⟨[e5,e1,e4,e7,(4,ag2)],[]⟩
def bNp:Sh:=⟨[e9],[o4,o3,o2,o5]⟩
def bM0:Sh:=⟨[e9,e1],[o4,o3,o2,o5]⟩
def bN7:Sh:=⟨[(0,bLe)],[o3,o2,o5,o4]⟩
def bL9:Sh:=⟨[e9,(1,bV4)],[o1,o47,o48,o49]⟩
def bNg:Sh:=⟨[k1,k2,e31,k6],[j2,o10]⟩
def bOe:Sh:=⟨[k2,k3,(37,vr2)],[j2,j3]⟩
def bNb:Sh:=⟨[k0,k2,k3,k4,k8],[j2,o41,o16,o32,o1]⟩
def bMn:Sh:=⟨[k1,k2,k3,e27],[j3]⟩
def bNz:Sh:=⟨[k9,(30,vr2)],[j9]⟩
def bM2:Sh:=⟨[k1,e64,e11],[j1,(5,ow2)]⟩
def bLs:Sh:=⟨[k2,k3,e53,e17],[j2,j3]⟩
def bOb:Sh:=⟨[k2,k3,k5,k6],[j2,j3]⟩
def bMx:Sh:=⟨[k2],[(2,.box [.row 3,.row 7]),(3,aJb),(7,aEg)]⟩
def bN4:Sh:=⟨[k6,k7],[j6,(7,ob8),o25]⟩
def bLy:Sh:=⟨[k1,k2,k3,e65],[j3,o29]⟩
def bMo:Sh:=⟨[k2,k3,e63],[j2,j3]⟩
def bNd:Sh:=⟨[e24,k4,k5],[o21,aEi]⟩
def bMh:Sh:=⟨[k2,k4,(18,vr2)],[j4]⟩
def bL4:Sh:=⟨[k0,k3,k4,e8],[cO]⟩
def bN3:Sh:=⟨[k1,k2,(21,vr2)],[j1,j2]⟩
def bNj:Sh:=⟨[k2,k3,e10],[(2,bT3),(3,bVz),bNn,bM6,bMw,aIx,bN2]⟩
def bNl:Sh:=⟨[k4,k5],[j4,(5,bVo),(1112,aCe)]⟩
def bNm:Sh:=⟨[k3,k4,(16,vr2)],[j3,j4]⟩
def bMt:Sh:=⟨[k4,k5],[j4,(5,bV9),aOn,bAl,bCq]⟩
def bLv:Sh:=⟨[k2,k4,(21,vr2)],[j2,aGx]⟩
def bNy:Sh:=⟨[k3,k6,k7,k8,(24,vr2)],[j3,j6,j7,j8,aP7,bCg,bAj]⟩
def bMf:Sh:=⟨[k3,k6,k7,k8,(42,vr2)],[j3,j6,j7,j8,aP7,bCg,bAj]⟩
def bL7:Sh:=⟨[k0,k1,k5,k6,e60],[j0,j1,j2,j5,(7,bVu),(1544,aCe),aL]⟩
def bMz:Sh:=⟨[k0,k1,k5,e32],[j0,o2,j2,j5,aL]⟩
def bM5:Sh:=⟨[k0,k1,k5,k10],[j0,o2,j2,j5,aL]⟩
def bLx:Sh:=⟨[k0,k1,k5,k10,e67],[j0,j1,j2,j5,(11,bV5),(2312,aCe),(2313,ow3),(2314,aCp),aL]⟩
def bM4:Sh:=⟨[e1,(5,vr9)],[(6,ow8)]⟩
def bLr:Sh:=⟨[k0,k1,k7,(8,bRq)],[j0,j1,j2,j7,(8,bWc),(1560,ow6),(1561,ow8),aL]⟩
def bM8:Sh:=⟨[k0,k8,k9,k10,e67,e42],[j0,j1,j2,j8,(11,bVr),bN8,bOl,(2152,ow9),(2153,aD9),aL]⟩
def bLt:Sh:=⟨[k0,k8,k9,k10,k11,(83,vr2)],[j0,j1,j2,j8,j11,bN8,bOl,bNr,bN1,aL]⟩
def bMr:Sh:=⟨[],[o3,j1,j2,bNr,bN1,(1000000,bWf)]⟩
def bN0:Sh:=⟨[k0,k1,k7,e68],[j0,j1,j2,j7,(13,bWo),(2904,ow6),(2905,ow8),aL]⟩
def bOa:Sh:=⟨[],[o18,o11,o19,o27]⟩
def bMa:Sh:=⟨[k4,k5],[j1,j2,j4,j5,(14,ow5),(1000000,bWd)]⟩
def bMd:Sh:=⟨[],[o3,j1,j2,o4]⟩
def bMl:Sh:=⟨[k0,k1,k12,e35],[]⟩
def bLw:Sh:=⟨[e12,k6,k7,e21],[o10]⟩
def bNe:Sh:=⟨[e7,k6,k7,e21],[]⟩
def bL5:Sh:=⟨[e1,(5,.one (.row 1112))],[(1112,ow8)]⟩
def bNa:Sh:=⟨[k0,k1,k7,(8,bRq),e18],[j0,j1,j2,j7,(8,bV0),aL]⟩
def bOh:Sh:=⟨[k0,k1,k7,k8,k9,(54,vr2)],[j0,j1,j2,j7,j8,aL]⟩
def bN5:Sh:=⟨[k0,k1,e67,e42],[j0,j1,j2,(11,bVm),(2584,ow6),(2585,ow8),aL]⟩
def bNu:Sh:=⟨[k0,k1,k7,k9,(116,vr2)],[j0,j1,j2,j7,aL]⟩
def bOk:Sh:=⟨[k0,k1,k7,e68],[j0,j1,j2,j7,(13,bVt),(3176,ow6),(3177,ow8),aL]⟩
def bL3:Sh:=⟨[k2,k3,k4,k5,k9,k10,e14],[j4,j5,uH,uM,o28]⟩
def bOm:Sh:=⟨[k3,k5,e17,k7,k8,k9],[j5,cO]⟩
def aGh.con:Con:=⟨7,sh9,sh1,false,fun x=>aGh x⟩
def aBu.con:Con:=⟨70,sh9,⟨[(0,.one (.ptr 0 0))],[(0,ob1)]⟩,false,fun x=>aBu x⟩
def xH.con:Con:=⟨72,aUu,sh2,false,fun (x0,x1)=>xH x0 x1⟩
def pH.con:Con:=⟨86,aK6,bCm,false,fun (x0,x1,x2)=>pH (x0,x1,x2)⟩
def aE.con:Con:=⟨38,bAu,bCm,false,fun (x0,x1,x2,x3)=>aE (x1,x2,x3) x0⟩
def uY.con:Con:=⟨285,⟨[e6,e1],[(0,.row 3 1 ti false)]⟩,aFz,false,fun (x0,x1)=>uY x1 x0⟩
def gQ.con:Con:=⟨197,aWs,aFz,false,fun (x0,x1,x2)=>gQ (x0,x1) x2⟩
def tU.con:Con:=⟨308,⟨[e9,e1,e4,e7],[(1000000,.box [.row 0,.row 1]),o53,o54]⟩,⟨[],[o53,o54,(1000000,.box [.row 0,.row 1])]⟩,false,fun (x0,x1,x2,x3,x4)=>tU (x3,x4) x0 x1 x2⟩
def dJ.con:Con:=⟨37,bAu,⟨[e3],[o1]⟩,false,fun (x0,x1,x2,x3)=>dJ (x1,x2,x3) x0⟩
def aK.con:Con:=⟨126,bLn,sh1,false,fun (x0,x1,x2)=>aK x0 x1 x2⟩
def dN.con:Con:=⟨240,aWs,sh1,false,fun (x0,x1,x2)=>dN (x0,x1) x2⟩
def pI.con:Con:=⟨309,⟨[e5,(1,ag5)],[]⟩,sh1,false,fun (x0,x1,x2,x3,x4,x5,x6)=>pI (x0,x1) (x2,x3,x4,x5,x6)⟩
def vN.con:Con:=⟨226,aK6,⟨[(0,bJv)],[o23,o24,o1]⟩,false,fun (x0,x1,x2)=>vN (x0,x1,x2)⟩
def sY.con:Con:=⟨286,bIn,sh1,false,fun (x0,x1,x2,x3,x4,x5,x6)=>sY (x0,x1,x2,x3,x4) x5 x6⟩
def kF.con:Con:=⟨199,aNj,sh2,false,fun (x0,x1,x2,x3)=>kF (x0,x1) x2 x3⟩
def dR.con:Con:=⟨282,aNj,sh2,false,fun (x0,x1,x2,x3)=>dR (x0,x1) x2 x3⟩
def gY.con:Con:=⟨316,aNj,aFz,false,fun (x0,x1,x2,x3)=>gY (x0,x1) x2 x3⟩
def fU.con:Con:=⟨118,aNj,sh5,false,fun (x0,x1,x2,x3)=>fU (x0,x1) x2 x3⟩
def cY.con:Con:=⟨317,aIi,aFz,false,fun (x0,x1,x2)=>cY (x0,x1,x2)⟩
def fF.con:Con:=⟨198,bIy,sh1,false,fun (x0,x1)=>fF x0 x1⟩
def uW.con:Con:=⟨360,aRi,aFz,false,fun (x0,x1,x2,x3)=>uW (x0,x1,x2) x3⟩
def kV.con:Con:=⟨275,sh2,sh1,false,fun x=>kV x⟩
def rL.con:Con:=⟨301,sh5,sh2,false,fun (x0,x1)=>rL x0 x1⟩
def uL.con:Con:=⟨359,bA7,sh2,false,fun (x0,x1)=>uL x0 x1⟩
def gI.con:Con:=⟨315,aRi,sh2,false,fun (x0,x1,x2,x3)=>gI (x0,x1,x2) x3⟩
def aGm.con:Con:=⟨415,sh5,sh2,false,fun (x0,x1)=>aGm x0 x1⟩
def vI.con:Con:=⟨404,aNk,sh2,false,fun x=>vI x⟩
def tH.con:Con:=⟨388,bA7,sh2,false,fun (x0,x1)=>tH x0 x1⟩
def vR.con:Con:=⟨358,bH9,sh2,false,fun (x0,x1,x2,x3,x4,x5,x6,x7)=>vR x0 x1 x2 (x3,x4,x5,x6,x7)⟩
def fB.con:Con:=⟨314,bH9,aWf,false,fun (x0,x1,x2,x3,x4,x5,x6,x7)=>fB x0 x1 x2 (x3,x4,x5,x6,x7)⟩
def jE.con:Con:=⟨229,⟨[e9,(1,ag1),e4],[o1]⟩,⟨[(0,bSa)],[o20,o1]⟩,false,fun (x0,x1,x2,x3,x4,x5)=>jE (x3,x4,x5) (x0,x1) x2⟩
def fP.con:Con:=⟨183,aIi,bJb,false,fun (x0,x1,x2)=>fP (x0,x1,x2)⟩
def uP.con:Con:=⟨228,aWr,bJb,false,fun (x0,x1,x2,x3,x4)=>uP (x0,x1) (x2,x3,x4)⟩
def fD.con:Con:=⟨110,⟨[(0,bId)],[]⟩,aRh,false,fun x=>fD x⟩
def jM.con:Con:=⟨383,aWf,sh1,false,fun (x0,x1,x2,x3,x4)=>jM (x0,x1,x2,x3,x4)⟩
def iN.con:Con:=⟨355,aWr,sh1,false,fun (x0,x1,x2,x3,x4)=>iN (x0,x1) (x2,x3,x4)⟩
def fQ.con:Con:=⟨349,bSp,sh1,false,fun (x0,x1,x2,x3,x4,x5,x6,x7,x8)=>fQ (x0,x1) x2 x3 (x4,x5,x6,x7,x8)⟩
def gE.con:Con:=⟨356,aWr,sh2,false,fun (x0,x1,x2,x3,x4)=>gE (x0,x1) (x2,x3,x4)⟩
def cI.con:Con:=⟨264,aIi,sh2,false,fun (x0,x1,x2)=>cI (x0,x1,x2)⟩
def gF.con:Con:=⟨313,aWr,sh2,false,fun (x0,x1,x2,x3,x4)=>gF (x0,x1) (x2,x3,x4)⟩
def kS.con:Con:=⟨310,aWr,sh1,false,fun (x0,x1,x2,x3,x4)=>kS (x0,x1) (x2,x3,x4)⟩
def kR.con:Con:=⟨311,aIi,sh1,false,fun (x0,x1,x2)=>kR (x0,x1,x2)⟩
def iR.con:Con:=⟨403,bRw,sh1,false,fun (x0,x1)=>iR x0 x1⟩
def jI.con:Con:=⟨387,bD2,sh1,false,fun (x0,x1,x2,x3,x4,x5)=>jI (x0,x1,x2) (x3,x4,x5)⟩
def sW.con:Con:=⟨357,⟨[(0,bId),e29],[]⟩,sh1,false,fun (x0,x1,x2,x3)=>sW x0 (x1,x2,x3)⟩
def nI.con:Con:=⟨312,⟨[e46,e29],[]⟩,sh1,false,fun (x0,x1,x2,x3,x4)=>nI (x0,x1) (x2,x3,x4)⟩
def oB.con:Con:=⟨227,⟨[e5,e56,(2,ag4)],[]⟩,bR8,false,fun (x0,x1,x2,x3,x4,x5,x6)=>oB (x0,x1) (x2,x3) (x4,x5,x6)⟩
def uN.con:Con:=⟨341,sh2,sh1,false,fun x=>uN x⟩
def lA.con:Con:=⟨254,bBn,sh1,false,fun (x0,x1)=>lA (x0,x1)⟩
def qD.con:Con:=⟨109,bBn,bSg,false,fun (x0,x1)=>qD (x0,x1)⟩
def mP.con:Con:=⟨318,sh2,aQ8,false,fun x=>mP x⟩
def qX.con:Con:=⟨230,bIe,bLp,false,fun (x0,x1,x2,x3,x4,x5)=>qX (x0,x1) (x2,x3) x4 x5⟩
def eG.con:Con:=⟨265,aIi,sh2,false,fun (x0,x1,x2)=>eG (x0,x1,x2)⟩
def wT.con:Con:=⟨231,⟨[e9,e56],[o1]⟩,⟨[e2,e1],[o1]⟩,false,fun (x0,x1,x2,x3,x4)=>wT (x2,x3,x4) (x0,x1)⟩
def oE.con:Con:=⟨89,⟨[e9,e49],[o1]⟩,bCm,false,fun (x0,x1,x2,x3)=>oE (x1,x2,x3) x0⟩
def yP.con:Con:=⟨232,bLn,aKv,false,fun (x0,x1,x2)=>yP x0 x1 x2⟩
def dP.con:Con:=⟨170,bAu,⟨[e6],[o31,o1]⟩,false,fun (x0,x1,x2,x3)=>dP (x1,x2,x3) x0⟩
def pS.con:Con:=⟨272,⟨[(0,bDz)],[]⟩,⟨[e6],[o9]⟩,false,fun x=>pS x⟩
def oN.con:Con:=⟨54,bBe,aWw,false,fun (x0,x1,x2,x3)=>oN (x0,x1,x2,x3)⟩
def iF.con:Con:=⟨133,sh6,aKc,false,fun x=>iF x⟩
def wX.con:Con:=⟨273,aHe,aNi,false,fun x=>wX x⟩
def eL.con:Con:=⟨185,aHf,aKv,false,fun (x0,x1,x2,x3,x4,x5,x6,x7,x8)=>eL (x0,x1,x2,x3,x4,x5,x6,x7,x8)⟩
def aAs.con:Con:=⟨291,sh5,sh2,false,fun (x0,x1)=>aAs x0 x1⟩
def bV.con:Con:=⟨135,bAk,sh1,false,fun (x0,x1,x2)=>bV (x0,x1,x2)⟩
def mB.con:Con:=⟨257,aHf,sh1,false,fun (x0,x1,x2,x3,x4,x5,x6,x7,x8)=>mB (x0,x1,x2,x3,x4,x5,x6,x7,x8)⟩
def pY.con:Con:=⟨233,bT2,bQ6,false,fun (x0,x1,x2,x3,x4,x5,x6,x7,x8,x9)=>pY (x0,x1,x2,x3,x4,x5,x6,x7,x8) x9⟩
def hO.con:Con:=⟨111,⟨[e39],[]⟩,aQ8,false,fun (x0,x1,x2)=>hO (x0,x1,x2)⟩
def fJ.con:Con:=⟨184,sh7,aHa,false,fun (x0,x1,x2,x3,x4,x5,x6,x7,x8,x9)=>fJ (x0,x1,x2,x3,x4,x5,x6,x7,x8,x9)⟩
def tE.con:Con:=⟨112,⟨[(0,.one (.var (.sl tFy)))],[]⟩,⟨[e6],[(0,aCf)]⟩,false,fun x=>tE x⟩
def nO.con:Con:=⟨113,⟨[(0,.one (.var (.sl tFl)))],[]⟩,⟨[e6],[(0,aHj)]⟩,false,fun x=>nO x⟩
def sK.con:Con:=⟨186,bKs,aXe,false,fun (x0,x1,x2,x3)=>sK (x0,x1,x2,x3)⟩
def nZ.con:Con:=⟨114,⟨[(0,bSk)],[]⟩,⟨[e6],[(0,aEc)]⟩,false,fun x=>nZ x⟩
def qB.con:Con:=⟨48,bKp,bLp,false,fun (x0,x1,x2,x3,x4,x5,x6,x7,x8,x9,x10,x11,x12)=>qB ((x0,x1),(x2,x3),(x4,x5,x6),x7,x8,x9,x10,x11,x12)⟩
def lR.con:Con:=⟨201,bRx,sh2,false,fun (x0,x1,x2)=>lR x0 x1 x2⟩
def dI.con:Con:=⟨392,⟨[e46,e1],[]⟩,aRh,false,fun (x0,x1,x2)=>dI (x0,x1) x2⟩
def nL.con:Con:=⟨409,aRi,sh2,false,fun (x0,x1,x2,x3)=>nL (x0,x1,x2) x3⟩
def dF.con:Con:=⟨278,sh2,sh1,false,fun x=>dF x⟩
def bM.con:Con:=⟨263,⟨[e15,e1,e4],[]⟩,aWw,false,fun (x0,x1,x2,x3,x4)=>bM (x0,x1,x2) x3 x4⟩
def nW.con:Con:=⟨410,bKx,aRh,false,fun (x0,x1,x2,x3)=>nW (x0,x1) x2 x3⟩
def lZ.con:Con:=⟨411,bSu,aKc,false,fun (x0,x1,x2,x3,x4,x5,x6,x7,x8,x9)=>lZ (x0,x1,x2) (x3,x4,x5) x6 (x7,x8,x9)⟩
def iI.con:Con:=⟨394,bRn,aNi,false,fun (x0,x1,x2,x3,x4,x5,x6,x7,x8,x9)=>iI (x0,x1) (x2,x3,x4) x5 x6 (x7,x8,x9)⟩
def tW.con:Con:=⟨391,bKx,aNi,false,fun (x0,x1,x2,x3)=>tW (x0,x1) x2 x3⟩
def jA.con:Con:=⟨262,bD2,aKc,false,fun (x0,x1,x2,x3,x4,x5)=>jA (x0,x1,x2) (x3,x4,x5)⟩
def iM.con:Con:=⟨393,bD2,aKc,false,fun (x0,x1,x2,x3,x4,x5)=>iM (x0,x1,x2) (x3,x4,x5)⟩
def mV.con:Con:=⟨363,bIe,aNi,false,fun (x0,x1,x2,x3,x4,x5)=>mV (x0,x1) (x2,x3) x4 x5⟩
def sC.con:Con:=⟨384,bBe,aFz,false,fun (x0,x1,x2,x3)=>sC (x0,x1,x2,x3)⟩
def dH.con:Con:=⟨194,aNb,sh2,false,fun (x0,x1,x2,x3,x4)=>dH (x0,x1,x2,x3) x4⟩
def eU.con:Con:=⟨190,aNb,sh2,false,fun (x0,x1,x2,x3,x4)=>eU (x0,x1,x2,x3) x4⟩
def sM.con:Con:=⟨347,bBi,sh1,false,fun (x0,x1,x2,x3,x4,x5)=>sM (x0,x1) (x2,x3,x4,x5)⟩
def uG.con:Con:=⟨348,sh2,sh2,false,fun x=>uG x⟩
def jZ.con:Con:=⟨276,aQl,sh1,false,fun (x0,x1,x2)=>jZ (x0,x1) x2⟩
def eJ.con:Con:=⟨121,sh6,bLo,false,fun x=>eJ x⟩
def fT.con:Con:=⟨277,sh6,aFz,false,fun x=>fT x⟩
def mE.con:Con:=⟨188,aQl,sh1,false,fun (x0,x1,x2)=>mE (x0,x1) x2⟩
def vP.con:Con:=⟨300,sh5,sh2,false,fun (x0,x1)=>vP x0 x1⟩
def gU.con:Con:=⟨215,aNb,sh2,false,fun (x0,x1,x2,x3,x4)=>gU (x0,x1,x2,x3) x4⟩
def wQ.con:Con:=⟨416,aNb,sh2,false,fun (x0,x1,x2,x3,x4)=>wQ (x0,x1,x2,x3) x4⟩
def oC.con:Con:=⟨412,bBi,sh1,false,fun (x0,x1,x2,x3,x4,x5)=>oC (x0,x1) (x2,x3,x4,x5)⟩
def pX.con:Con:=⟨395,aQl,sh1,false,fun (x0,x1,x2)=>pX (x0,x1) x2⟩
def lY.con:Con:=⟨350,⟨[e40,e1],[]⟩,sh1,false,fun (x0,x1,x2,x3,x4,x5)=>lY (x0,x1,x2,x3,x4) x5⟩
def qU.con:Con:=⟨364,⟨[e5,e23,e4],[]⟩,sh1,false,fun (x0,x1,x2,x3)=>qU (x0,x1) x2 x3⟩
def jV.con:Con:=⟨413,bTe,sh1,false,fun (x0,x1,x2,x3,x4,x5,x6,x7)=>jV (x0,x1,x2,x3) (x4,x5,x6,x7)⟩
def iQ.con:Con:=⟨396,bCi,sh1,false,fun (x0,x1)=>iQ x0 x1⟩
def wR.con:Con:=⟨365,⟨[e38,e23],[]⟩,sh1,false,fun (x0,x1)=>wR x0 x1⟩
def kE.con:Con:=⟨320,bT5,aHe,false,fun (x0,x1,x2,x3,x4,x5,x6)=>kE (x0,x1) (x2,x3) x4 x5 x6⟩
def mC.con:Con:=⟨406,sh6,sh2,false,fun x=>mC x⟩
def jS.con:Con:=⟨407,sh6,sh2,false,fun x=>jS x⟩
def nY.con:Con:=⟨408,sh6,sh2,false,fun x=>nY x⟩
def qV.con:Con:=⟨390,bCi,sh1,false,fun (x0,x1)=>qV x0 x1⟩
def sE.con:Con:=⟨362,aHe,aHe,false,fun x=>sE x⟩
def gC.con:Con:=⟨405,⟨[e45,e1],[]⟩,bDt,false,fun (x0,x1)=>gC x0 x1⟩
def qA.con:Con:=⟨294,⟨[e13,e62],[]⟩,sh1,false,fun (x0,x1,x2,x3)=>qA x0 (x1,x2,x3)⟩
def tY.con:Con:=⟨389,⟨[e45,e23,e4],[]⟩,sh1,false,fun (x0,x1,x2)=>tY x0 x1 x2⟩
def iZ.con:Con:=⟨361,bTs,aNi,false,fun (x0,x1,x2)=>iZ x0 x1 x2⟩
def yJ.con:Con:=⟨60,sh5,sh2,false,fun (x0,x1)=>yJ x0 x1⟩
def pM.con:Con:=⟨319,bRe,⟨[(0,.agg [.var ti,.var ti,.var ti,.var ti,.row 0,.var (.sl tPt),.var ti,.var ti,.row 1])],[o9,(1,aCp)]⟩,false,fun (x0,x1,x2,x3,x4,x5,x6,x7,x8,x9,x10)=>pM (x0,x1,x2,x3,x4,x5,x6,x7,x8) x9 x10⟩
def xL.con:Con:=⟨168,sh5,aXe,false,fun (x0,x1)=>xL x0 x1⟩
def wS.con:Con:=⟨234,⟨[e57,(1,ag6)],[]⟩,⟨[e51,e26],[o23,o24,o35,o36,o37,o38,o21,o39,(8,ow1),o40]⟩,false,fun (x0,x1,x2,x3,x4,x5,x6,x7,x8,x9,x10,x11,x12,x13,x14,x15,x16,x17,x18,x19,x20,x21)=>wS ((x0,x1),(x2,x3),(x4,x5,x6),x7,x8,x9,x10,x11,x12) (x13,x14,x15,x16,x17,x18,x19,x20,x21)⟩
def oQ.con:Con:=⟨321,sh6,bLo,false,fun x=>oQ x⟩
def qE.con:Con:=⟨366,⟨[e34,(1,ag5)],[]⟩,bB0,false,fun (x0,x1,x2,x3,x4,x5)=>qE x0 (x1,x2,x3,x4,x5)⟩
def hH.con:Con:=⟨367,aWf,sh1,false,fun (x0,x1,x2,x3,x4)=>hH (x0,x1,x2,x3,x4)⟩
def xX.con:Con:=⟨290,⟨[e40,e1,e4,e7],[]⟩,sh1,false,fun (x0,x1,x2,x3,x4,x5,x6,x7)=>xX (x0,x1,x2,x3,x4) x5 x6 x7⟩
def iU.con:Con:=⟨292,bTb,sh2,false,fun (x0,x1,x2,x3)=>iU x0 x1 x2 x3⟩
def aBc.con:Con:=⟨322,⟨[e34,(1,ag5),e4,e7],[]⟩,⟨[e6,e26],[o12]⟩,false,fun (x0,x1,x2,x3,x4,x5,x6,x7)=>aBc x0 (x1,x2,x3,x4,x5) x6 x7⟩
def dB.con:Con:=⟨235,⟨[e34,e1,(2,ag3),e7,e11,e8,e17],[]⟩,⟨[e6,e26],[o12]⟩,false,fun (x0,x1,x2,x3,x4,x5,x6)=>dB x0 x1 x2 x3 x4 x5 x6⟩
def yW.con:Con:=⟨151,aK6,⟨[e51],[o23,o24,o35,o36,o37,o38,o21,o39,(8,ow1),o40,o1]⟩,false,fun (x0,x1,x2)=>yW (x0,x1,x2)⟩
def rY.con:Con:=⟨169,aK6,⟨[e5,(1,bTm)],[o6,o1]⟩,false,fun (x0,x1,x2)=>rY (x0,x1,x2)⟩
def rX.con:Con:=⟨132,sh6,sh5,false,fun x=>rX x⟩
def cJ.con:Con:=⟨61,bRa,aHa,false,fun (x0,x1,x2,x3,x4)=>cJ x0 x1 x2 x3 x4⟩
def wW.con:Con:=⟨87,aK6,⟨[e5,(1,ag8)],[o6,o8,o1]⟩,false,fun (x0,x1,x2)=>wW (x0,x1,x2)⟩
def mO.con:Con:=⟨88,aK6,bCm,false,fun (x0,x1,x2)=>mO (x0,x1,x2)⟩
def zE.con:Con:=⟨90,aK6,⟨[(0,.agg [.any,.any]),e23],[o1]⟩,false,fun (x0,x1,x2)=>zE (x0,x1,x2)⟩
def zH.con:Con:=⟨39,aK6,⟨[e5,(1,.agg [.var ti,.var ti,.var ti,.var (.sl tPp),.var ti,.var ti,.var ti,.var ti,.var ti,.row 0])],[o31,o1]⟩,false,fun (x0,x1,x2)=>zH (x0,x1,x2)⟩
def sA.con:Con:=⟨346,aIi,sh1,false,fun (x0,x1,x2)=>sA (x0,x1,x2)⟩
def lC.con:Con:=⟨274,sh6,sh1,false,fun x=>lC x⟩
def iP.con:Con:=⟨187,sh7,sh1,false,fun (x0,x1,x2,x3,x4,x5,x6,x7,x8,x9)=>iP (x0,x1,x2,x3,x4,x5,x6,x7,x8,x9)⟩
def nS.con:Con:=⟨368,⟨[e57,e1,e4],[]⟩,sh1,false,fun (x0,x1,x2,x3,x4,x5,x6,x7,x8,x9,x10,x11,x12,x13,x14)=>nS ((x0,x1),(x2,x3),(x4,x5,x6),x7,x8,x9,x10,x11,x12) x13 x14⟩
def sU.con:Con:=⟨343,bT8,sh1,false,fun (x0,x1)=>sU x0 x1⟩
def kM.con:Con:=⟨369,⟨[e20,e30],[]⟩,sh1,false,fun (x0,x1,x2,x3,x4,x5,x6,x7,x8,x9,x10,x11,x12,x13,x14,x15,x16,x17,x18,x19)=>kM (x0,x1,x2,x3,x4,x5,x6,x7,x8,x9) (x10,x11,x12,x13,x14,x15,x16,x17,x18,x19)⟩
def pL.con:Con:=⟨323,bUa,sh1,false,fun (x0,x1,x2,x3,x4,x5,x6,x7,x8,x9,x10,x11,x12,x13,x14,x15,x16,x17,x18,x19,x20,x21,x22,x23,x24,x25,x26,x27)=>pL ((x0,x1),(x2,x3),(x4,x5,x6),x7,x8,x9,x10,x11,x12) (x13,x14,x15,(x16,x17,(x18,x19,x20,x21,x22,x23,x24,x25,x26,x27)))⟩
def fI.con:Con:=⟨370,⟨[e34,e1],[]⟩,bB0,false,fun (x0,x1)=>fI x0 x1⟩
def vC.con:Con:=⟨324,bJq,aQ8,false,fun (x0,x1,x2,x3)=>vC (x0,x1,x2) x3⟩
def eI.con:Con:=⟨371,aHf,aQx,false,fun (x0,x1,x2,x3,x4,x5,x6,x7,x8)=>eI (x0,x1,x2,x3,x4,x5,x6,x7,x8)⟩
def sD.con:Con:=⟨295,aHf,aKv,false,fun (x0,x1,x2,x3,x4,x5,x6,x7,x8)=>sD (x0,x1,x2,x3,x4,x5,x6,x7,x8)⟩
def uD.con:Con:=⟨325,aHf,bNt,false,fun (x0,x1,x2,x3,x4,x5,x6,x7,x8)=>uD (x0,x1,x2,x3,x4,x5,x6,x7,x8)⟩
def oJ.con:Con:=⟨49,aRe,aF3,false,fun (x0,x1,x2,x3,x4,x5,x6,x7,x8,x9,x10,x11,x12,x13,x14,x15,x16,x17,x18,x19,x20,x21,x22,x23,x24)=>oJ ((x12,x13),(x14,x15),(x16,x17,x18),x19,x20,x22,x23,x24,x21) x0 x1 (x2,x3,x4,x5,x6,x7,x8,x9,x10,x11)⟩
def pJ.con:Con:=⟨283,sh2,sh1,false,fun x=>pJ x⟩
def xT.con:Con:=⟨284,sh2,sh1,false,fun x=>xT x⟩
def qN.con:Con:=⟨200,sh5,sh2,false,fun (x0,x1)=>qN x0 x1⟩
def eO.con:Con:=⟨116,⟨[e5,e49,e4],[]⟩,sh2,false,fun (x0,x1,x2,x3)=>eO (x0,x1) x2 x3⟩
def dX.con:Con:=⟨53,sh7,sh2,false,fun (x0,x1,x2,x3,x4,x5,x6,x7,x8,x9)=>dX (x0,x1,x2,x3,x4,x5,x6,x7,x8,x9)⟩
def sT.con:Con:=⟨189,⟨[e2,e30],[]⟩,bNc,false,fun (x0,x1,x2,x3,x4,x5,x6,x7,x8,x9,x10)=>sT x0 (x1,x2,x3,x4,x5,x6,x7,x8,x9,x10)⟩
def iC.con:Con:=⟨279,⟨[e5,e30],[]⟩,aQx,false,fun (x0,x1,x2,x3,x4,x5,x6,x7,x8,x9,x10,x11)=>iC (x0,x1) (x2,x3,x4,x5,x6,x7,x8,x9,x10,x11)⟩
def iX.con:Con:=⟨280,bJd,sh1,false,fun (x0,x1,x2,x3,x4,x5,x6,x7,x8,x9,x10)=>iX (x0,x1,x2,x3,x4,x5,x6,x7,x8,x9) x10⟩
def nP.con:Con:=⟨191,bMm,⟨[e25,e1],[o6,o8]⟩,false,fun (x0,x1,x2,x3,x4,x5,x6,x7,x8,x9,x10,x11,x12)=>nP (x0,x1) x2 (x3,x4,x5,x6,x7,x8,x9,x10,x11,x12)⟩
def lW.con:Con:=⟨193,sh7,sh1,false,fun (x0,x1,x2,x3,x4,x5,x6,x7,x8,x9)=>lW (x0,x1,x2,x3,x4,x5,x6,x7,x8,x9)⟩
def gJ.con:Con:=⟨192,sh7,aHa,false,fun (x0,x1,x2,x3,x4,x5,x6,x7,x8,x9)=>gJ (x0,x1,x2,x3,x4,x5,x6,x7,x8,x9)⟩
def jW.con:Con:=⟨281,sh5,sh1,false,fun (x0,x1)=>jW x0 x1⟩
def oO.con:Con:=⟨195,⟨[e5,e62],[]⟩,sh1,false,fun (x0,x1,x2,x3,x4)=>oO (x0,x1) (x2,x3,x4)⟩
def uT.con:Con:=⟨196,sh5,sh1,false,fun (x0,x1)=>uT x0 x1⟩
def sO.con:Con:=⟨115,bMv,bNc,false,fun (x0,x1,x2,x3,x4,x5,x6,x7,x8,x9,x10,x11,x12,x13,x14,x15)=>sO (x0,x1) x2 x3 x4 x5 (x6,x7,x8,x9,x10,x11,x12,x13,x14,x15)⟩
def vK.con:Con:=⟨287,aQk,sh1,false,fun (x0,x1,x2,x3,x4,x5,x6,x7,x8,x9,x10,x11,x12,x13)=>vK (x0,x1,x2,x3) (x4,x5,x6,x7,x8,x9,x10,x11,x12,x13)⟩
def nV.con:Con:=⟨202,aQk,aXe,false,fun (x0,x1,x2,x3,x4,x5,x6,x7,x8,x9,x10,x11,x12,x13)=>nV (x0,x1,x2,x3) (x4,x5,x6,x7,x8,x9,x10,x11,x12,x13)⟩
def mJ.con:Con:=⟨214,sh2,sh2,false,fun x=>mJ x⟩
def oM.con:Con:=⟨134,bBe,aWw,false,fun (x0,x1,x2,x3)=>oM (x0,x1,x2,x3)⟩
def kI.con:Con:=⟨62,sh6,aKc,false,fun x=>kI x⟩
def aBh.con:Con:=⟨288,bOi,aHa,false,fun (x0,x1,x2,x3,x4,x5,x6,x7,x8,x9,x10,x11,x12)=>aBh (x0,x1,x2,x3,x4,x5,x6,x7,x8,x9) x10 x11 x12⟩
def tV.con:Con:=⟨203,aQk,aQx,false,fun (x0,x1,x2,x3,x4,x5,x6,x7,x8,x9,x10,x11,x12,x13)=>tV (x0,x1,x2,x3) (x4,x5,x6,x7,x8,x9,x10,x11,x12,x13)⟩
def pU.con:Con:=⟨204,⟨[e22,e30],[]⟩,aKv,false,fun (x0,x1,x2,x3,x4,x5,x6,x7,x8,x9,x10,x11,x12,x13,x14,x15,x16,x17,x18)=>pU (x0,x1,x2,x3,x4,x5,x6,x7,x8) (x9,x10,x11,x12,x13,x14,x15,x16,x17,x18)⟩
def qI.con:Con:=⟨385,aUu,⟨[e2,e1,e16],[]⟩,false,fun (x0,x1)=>qI x0 x1⟩
def qL.con:Con:=⟨351,⟨[e19,e1,e4],[]⟩,bL0,false,fun (x0,x1,x2)=>qL x0 x1 x2⟩
def hP.con:Con:=⟨293,sh9,⟨[e61,e26],[]⟩,false,fun x=>hP x⟩
def lB.con:Con:=⟨296,⟨[e45,e62],[]⟩,⟨[e45],[]⟩,false,fun (x0,x1,x2,x3)=>lB x0 (x1,x2,x3)⟩
def iD.con:Con:=⟨209,⟨[e22,e30,e4],[]⟩,⟨[(0,.agg [.var ti,.var ti,.var ti,.var ti,.row 0,.row 1,.var ti,.var ti,.var (.sl tRv)])],[o9,o15]⟩,false,fun (x0,x1,x2,x3,x4,x5,x6,x7,x8,x9,x10,x11,x12,x13,x14,x15,x16,x17,x18,x19)=>iD (x0,x1,x2,x3,x4,x5,x6,x7,x8) (x9,x10,x11,x12,x13,x14,x15,x16,x17,x18) x19⟩
def mQ.con:Con:=⟨122,bAt,aF3,false,fun (x0,x1,x2,x3,x4,x5,x6,x7,x8,x9,x10,x11,x12,x13,x14,x15,x16,x17,x18,x19,x20,x21,x22,x23)=>mQ ((x11,x12),(x13,x14),(x15,x16,x17),x18,x19,x21,x22,x23,x20) x0 (x1,x2,x3,x4,x5,x6,x7,x8,x9,x10)⟩
def rZ.con:Con:=⟨117,bAt,aF3,false,fun (x0,x1,x2,x3,x4,x5,x6,x7,x8,x9,x10,x11,x12,x13,x14,x15,x16,x17,x18,x19,x20,x21,x22,x23)=>rZ ((x11,x12),(x13,x14),(x15,x16,x17),x18,x19,x21,x22,x23,x20) x0 (x1,x2,x3,x4,x5,x6,x7,x8,x9,x10)⟩
def pK.con:Con:=⟨289,⟨[(0,.one (.var (.sl tUs))),e1,e4,e7],[]⟩,sh2,false,fun (x0,x1,x2,x3)=>pK x0 x1 x2 x3⟩
def pW.con:Con:=⟨205,bDi,sh2,false,fun (x0,x1,x2,x3,x4,x5)=>pW (x0,x1,x2) x3 x4 x5⟩
def iY.con:Con:=⟨206,bDq,sh2,false,fun (x0,x1,x2,x3,x4)=>iY x0 x1 x2 x3 x4⟩
def tX.con:Con:=⟨207,bDi,aQ8,false,fun (x0,x1,x2,x3,x4,x5)=>tX (x0,x1,x2) x3 x4 x5⟩
def uX.con:Con:=⟨208,bDq,sh2,false,fun (x0,x1,x2,x3,x4)=>uX x0 x1 x2 x3 x4⟩
def rS.con:Con:=⟨119,bIq,bL2,false,fun (x0,x1,x2,x3,x4,x5,x6)=>rS (x0,x1,x2) x3 x4 x5 x6⟩
def sN.con:Con:=⟨120,sh7,sh2,false,fun (x0,x1,x2,x3,x4,x5,x6,x7,x8,x9)=>sN (x0,x1,x2,x3,x4,x5,x6,x7,x8,x9)⟩
def gR.con:Con:=⟨16,sh7,bKc,false,fun (x0,x1,x2,x3,x4,x5,x6,x7,x8,x9)=>gR (x0,x1,x2,x3,x4,x5,x6,x7,x8,x9)⟩
def mX.con:Con:=⟨216,aUu,aW2,false,fun (x0,x1)=>mX x0 x1⟩
def qO.con:Con:=⟨136,aNk,aW2,false,fun x=>qO x⟩
def iA.con:Con:=⟨63,bAk,aW2,false,fun (x0,x1,x2)=>iA (x0,x1,x2)⟩
def fR.con:Con:=⟨19,bNo,aHa,false,fun (x0,x1,x2,x3,x4,x5,x6,x7,x8,x9,x10,x11,x12,x13,x14)=>fR (x0,x1) x2 x3 x4 (x5,x6,x7,x8,x9,x10,x11,x12,x13,x14)⟩
def gG.con:Con:=⟨49,aRe,aF3,false,fun (x0,x1,x2,x3,x4,x5,x6,x7,x8,x9,x10,x11,x12,x13,x14,x15,x16,x17,x18,x19,x20,x21,x22,x23,x24)=>gG ((x12,x13),(x14,x15),(x16,x17,x18),x19,x20,x22,x23,x24,x21) x0 x1 (x2,x3,x4,x5,x6,x7,x8,x9,x10,x11)⟩
def jC.con:Con:=⟨117,bAt,aF3,false,fun (x0,x1,x2,x3,x4,x5,x6,x7,x8,x9,x10,x11,x12,x13,x14,x15,x16,x17,x18,x19,x20,x21,x22,x23)=>jC ((x11,x12),(x13,x14),(x15,x16,x17),x18,x19,x21,x22,x23,x20) x0 (x1,x2,x3,x4,x5,x6,x7,x8,x9,x10)⟩
def dZ.con:Con:=⟨49,aRe,aF3,false,fun (x0,x1,x2,x3,x4,x5,x6,x7,x8,x9,x10,x11,x12,x13,x14,x15,x16,x17,x18,x19,x20,x21,x22,x23,x24)=>dZ ((x12,x13),(x14,x15),(x16,x17,x18),x19,x20,x22,x23,x24,x21) x0 x1 (x2,x3,x4,x5,x6,x7,x8,x9,x10,x11)⟩
def uA.con:Con:=⟨237,bNp,aQ5,false,fun (x0,x1,x2,x3,x4,x5,x6,x7,x8,x9,x10,x11,x12)=>uA ((x0,x1),(x2,x3),(x4,x5,x6),x7,x8,x10,x11,x12,x9)⟩
def uC.con:Con:=⟨238,bM0,bN7,false,fun (x0,x1,x2,x3,x4,x5,x6,x7,x8,x9,x10,x11,x12,x13)=>uC ((x1,x2),(x3,x4),(x5,x6,x7),x8,x9,x11,x12,x13,x10) x0⟩
def wV.con:Con:=⟨239,⟨[e9,e1,e16],[o4,o3,o2,o5]⟩,aQ5,false,fun (x0,x1,x2,x3,x4,x5,x6,x7,x8,x9,x10,x11,x12,x13,x14)=>wV ((x2,x3),(x4,x5),(x6,x7,x8),x9,x10,x12,x13,x14,x11) x0 x1⟩
def yO.con:Con:=⟨241,bKy,aQ5,false,fun (x0,x1,x2,x3,x4,x5,x6,x7,x8,x9,x10,x11,x12,x13,x14,x15,x16,x17,x18,x19,x20,x21,x22,x23,x24,x25,x26,x27)=>yO ((x15,x16),(x17,x18),(x19,x20,x21),x22,x23,x25,x26,x27,x24) (x0,x1,x2,(x3,x4,(x5,x6,x7,x8,x9,x10,x11,x12,x13,x14)))⟩
def aBd.con:Con:=⟨153,bKy,aQ5,false,fun (x0,x1,x2,x3,x4,x5,x6,x7,x8,x9,x10,x11,x12,x13,x14,x15,x16,x17,x18,x19,x20,x21,x22,x23,x24,x25,x26,x27)=>aBd ((x15,x16),(x17,x18),(x19,x20,x21),x22,x23,x25,x26,x27,x24) (x0,x1,x2,(x3,x4,(x5,x6,x7,x8,x9,x10,x11,x12,x13,x14)))⟩
def nN.con:Con:=⟨236,bL9,⟨[(0,.agg [.var ti,.var ti,.row 1,.var ti,.var ti,.var ti,.var ti,.var ti,.var (.sl tPp),.var ti,.var ti,.var ti,.var ti,.var ti,.row 0])],[o31,o8,o1,o47,o48,o49]⟩,false,fun (x0,x1,x2,x3,x4,x5,x6,x7,x8,x9,x10,x11,x12,x13,x14,x15)=>nN (x10,x11,x12) ((x0,x1),(x2,x3),(x4,x5,x6),x7,x8,x13,x14,x15,x9)⟩
def sP.con:Con:=⟨152,bL9,⟨[(0,.agg [.var ti,.var ti,.row 0,.var ti,.var ti,.var ti,.var ti,.var ti,.var (.sl tPp),.var ti,.var ti,.var ti,.var ti,.var ti,.row 1])],[o31,o8,o1,o47,o48,o49]⟩,false,fun (x0,x1,x2,x3,x4,x5,x6,x7,x8,x9,x10,x11,x12,x13,x14,x15)=>sP (x10,x11,x12) ((x0,x1),(x2,x3),(x4,x5,x6),x7,x8,x13,x14,x15,x9)⟩
def yV.con:Con:=⟨71,bAu,⟨[e51,e72,(2,.agg [.var (.sl tAS),.var (.sl tLk),.var (.sl tSg),.var (.sl tSg),.var ti,.var (.sl tRs),.var (.sl tUs),.var ti,.var (.sl ti),.row 10,.row 11,.row 12,.var ti])],[o23,o24,o35,o36,o37,o38,o21,o39,(8,ow1),o40,(10,ow5),(11,ow1),(12,ow7),o1]⟩,false,fun (x0,x1,x2,x3)=>yV (x1,x2,x3) x0⟩
def qT.con:Con:=⟨25,sh9,⟨[e51,e72],[o23,o24,o35,o36,o37,o38,o21,o39,(8,ow1),o40]⟩,false,fun x=>qT x⟩
def bC.con:Con:=⟨75,bLn,sh1,false,fun (x0,x1,x2)=>bC x0 x1 x2⟩
def vA.con:Con:=⟨159,sh2,sh1,false,fun x=>vA x⟩
def jK.con:Con:=⟨77,aWs,sh1,false,fun (x0,x1,x2)=>jK (x0,x1) x2⟩
def yY.con:Con:=⟨160,⟨[e5,(1,ag5)],[]⟩,sh1,false,fun (x0,x1,x2,x3,x4,x5,x6)=>yY (x0,x1) (x2,x3,x4,x5,x6)⟩
def fH.con:Con:=⟨149,bIn,sh1,false,fun (x0,x1,x2,x3,x4,x5,x6)=>fH (x0,x1,x2,x3,x4) x5 x6⟩
def kY.con:Con:=⟨74,bBn,sh1,false,fun (x0,x1)=>kY (x0,x1)⟩
def bU.con:Con:=⟨130,bAk,sh1,false,fun (x0,x1,x2)=>bU (x0,x1,x2)⟩
def iG.con:Con:=⟨249,aWf,sh1,false,fun (x0,x1,x2,x3,x4)=>iG (x0,x1,x2,x3,x4)⟩
def eD.con:Con:=⟨251,bIn,sh1,false,fun (x0,x1,x2,x3,x4,x5,x6)=>eD (x0,x1,x2,x3,x4) x5 x6⟩
def iV.con:Con:=⟨250,bTb,sh2,false,fun (x0,x1,x2,x3)=>iV x0 x1 x2 x3⟩
def gB.con:Con:=⟨161,⟨[e34,e1,e4],[]⟩,sh1,false,fun (x0,x1,x2)=>gB x0 x1 x2⟩
def oS.con:Con:=⟨162,bDi,sh2,false,fun (x0,x1,x2,x3,x4,x5)=>oS (x0,x1,x2) x3 x4 x5⟩
def aEh.con:Con:=⟨340,sh5,sh2,false,fun (x0,x1)=>aEh x0 x1⟩
def uS.con:Con:=⟨252,bDq,sh2,false,fun (x0,x1,x2,x3,x4)=>uS x0 x1 x2 x3 x4⟩
def jD.con:Con:=⟨253,bDq,sh2,false,fun (x0,x1,x2,x3,x4)=>jD x0 x1 x2 x3 x4⟩
def vD.con:Con:=⟨163,bIq,sh2,false,fun (x0,x1,x2,x3,x4,x5,x6)=>vD (x0,x1,x2) x3 x4 x5 x6⟩
def kA.con:Con:=⟨76,bJq,sh1,false,fun (x0,x1,x2,x3)=>kA (x0,x1,x2) x3⟩
def lP.con:Con:=⟨78,aHf,sh1,false,fun (x0,x1,x2,x3,x4,x5,x6,x7,x8)=>lP (x0,x1,x2,x3,x4,x5,x6,x7,x8)⟩
def qM.con:Con:=⟨79,bKs,sh1,false,fun (x0,x1,x2,x3)=>qM (x0,x1,x2,x3)⟩
def tC.con:Con:=⟨164,bT8,sh1,false,fun (x0,x1)=>tC x0 x1⟩
def lE.con:Con:=⟨80,⟨[(0,bDz),(1,bDz)],[]⟩,sh1,false,fun (x0,x1)=>lE x0 x1⟩
def eW.con:Con:=⟨28,⟨[e22,(1,bR3)],[]⟩,sh1,false,fun (x0,x1,x2,x3,x4,x5,x6,x7,x8,x9,x10,x11,x12)=>eW (x0,x1,x2,x3,x4,x5,x6,x7,x8) (x9,x10,x11,x12)⟩
def iS.con:Con:=⟨27,bKp,sh1,false,fun (x0,x1,x2,x3,x4,x5,x6,x7,x8,x9,x10,x11,x12)=>iS ((x0,x1),(x2,x3),(x4,x5,x6),x7,x8,x9,x10,x11,x12)⟩
def mY.con:Con:=⟨91,bBn,bSg,false,fun (x0,x1)=>mY (x0,x1)⟩
def kO.con:Con:=⟨125,aWc,bJz,false,fun x=>kO x⟩
def gH.con:Con:=⟨266,aIi,bJb,false,fun (x0,x1,x2)=>gH (x0,x1,x2)⟩
def kU.con:Con:=⟨171,⟨[(0,bId)],[]⟩,aRh,false,fun x=>kU x⟩
def pE.con:Con:=⟨92,⟨[e46],[]⟩,bR8,false,fun (x0,x1)=>pE (x0,x1)⟩
def eN.con:Con:=⟨172,⟨[e34],[]⟩,bB0,false,fun x=>eN x⟩
def eV.con:Con:=⟨93,⟨[e39],[]⟩,aQ8,false,fun (x0,x1,x2)=>eV (x0,x1,x2)⟩
def pT.con:Con:=⟨94,aNk,aFz,false,fun x=>pT x⟩
def eH.con:Con:=⟨52,sh6,aKc,false,fun x=>eH x⟩
def eA.con:Con:=⟨127,sh9,aW2,false,fun x=>eA x⟩
def dO.con:Con:=⟨95,sh7,aHa,false,fun (x0,x1,x2,x3,x4,x5,x6,x7,x8,x9)=>dO (x0,x1,x2,x3,x4,x5,x6,x7,x8,x9)⟩
def iT.con:Con:=⟨173,⟨[(0,bDz)],[]⟩,⟨[e6],[o9]⟩,false,fun x=>iT x⟩
def rW.con:Con:=⟨174,aHe,aNi,false,fun x=>rW x⟩
def eE.con:Con:=⟨175,⟨[e45],[]⟩,bDt,false,fun x=>eE x⟩
def eF.con:Con:=⟨96,aHf,aKv,false,fun (x0,x1,x2,x3,x4,x5,x6,x7,x8)=>eF (x0,x1,x2,x3,x4,x5,x6,x7,x8)⟩
def nF.con:Con:=⟨97,bKs,aXe,false,fun (x0,x1,x2,x3)=>nF (x0,x1,x2,x3)⟩
def iL.con:Con:=⟨40,bKp,bLp,false,fun (x0,x1,x2,x3,x4,x5,x6,x7,x8,x9,x10,x11,x12)=>iL ((x0,x1),(x2,x3),(x4,x5,x6),x7,x8,x9,x10,x11,x12)⟩
def fK.con:Con:=⟨326,⟨[e34,e1],[]⟩,bB0,false,fun (x0,x1)=>fK x0 x1⟩
def vL.con:Con:=⟨242,bJq,aQ8,false,fun (x0,x1,x2,x3)=>vL (x0,x1,x2) x3⟩
def dG.con:Con:=⟨221,sh2,sh1,false,fun x=>dG x⟩
def fO.con:Con:=⟨145,aNb,sh2,false,fun (x0,x1,x2,x3,x4)=>fO (x0,x1,x2,x3) x4⟩
def fE.con:Con:=⟨140,aNb,sh2,false,fun (x0,x1,x2,x3,x4)=>fE (x0,x1,x2,x3) x4⟩
def kD.con:Con:=⟨181,sh6,bLo,false,fun x=>kD x⟩
def sB.con:Con:=⟨128,sh6,sh5,false,fun x=>sB x⟩
def kJ.con:Con:=⟨57,bRa,aHa,false,fun (x0,x1,x2,x3,x4)=>kJ x0 x1 x2 x3 x4⟩
def eK.con:Con:=⟨327,aHf,aQx,false,fun (x0,x1,x2,x3,x4,x5,x6,x7,x8)=>eK (x0,x1,x2,x3,x4,x5,x6,x7,x8)⟩
def pR.con:Con:=⟨270,aHf,sh2,false,fun (x0,x1,x2,x3,x4,x5,x6,x7,x8)=>pR (x0,x1,x2,x3,x4,x5,x6,x7,x8)⟩
def uR.con:Con:=⟨243,aHf,bNt,false,fun (x0,x1,x2,x3,x4,x5,x6,x7,x8)=>uR (x0,x1,x2,x3,x4,x5,x6,x7,x8)⟩
def lM.con:Con:=⟨41,aRe,aF3,false,fun (x0,x1,x2,x3,x4,x5,x6,x7,x8,x9,x10,x11,x12,x13,x14,x15,x16,x17,x18,x19,x20,x21,x22,x23,x24)=>lM ((x12,x13),(x14,x15),(x16,x17,x18),x19,x20,x22,x23,x24,x21) x0 x1 (x2,x3,x4,x5,x6,x7,x8,x9,x10,x11)⟩
def lU.con:Con:=⟨148,bIy,aNk,false,fun (x0,x1)=>lU x0 x1⟩
def qH.con:Con:=⟨65,aWs,aNk,false,fun (x0,x1,x2)=>qH (x0,x1) x2⟩
def kH.con:Con:=⟨67,aNj,sh2,false,fun (x0,x1,x2,x3)=>kH (x0,x1) x2 x3⟩
def mN.con:Con:=⟨66,bIy,sh1,false,fun (x0,x1)=>mN x0 x1⟩
def pV.con:Con:=⟨150,sh2,sh1,false,fun x=>pV x⟩
def qF.con:Con:=⟨68,sh5,sh2,false,fun (x0,x1)=>qF x0 x1⟩
def eP.con:Con:=⟨21,⟨[e5,e49,e4],[]⟩,sh2,false,fun (x0,x1,x2,x3)=>eP (x0,x1) x2 x3⟩
def kQ.con:Con:=⟨137,⟨[e2,(1,.one (.ptr 1000001 0))],[(1000001,ob7)]⟩,⟨[(0,bQ7)],[o6,o8,(1000001,ob7)]⟩,false,fun (x0,x1,x2,x3,x4,x5,x6,x7,x8,x9,x10)=>kQ x0 (x1,x2,x3,x4,x5,x6,x7,x8,x9,x10)⟩
def dD.con:Con:=⟨218,sh2,sh1,false,fun x=>dD x⟩
def mG.con:Con:=⟨352,aWf,sh1,false,fun (x0,x1,x2,x3,x4)=>mG (x0,x1,x2,x3,x4)⟩
def kZ.con:Con:=⟨302,aWc,sh1,false,fun x=>kZ x⟩
def lH.con:Con:=⟨217,sh6,sh1,false,fun x=>lH x⟩
def vO.con:Con:=⟨124,sh7,sh1,false,fun (x0,x1,x2,x3,x4,x5,x6,x7,x8,x9)=>vO (x0,x1,x2,x3,x4,x5,x6,x7,x8,x9)⟩
def eB.con:Con:=⟨51,sh7,sh2,false,fun (x0,x1,x2,x3,x4,x5,x6,x7,x8,x9)=>eB (x0,x1,x2,x3,x4,x5,x6,x7,x8,x9)⟩
def oR.con:Con:=⟨138,sh7,sh1,false,fun (x0,x1,x2,x3,x4,x5,x6,x7,x8,x9)=>oR (x0,x1,x2,x3,x4,x5,x6,x7,x8,x9)⟩
def zG.con:Con:=⟨353,⟨[e5,(1,bH5)],[]⟩,sh1,false,fun (x0,x1,x2)=>zG (x0,x1) x2⟩
def nE.con:Con:=⟨22,aNj,sh5,false,fun (x0,x1,x2,x3)=>nE (x0,x1) x2 x3⟩
def sJ.con:Con:=⟨303,bBi,sh1,false,fun (x0,x1,x2,x3,x4,x5)=>sJ (x0,x1) (x2,x3,x4,x5)⟩
def uQ.con:Con:=⟨304,sh2,sh2,false,fun x=>uQ x⟩
def kB.con:Con:=⟨219,aQl,sh1,false,fun (x0,x1,x2)=>kB (x0,x1) x2⟩
def xC.con:Con:=⟨305,⟨[(0,.one (.var (.sl yK)))],[]⟩,aFz,false,fun x=>xC x⟩
def fS.con:Con:=⟨220,sh6,aFz,false,fun x=>fS x⟩
def mA.con:Con:=⟨139,aQl,sh1,false,fun (x0,x1,x2)=>mA (x0,x1) x2⟩
def rK.con:Con:=⟨298,sh5,sh2,false,fun (x0,x1)=>rK x0 x1⟩
def vS.con:Con:=⟨297,sh5,sh2,false,fun (x0,x1)=>vS x0 x1⟩
def aGp.con:Con:=⟨414,sh5,sh2,false,fun (x0,x1)=>aGp x0 x1⟩
def vJ.con:Con:=⟨398,aNk,sh2,false,fun x=>vJ x⟩
def tI.con:Con:=⟨386,bA7,sh2,false,fun (x0,x1)=>tI x0 x1⟩
def yZ.con:Con:=⟨354,bH9,sh2,false,fun (x0,x1,x2,x3,x4,x5,x6,x7)=>yZ x0 x1 x2 (x3,x4,x5,x6,x7)⟩
def nH.con:Con:=⟨306,bSp,sh1,false,fun (x0,x1,x2,x3,x4,x5,x6,x7,x8)=>nH (x0,x1) x2 x3 (x4,x5,x6,x7,x8)⟩
def hZ.con:Con:=⟨222,⟨[e5,e30],[]⟩,aQx,false,fun (x0,x1,x2,x3,x4,x5,x6,x7,x8,x9,x10,x11)=>hZ (x0,x1) (x2,x3,x4,x5,x6,x7,x8,x9,x10,x11)⟩
def sV.con:Con:=⟨307,⟨[e40,e1],[]⟩,sh1,false,fun (x0,x1,x2,x3,x4,x5)=>sV (x0,x1,x2,x3,x4) x5⟩
def gD.con:Con:=⟨223,bJd,sh1,false,fun (x0,x1,x2,x3,x4,x5,x6,x7,x8,x9,x10)=>gD (x0,x1,x2,x3,x4,x5,x6,x7,x8,x9) x10⟩
def kP.con:Con:=⟨141,bMm,bJd,false,fun (x0,x1,x2,x3,x4,x5,x6,x7,x8,x9,x10,x11,x12)=>kP (x0,x1) x2 (x3,x4,x5,x6,x7,x8,x9,x10,x11,x12)⟩
def gS.con:Con:=⟨142,sh7,sh1,false,fun (x0,x1,x2,x3,x4,x5,x6,x7,x8,x9)=>gS (x0,x1,x2,x3,x4,x5,x6,x7,x8,x9)⟩
def kK.con:Con:=⟨143,sh7,sh1,false,fun (x0,x1,x2,x3,x4,x5,x6,x7,x8,x9)=>kK (x0,x1,x2,x3,x4,x5,x6,x7,x8,x9)⟩
def lV.con:Con:=⟨144,sh7,aHa,false,fun (x0,x1,x2,x3,x4,x5,x6,x7,x8,x9)=>lV (x0,x1,x2,x3,x4,x5,x6,x7,x8,x9)⟩
def jG.con:Con:=⟨225,aNj,sh2,false,fun (x0,x1,x2,x3)=>jG (x0,x1) x2 x3⟩
def kC.con:Con:=⟨224,sh5,sh1,false,fun (x0,x1)=>kC x0 x1⟩
def oK.con:Con:=⟨146,⟨[e5,e62],[]⟩,sh1,false,fun (x0,x1,x2,x3,x4)=>oK (x0,x1) (x2,x3,x4)⟩
def uJ.con:Con:=⟨147,sh5,sh1,false,fun (x0,x1)=>uJ x0 x1⟩
def vB.con:Con:=⟨64,bMv,⟨[(0,bLe),e1],[]⟩,false,fun (x0,x1,x2,x3,x4,x5,x6,x7,x8,x9,x10,x11,x12,x13,x14,x15)=>vB (x0,x1) x2 x3 x4 x5 (x6,x7,x8,x9,x10,x11,x12,x13,x14,x15)⟩
def sI.con:Con:=⟨267,bDi,sh2,false,fun (x0,x1,x2,x3,x4,x5)=>sI (x0,x1,x2) x3 x4 x5⟩
def uO.con:Con:=⟨176,bIq,bL2,false,fun (x0,x1,x2,x3,x4,x5,x6)=>uO (x0,x1,x2) x3 x4 x5 x6⟩
def kL.con:Con:=⟨98,⟨[e9,e1,(2,bLe)],[o4,o3,o2,o5]⟩,aF3,false,fun (x0,x1,x2,x3,x4,x5,x6,x7,x8,x9,x10,x11,x12,x13,x14,x15,x16,x17,x18,x19,x20,x21,x22,x23,x24,x25)=>kL ((x13,x14),(x15,x16),(x17,x18,x19),x20,x21,x23,x24,x25,x22) x0 (x1,x2,(x3,x4,x5,x6,x7,x8,x9,x10,x11,x12))⟩
def pO.con:Con:=⟨99,bRx,sh2,false,fun (x0,x1,x2)=>pO x0 x1 x2⟩
def sL.con:Con:=⟨177,aQk,sh1,false,fun (x0,x1,x2,x3,x4,x5,x6,x7,x8,x9,x10,x11,x12,x13)=>sL (x0,x1,x2,x3) (x4,x5,x6,x7,x8,x9,x10,x11,x12,x13)⟩
def nX.con:Con:=⟨100,aQk,aXe,false,fun (x0,x1,x2,x3,x4,x5,x6,x7,x8,x9,x10,x11,x12,x13)=>nX (x0,x1,x2,x3) (x4,x5,x6,x7,x8,x9,x10,x11,x12,x13)⟩
def oT.con:Con:=⟨210,sh2,sh2,false,fun x=>oT x⟩
def lO.con:Con:=⟨211,aNb,sh2,false,fun (x0,x1,x2,x3,x4)=>lO (x0,x1,x2,x3) x4⟩
def iW.con:Con:=⟨212,aWc,bJz,false,fun x=>iW x⟩
def oL.con:Con:=⟨129,bBe,aWw,false,fun (x0,x1,x2,x3)=>oL (x0,x1,x2,x3)⟩
def kG.con:Con:=⟨58,sh6,aKc,false,fun x=>kG x⟩
def aBa.con:Con:=⟨178,bOi,aHa,false,fun (x0,x1,x2,x3,x4,x5,x6,x7,x8,x9,x10,x11,x12)=>aBa (x0,x1,x2,x3,x4,x5,x6,x7,x8,x9) x10 x11 x12⟩
def uE.con:Con:=⟨101,aQk,aQx,false,fun (x0,x1,x2,x3,x4,x5,x6,x7,x8,x9,x10,x11,x12,x13)=>uE (x0,x1,x2,x3) (x4,x5,x6,x7,x8,x9,x10,x11,x12,x13)⟩
def sG.con:Con:=⟨179,⟨[e22,e30],[]⟩,aKv,false,fun (x0,x1,x2,x3,x4,x5,x6,x7,x8,x9,x10,x11,x12,x13,x14,x15,x16,x17,x18)=>sG (x0,x1,x2,x3,x4,x5,x6,x7,x8) (x9,x10,x11,x12,x13,x14,x15,x16,x17,x18)⟩
def qG.con:Con:=⟨382,aUu,⟨[e2,e1,e16],[]⟩,false,fun (x0,x1)=>qG x0 x1⟩
def qK.con:Con:=⟨345,⟨[e19,e1,e4],[]⟩,bL0,false,fun (x0,x1,x2)=>qK x0 x1 x2⟩
def iE.con:Con:=⟨268,sh9,⟨[e61,e26],[]⟩,false,fun x=>iE x⟩
def qC.con:Con:=⟨269,⟨[e13,e62],[]⟩,sh1,false,fun (x0,x1,x2,x3)=>qC x0 (x1,x2,x3)⟩
def lJ.con:Con:=⟨271,⟨[e45,e62],[]⟩,bDt,false,fun (x0,x1,x2,x3)=>lJ x0 (x1,x2,x3)⟩
def iB.con:Con:=⟨180,⟨[e22,e30,e4],[]⟩,aKv,false,fun (x0,x1,x2,x3,x4,x5,x6,x7,x8,x9,x10,x11,x12,x13,x14,x15,x16,x17,x18,x19)=>iB (x0,x1,x2,x3,x4,x5,x6,x7,x8) (x9,x10,x11,x12,x13,x14,x15,x16,x17,x18) x19⟩
def gL.con:Con:=⟨102,bAt,aF3,false,fun (x0,x1,x2,x3,x4,x5,x6,x7,x8,x9,x10,x11,x12,x13,x14,x15,x16,x17,x18,x19,x20,x21,x22,x23)=>gL ((x11,x12),(x13,x14),(x15,x16,x17),x18,x19,x21,x22,x23,x20) x0 (x1,x2,x3,x4,x5,x6,x7,x8,x9,x10)⟩
def aEy.con:Con:=⟨56,sh5,sh2,false,fun (x0,x1)=>aEy x0 x1⟩
def gM.con:Con:=⟨15,sh7,bKc,false,fun (x0,x1,x2,x3,x4,x5,x6,x7,x8,x9)=>gM (x0,x1,x2,x3,x4,x5,x6,x7,x8,x9)⟩
def mU.con:Con:=⟨299,aUu,aW2,false,fun (x0,x1)=>mU x0 x1⟩
def pZ.con:Con:=⟨213,⟨[e19,e49],[]⟩,sh9,false,fun (x0,x1)=>pZ x0 x1⟩
def qZ.con:Con:=⟨131,aNk,sh9,false,fun x=>qZ x⟩
def gZ.con:Con:=⟨59,bAk,sh9,false,fun (x0,x1,x2)=>gZ (x0,x1,x2)⟩
def iJ.con:Con:=⟨18,bNo,aHa,false,fun (x0,x1,x2,x3,x4,x5,x6,x7,x8,x9,x10,x11,x12,x13,x14)=>iJ (x0,x1) x2 x3 x4 (x5,x6,x7,x8,x9,x10,x11,x12,x13,x14)⟩
def jR.con:Con:=⟨103,sh6,sh2,false,fun x=>jR x⟩
def dY.con:Con:=⟨41,aRe,aF3,false,fun (x0,x1,x2,x3,x4,x5,x6,x7,x8,x9,x10,x11,x12,x13,x14,x15,x16,x17,x18,x19,x20,x21,x22,x23,x24)=>dY ((x12,x13),(x14,x15),(x16,x17,x18),x19,x20,x22,x23,x24,x21) x0 x1 (x2,x3,x4,x5,x6,x7,x8,x9,x10,x11)⟩
def bW.con:Con:=⟨41,aRe,aF3,false,fun (x0,x1,x2,x3,x4,x5,x6,x7,x8,x9,x10,x11,x12,x13,x14,x15,x16,x17,x18,x19,x20,x21,x22,x23,x24)=>bW ((x12,x13),(x14,x15),(x16,x17,x18),x19,x20,x22,x23,x24,x21) x0 x1 (x2,x3,x4,x5,x6,x7,x8,x9,x10,x11)⟩
def mS.con:Con:=⟨154,bNp,aQ5,false,fun (x0,x1,x2,x3,x4,x5,x6,x7,x8,x9,x10,x11,x12)=>mS ((x0,x1),(x2,x3),(x4,x5,x6),x7,x8,x10,x11,x12,x9)⟩
def mR.con:Con:=⟨155,bM0,bN7,false,fun (x0,x1,x2,x3,x4,x5,x6,x7,x8,x9,x10,x11,x12,x13)=>mR ((x1,x2),(x3,x4),(x5,x6,x7),x8,x9,x11,x12,x13,x10) x0⟩
def wY.con:Con:=⟨156,bT2,bQ6,false,fun (x0,x1,x2,x3,x4,x5,x6,x7,x8,x9)=>wY (x0,x1,x2,x3,x4,x5,x6,x7,x8) x9⟩
def zA.con:Con:=⟨375,aIi,sh2,false,fun (x0,x1,x2)=>zA (x0,x1,x2)⟩
def pF.con:Con:=⟨330,⟨[e46,e1],[]⟩,aRh,false,fun (x0,x1,x2)=>pF (x0,x1) x2⟩
def tJ.con:Con:=⟨331,aRi,sh2,false,fun (x0,x1,x2,x3)=>tJ (x0,x1,x2) x3⟩
def aC6.con:Con:=⟨400,aWc,aFz,false,fun x=>aC6 x⟩
def aAi.con:Con:=⟨399,bA7,sh2,false,fun (x0,x1)=>aAi x0 x1⟩
def yR.con:Con:=⟨376,aRi,sh2,false,fun (x0,x1,x2,x3)=>yR (x0,x1,x2) x3⟩
def mK.con:Con:=⟨332,⟨[e15,e1,e4],[]⟩,aWw,false,fun (x0,x1,x2,x3,x4)=>mK (x0,x1,x2) x3 x4⟩
def qJ.con:Con:=⟨336,aIi,sh2,false,fun (x0,x1,x2)=>qJ (x0,x1,x2)⟩
def xK.con:Con:=⟨377,bKx,aRh,false,fun (x0,x1,x2,x3)=>xK (x0,x1) x2 x3⟩
def oP.con:Con:=⟨401,⟨[e15,e1,(2,.one (.ptr 1000002 0))],[(1000002,.box [.row 0]),(0,aRj)]⟩,⟨[],[(0,aRj),(1000002,.box [.row 0])]⟩,false,fun (x0,x1,x2,x3,x4)=>oP (x0,x1,x2) x3 x4⟩
def vM.con:Con:=⟨378,bSu,bKc,false,fun (x0,x1,x2,x3,x4,x5,x6,x7,x8,x9)=>vM (x0,x1,x2) (x3,x4,x5) x6 (x7,x8,x9)⟩
def mI.con:Con:=⟨333,bRn,aHe,false,fun (x0,x1,x2,x3,x4,x5,x6,x7,x8,x9)=>mI (x0,x1) (x2,x3,x4) x5 x6 (x7,x8,x9)⟩
def xV.con:Con:=⟨379,aRi,sh2,false,fun (x0,x1,x2,x3)=>xV (x0,x1,x2) x3⟩
def wP.con:Con:=⟨334,bD2,aKc,false,fun (x0,x1,x2,x3,x4,x5)=>wP (x0,x1,x2) (x3,x4,x5)⟩
def aA1.con:Con:=⟨335,aWs,sh1,false,fun (x0,x1,x2)=>aA1 (x0,x1) x2⟩
def sR.con:Con:=⟨246,bIe,aHe,false,fun (x0,x1,x2,x3,x4,x5)=>sR (x0,x1) (x2,x3) x4 x5⟩
def wK.con:Con:=⟨380,bBi,sh1,false,fun (x0,x1,x2,x3,x4,x5)=>wK (x0,x1) (x2,x3,x4,x5)⟩
def wO.con:Con:=⟨337,aQl,sh1,false,fun (x0,x1,x2)=>wO (x0,x1) x2⟩
def oI.con:Con:=⟨338,aWc,sh2,false,fun x=>oI x⟩
def wL.con:Con:=⟨247,⟨[e5,e23,e4],[]⟩,sh1,false,fun (x0,x1,x2,x3)=>wL (x0,x1) x2 x3⟩
def rE.con:Con:=⟨402,bRw,sh1,false,fun (x0,x1)=>rE x0 x1⟩
def wB.con:Con:=⟨381,bTe,sh1,false,fun (x0,x1,x2,x3,x4,x5,x6,x7)=>wB (x0,x1,x2,x3) (x4,x5,x6,x7)⟩
def wN.con:Con:=⟨339,bCi,sh1,false,fun (x0,x1)=>wN x0 x1⟩
def aBb.con:Con:=⟨248,⟨[e38,e23],[]⟩,sh1,false,fun (x0,x1)=>aBb x0 x1⟩
def xY.con:Con:=⟨158,bT5,aHe,false,fun (x0,x1,x2,x3,x4,x5,x6)=>xY (x0,x1) (x2,x3) x4 x5 x6⟩
def aBp.con:Con:=⟨397,sh6,bJz,false,fun x=>aBp x⟩
def tB.con:Con:=⟨373,sh6,sh2,false,fun x=>tB x⟩
def sX.con:Con:=⟨374,sh6,sh2,false,fun x=>sX x⟩
def wJ.con:Con:=⟨329,bCi,sh1,false,fun (x0,x1)=>wJ x0 x1⟩
def xZ.con:Con:=⟨245,aHe,aHe,false,fun x=>xZ x⟩
def lK.con:Con:=⟨372,⟨[e45,e1],[]⟩,bDt,false,fun (x0,x1)=>lK x0 x1⟩
def aBk.con:Con:=⟨328,⟨[e45,e23,e4],[]⟩,sh1,false,fun (x0,x1,x2)=>aBk x0 x1 x2⟩
def oH.con:Con:=⟨244,bTs,aNi,false,fun (x0,x1,x2)=>oH x0 x1 x2⟩
def zM.con:Con:=⟨157,bRe,aKv,false,fun (x0,x1,x2,x3,x4,x5,x6,x7,x8,x9,x10)=>zM (x0,x1,x2,x3,x4,x5,x6,x7,x8) x9 x10⟩
def lG.con:Con:=⟨73,bKy,aQ5,false,fun (x0,x1,x2,x3,x4,x5,x6,x7,x8,x9,x10,x11,x12,x13,x14,x15,x16,x17,x18,x19,x20,x21,x22,x23,x24,x25,x26,x27)=>lG ((x15,x16),(x17,x18),(x19,x20,x21),x22,x23,x25,x26,x27,x24) (x0,x1,x2,(x3,x4,(x5,x6,x7,x8,x9,x10,x11,x12,x13,x14)))⟩
def qP.con:Con:=⟨26,bUa,⟨[e51,e26],[o23,o24,o35,o36,o37,o38,o21,o39,(8,aHj),o40]⟩,false,fun (x0,x1,x2,x3,x4,x5,x6,x7,x8,x9,x10,x11,x12,x13,x14,x15,x16,x17,x18,x19,x20,x21,x22,x23,x24,x25,x26,x27)=>qP ((x0,x1),(x2,x3),(x4,x5,x6),x7,x8,x9,x10,x11,x12) (x13,x14,x15,(x16,x17,(x18,x19,x20,x21,x22,x23,x24,x25,x26,x27)))⟩
def l_FnOrder.con:Con:=⟨4,sh9,sh1,false,fun x=>l_FnOrder x⟩
end

end Go.Proofs.YtecighmpdcffcaaGreat
