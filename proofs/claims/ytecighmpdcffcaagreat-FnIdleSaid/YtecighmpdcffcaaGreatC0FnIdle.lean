/-
  Contracts of the functions of the program. Conditions: none.
-/
import Derived.Test.YtecighmpdcffcaaGreatT0FnIdle
import Derived.Test.YtecighmpdcffcaaGreatProg
import Derived.KernelRfl
set_option linter.unusedVariables false
set_option linter.unusedSimpArgs false
set_option maxRecDepth 100000
namespace Go.Proofs.YtecighmpdcffcaaGreat
open Go.Ab Go.V
noncomputable section
theorem follows:Tryz.prog.follows .mixedOrders=true:=by kernel_rfl
theorem _root_.Go.V.Con.Ok.c {P:Program} {c:Con} {E:List Con} (h:c.Ok P) (k:aD8 P E):aD8 P (c::E):=⟨h,k⟩
theorem fk {E:List Con} {c:Con} {fn:Func} (hf:Tryz.prog.funcs[c.f]? =some fn) (k:aD8 Tryz.prog E) (pl:Plan) (e: ∀ x,bHw Tryz.prog E fn pl c.pre c.post x=c.sem x:=by intro x;kernel_rfl) (hn:(fn.name=="runtime.NumGoroutine")=false:=by rfl):c.Ok Tryz.prog:=bU8 hf hn follows (aD8.mem k) fun x y h=>(e x).trans h
theorem nok:aD8 Tryz.prog []:=trivial
abbrev _root_.Go.V.Plan.q (p:Plan):Plan:= .seq .z p
def ow1:OT:= .row 79 9 tFl false
def ow2:OT:= .row 43 1 tPt true
def ow3:OT:= .row 3 1 ti true
def ow4:OT:= .row 62 12 tFy false
def ow5:OT:= .row 108 4 tPp true
def ow6:OT:= .row 82 4 tIb false
def ow7:OT:= .row 231 3 tSg true
def ow8:OT:= .row 5 1 tb true
def ow9:OT:= .row 199 5 tRs true
def aBk:OT:= .row 216 1 tMs true
def aIk:OT:= .row 179 5 aL true
def aCa:OT:= .row 116 3 tRv true
def aJ0:OT:= .row 163 3 tAS true
def aG2:OT:= .row 125 5 tLk true
def aUt:OT:= .row 43 1 tPt false
def aGq:OT:= .row 128 4 tUs true
def aDr:OT:= .row 62 12 tFy true
def aQd:OT:= .row 192 3 cR true
def aGw:OT:= .row 82 4 tIb true
def aHw:OT:= .row 79 9 tFl true
def aQi:OT:= .row 108 4 tPp false
def bKe:OT:= .row 73 15 cL false
def ob1:OT:= .box [.var (.sl tb),.var ti,.var ti]
def ob2:OT:= .box [.var (.sl tAS),.var (.sl tLk),.var (.sl tSg),.var (.sl tSg),.var ti,.var (.sl tRs),.var (.sl tUs),.var ti,.var (.sl ti),.row 0,.row 1,.row 2,.var ti]
def ob3:OT:= .box [.row 300001]
def ob4:OT:= .box [.var (.sl tAS),.var (.sl tLk),.var (.sl tSg),.var (.sl tSg),.var ti,.var (.sl tRs),.var (.sl tUs),.var ti,.var (.sl ti),.row 300001,.row 300002,.row 300003,.var ti]
def ob5:OT:= .box [.row 300001,.row 300003]
def ob6:OT:= .box [.var (.sl tAS),.var (.sl tLk)]
def ob7:OT:= .box [.var ti,.var ti,.var ti,.var (.sl tPp),.var ti,.var ti,.var ti,.var ti,.var ti,.var (.sl tb)]
def ob8:OT:= .box [.var ti,.var ti,.var ti,.row 300001]
def ob9:OT:= .box [.var ti,.var ti,.row 300003]
def bCb:OT:= .box [.row 300005]
def bJs:OT:= .box [.row 300001,.nil]
def bJc:OT:= .box [.var ti,.var ti,.row 300004]
def bS3:OT:= .box [.var ti,.var ti,.var ti,.var ti,.row 1144,.row 1145,.var ti,.var ti,.row 1146]
def bIk:OT:= .box [.row 1208,.row 1209,.row 1272,.row 1273,.var ti,.row 1336,.row 1337,.var ti,.row 1400,.row 300001,.nil,.nil,.var ti]
def bIe:OT:= .box [.row 1208,.row 1209,.row 1272,.row 1273,.var ti,.row 1336,.row 1337,.var ti,.row 1400,.row 300001,.row 300002,.nil,.var ti]
def bRg:OT:= .box [.var ti,.var ti,.row 300001]
def bSz:OT:= .box [.row 1160,.row 1208]
def bRe:OT:= .box [.var ti,.var ti,.var ti,.nil]
def bRh:OT:= .box [.var ti,.var ti,.var ti]
def bQ8:OT:= .box [.row 300001,.row 300002]
def bRo:OT:= .box [.row 300007,.row 300008,.row 300009,.row 300010,.var ti,.row 300006,.row 300011,.var ti,.row 300012,.row 300013,.row 300014,.row 300015,.var ti]
def bSv:OT:= .box [.var ti,.var ti,.var ti,.var ti,.row 300003,.row 300004,.var ti,.var ti,.row 300005]
def bSc:OT:= .box [.var (.sl tPp)]
def bRt:OT:= .box [.var ti,.var ti,.var ti,.var (.sl tPp),.var ti,.var ti,.var ti,.var ti,.var ti,.row 1161]
def bWh:OT:= .box [.var ti,.var ti,.var ti,.row 1192,.var ti,.var ti,.var ti,.var ti,.var ti,.row 1193]
def bS9:OT:= .box [.var ti,.var ti,.var ti,.row 300001,.var ti,.var ti,.var ti,.var ti,.var ti,.row 300002]
def bWf:OT:= .box [.var ti,.var ti,.var ti,.row 1112]
def bV5:OT:= .box [.var ti,.var ti,.var ti,.var ti,.row 1112,.row 1113,.var ti,.var ti,.row 1114]
def bVj:OT:= .box [.var ti,.var ti,.var ti,.row 1544]
def bV7:OT:= .box [.var ti,.var ti,.var ti,.var ti,.row 2312,.row 2313,.var ti,.var ti,.row 2314]
def bVi:OT:= .box [.var ti,.var ti,.var ti,.var ti,.var ti,.row 1560,.var ti,.var ti,.var ti,.var ti,.var ti,.row 1561]
def bVt:OT:= .box [.var ti,.row 2152,.row 2153]
def bVy:OT:= .box [.var (.sl tAS),.var (.sl tLk),.var (.sl tSg),.var (.sl tSg),.var ti,.row 2152,.row 2153,.var ti,.var (.sl ti),.row 0,.row 1,.row 2,.var ti]
def bVs:OT:= .box [.var ti,.var ti,.var ti,.row 2904,.var ti,.var ti,.var ti,.var ti,.var ti,.row 2905]
def bRk:OT:= .box [.var ti,.var ti,.var ti,.var ti,.var (.sl tMs),.var (.sl tPt),.var ti,.var ti,.var (.sl tRv)]
def bVd:OT:= .box [.var (.sl tAS),.var (.sl tLk),.var (.sl tSg),.var (.sl tSg),.var ti,.var (.sl tRs),.var (.sl tUs),.var ti,.var (.sl ti),.row 14,.row 1,.row 2,.var ti]
def bQ2:OT:= .box [.var ti,.var ti,.nil,.var ti,.var ti,.var ti,.var ti,.var ti,.var (.sl tPp),.var ti,.var ti,.var ti,.var ti,.var ti,.row 300001]
def bSy:OT:= .box [.var ti,.var .bool,.var ti]
def bSj:OT:= .box [.row 1208,.row 1209,.row 1272,.row 1273,.var ti,.row 1336,.row 1337,.var ti,.row 1400,.row 300001,.row 300002,.row 300003,.var ti]
def bVn:OT:= .box [.var ti,.var ti,.var ti,.var ti,.var ti,.var (.sl tPp),.var ti,.var ti,.var ti,.var ti,.var ti,.var (.sl tb)]
def bWb:OT:= .box [.var ti,.var ti,.var ti,.row 2584,.var ti,.var ti,.var ti,.var ti,.var ti,.row 2585]
def bWe:OT:= .box [.var ti,.var ti,.var ti,.row 3176,.var ti,.var ti,.var ti,.var ti,.var ti,.row 3177]
def ag1:ST:= .agg [.var (.sl tAS),.var (.sl tLk)]
def ag2:ST:= .agg [.var ti,.var ti,.var ti,.var (.sl tPp),.var ti,.var ti,.var ti,.var ti,.var ti,.var (.sl tb)]
def ag3:ST:= .agg [.var (.sl tPp)]
def ag4:ST:= .agg [.var ti,.var ti,.var (.sl aL)]
def ag5:ST:= .agg [.var ti,.var ti,.var ti,.var ti,.var (.sl tMs),.var (.sl tPt),.var ti,.var ti,.var (.sl tRv)]
def ag6:ST:= .agg [.var ti,.var ti,.var ti,.var (.sl aL)]
def ag7:ST:= .agg [.var ti,.var ti,.var ti,.var ti,.var ti]
def ag8:ST:= .agg [.var (.sl tSg),.var (.sl tSg)]
def ag9:ST:= .agg [.var ti,.var ti,.var ti,.row 0,.var ti,.var ti,.var ti,.var ti,.var ti,.row 1]
def bTj:ST:= .agg [.var ti,.var (.sl tRs),.var (.sl tUs)]
def bVm:ST:= .agg [.var ti,.var ti,.var ti,.var ti,.row 0,.row 1,.var ti,.var ti,.row 2]
def bRq:ST:= .agg [.row 0]
def bRl:ST:= .agg [.var ti,.var ti,.var ti]
def bHe:ST:= .agg [.var ti,.var ti,.var ti,.var (.sl tMs)]
def bV4:ST:= .agg [.var ti,.var ti,.var ti,.row 0]
def bQy:ST:= .agg [.var (.sl tAS),.var (.sl tLk),.var (.sl tSg),.var (.sl tSg),.var ti,.var (.sl tRs),.var (.sl tUs),.var ti,.var (.sl ti),.var (.sl tFy),.var (.sl tFl),.var (.sl tIb),.var ti]
def bVh:ST:= .agg [.var ti,.row 0,.row 1]
def bVl:ST:= .agg [.row 0,.row 1,.row 2,.row 3,.var ti,.row 4,.row 5,.var ti,.row 6,.row 7,.row 8,.row 9,.var ti]
def bKs:ST:= .agg [.row 0,.row 1]
def bRu:ST:= .agg [.var ti,.var ti,.var (.sl tb),.var ti,.var ti,.var ti,.var ti,.var ti,.var (.sl tPp),.var ti,.var ti,.var ti,.var ti,.var ti,.var (.sl tb)]
def bQ9:ST:= .agg [.var ti,.var ti,.row 0]
def bHg:ST:= .agg [.var ti,.var ti,.var ti,.var ti,.var ti,.var (.sl tPp),.var ti,.var ti,.var ti,.var ti,.var ti,.var (.sl tb)]
def bTt:ST:= .agg [.var ti,.var ti,.var ti,.var ti,.var ti,.row 0,.var ti,.var ti,.var ti,.var ti,.var ti,.row 1]
def bV0:ST:= .agg [.var ti,.var ti,.var ti,.row 3,.var ti,.var ti,.var ti,.var ti,.var ti,.row 4]
def bVz:ST:= .agg [.var (.sl tAS),.var (.sl tLk),.var (.sl tSg),.var (.sl tSg),.var ti,.var (.sl tRs),.var (.sl tUs),.var ti,.var (.sl ti),.row 1001109,.row 1001110,.row 1001111,.var ti]
def bS8:ST:= .agg [.var (.sl tAS),.var (.sl tLk),.var (.sl tSg),.var (.sl tSg),.var ti,.var (.sl tRs),.var (.sl tUs),.var ti,.var (.sl ti),.row 0,.row 1,.row 2,.var ti]
def vr1:ST:= .one (.var ti)
def vr2:ST:= .one (.var .bool)
def vr3:ST:= .one (.row 300001)
def vr4:ST:= .one (.row 0)
def vr5:ST:= .one (.ptr 1000000 0)
def vr6:ST:= .one (.var (.sl tb))
def vr7:ST:= .one (.var (.sl ti))
def vr8:ST:= .one (.row 7)
def vr9:ST:= .one (.row 6)
def bAr:ST:= .one (.var (.sl tPt))
def bRn:ST:= .one (.var (.sl tRs))
def aQ0:ST:= .one (.row 10)
def bH7:ST:= .one (.var (.sl tRv))
def bWg:ST:= .one (.row 1624)
def bHm:ST:= .one (.var (.sl aL))
def aV4:ST:= .one (.row 15)
def bV8:ST:= .one (.ptr 7 0)
def bBu:ST:= .one (.var (.sl tMs))
def bV1:ST:= .one (.row 5)
def bVr:ST:= .one (.ptr 11 0)
def aVp:ST:= .one (.var (.sl tSg))
def aVu:ST:= .one (.row 14)
def bVk:ST:= .one (.ptr 13 0)
def bQo:ST:= .one (.ptr 8 0)
def bCh:ST:= .one (.row 16)
def bR7:ST:= .one (.var (.sl tIb))
def bK1:ST:= .one (.row 127)
def bJr:ST:= .one (.ptr 6 0)
def bI0:ST:= .one (.row 300002)
def e1:Nat×ST:=(1,vr1)
def e2:Nat×ST:=(0,vr1)
def e3:Nat×ST:=(0,vr2)
def e4:Nat×ST:=(2,vr1)
def e5:Nat×ST:=(0,ag1)
def e6:Nat×ST:=(0,vr4)
def e7:Nat×ST:=(3,vr1)
def e8:Nat×ST:=(5,vr1)
def e9:Nat×ST:=(4,vr2)
def e10:Nat×ST:=(0,vr5)
def e11:Nat×ST:=(4,vr1)
def e12:Nat×ST:=(3,vr3)
def e13:Nat×ST:=(0,ag3)
def e14:Nat×ST:=(6,vr1)
def e15:Nat×ST:=(11,vr3)
def e16:Nat×ST:=(0,ag4)
def e17:Nat×ST:=(0,vr6)
def e18:Nat×ST:=(2,vr2)
def e19:Nat×ST:=(9,vr1)
def e20:Nat×ST:=(0,ag2)
def e21:Nat×ST:=(0,ag5)
def e22:Nat×ST:=(1,ag3)
def e23:Nat×ST:=(8,vr1)
def e24:Nat×ST:=(3,vr9)
def e25:Nat×ST:=(0,ag9)
def e26:Nat×ST:=(7,vr1)
def e27:Nat×ST:=(1,ag4)
def e28:Nat×ST:=(1,vr2)
def e29:Nat×ST:=(5,vr8)
def e30:Nat×ST:=(1,ag2)
def e31:Nat×ST:=(0,ag6)
def e32:Nat×ST:=(0,bRn)
def e33:Nat×ST:=(5,vr3)
def e34:Nat×ST:=(10,vr1)
def e35:Nat×ST:=(0,bAr)
def e36:Nat×ST:=(0,bTj)
def e37:Nat×ST:=(13,vr1)
def e38:Nat×ST:=(9,bWg)
def e39:Nat×ST:=(0,bVm)
def e40:Nat×ST:=(0,ag7)
def e41:Nat×ST:=(0,vr7)
def e42:Nat×ST:=(0,bRq)
def e43:Nat×ST:=(0,bH7)
def e44:Nat×ST:=(12,vr2)
def e45:Nat×ST:=(0,ag8)
def e46:Nat×ST:=(0,bV4)
def e47:Nat×ST:=(0,bHe)
def e48:Nat×ST:=(1,vr7)
def e49:Nat×ST:=(7,aQ0)
def e50:Nat×ST:=(0,bHm)
def e51:Nat×ST:=(1,ag8)
def e52:Nat×ST:=(0,bVh)
def e53:Nat×ST:=(0,bQy)
def e54:Nat×ST:=(6,vr2)
def e55:Nat×ST:=(5,vr7)
def e56:Nat×ST:=(34,vr2)
def e57:Nat×ST:=(0,bVl)
def e58:Nat×ST:=(1,ag6)
def e59:Nat×ST:=(11,vr1)
def e60:Nat×ST:=(12,vr1)
def e61:Nat×ST:=(7,bV8)
def e62:Nat×ST:=(0,bRl)
def e63:Nat×ST:=(1,bRl)
def e64:Nat×ST:=(31,vr2)
def e65:Nat×ST:=(3,bV1)
def e66:Nat×ST:=(7,aV4)
def e67:Nat×ST:=(15,vr1)
def e68:Nat×ST:=(11,bVr)
def e69:Nat×ST:=(13,bVk)
def e70:Nat×ST:=(7,.one (.row 18))
def e71:Nat×ST:=(7,.one (.row 9))
def e72:Nat×ST:=(7,.one (.row 29))
def o1:Nat×OT:=(1000000,ob1)
def o2:Nat×OT:=(1,ow1)
def o3:Nat×OT:=(0,ow4)
def o4:Nat×OT:=(1000000,ob2)
def o5:Nat×OT:=(2,ow6)
def o6:Nat×OT:=(0,ow5)
def o7:Nat×OT:=(300001,aUt)
def o8:Nat×OT:=(1,ow8)
def o9:Nat×OT:=(0,aBk)
def o10:Nat×OT:=(300001,ow3)
def o11:Nat×OT:=(300002,ow1)
def o12:Nat×OT:=(0,ow9)
def o13:Nat×OT:=(300001,ow5)
def o14:Nat×OT:=(0,ow3)
def o15:Nat×OT:=(1,ow2)
def o16:Nat×OT:=(1624,ow2)
def o17:Nat×OT:=(300001,ow4)
def o18:Nat×OT:=(300003,ow6)
def o19:Nat×OT:=(0,aIk)
def o20:Nat×OT:=(2,aCa)
def o21:Nat×OT:=(300001,aJ0)
def o22:Nat×OT:=(6,ow3)
def o23:Nat×OT:=(300001,aIk)
def o24:Nat×OT:=(3,ob3)
def o25:Nat×OT:=(1000000,ob4)
def o26:Nat×OT:=(300001,ow2)
def o27:Nat×OT:=(0,aJ0)
def o28:Nat×OT:=(1,aG2)
def o29:Nat×OT:=(15,ow2)
def o30:Nat×OT:=(300001,ow7)
def o31:Nat×OT:=(0,ow8)
def o32:Nat×OT:=(300003,aG2)
def o33:Nat×OT:=(0,ow7)
def o34:Nat×OT:=(1,aGq)
def o35:Nat×OT:=(3,ob5)
def o36:Nat×OT:=(2,ow7)
def o37:Nat×OT:=(3,ow7)
def o38:Nat×OT:=(4,ow9)
def o39:Nat×OT:=(5,aGq)
def o40:Nat×OT:=(7,aDr)
def o41:Nat×OT:=(9,aGw)
def o42:Nat×OT:=(0,ow2)
def o43:Nat×OT:=(10,aQd)
def o44:Nat×OT:=(10,ow2)
def o45:Nat×OT:=(300001,aQd)
def o46:Nat×OT:=(300001,ow9)
def o47:Nat×OT:=(1001109,ow4)
def o48:Nat×OT:=(1001110,ow1)
def o49:Nat×OT:=(1001111,ow6)
def o50:Nat×OT:=(300003,aIk)
def o51:Nat×OT:=(300002,ow2)
def o52:Nat×OT:=(300001,aCa)
def o53:Nat×OT:=(0,.row 163 3 tAS false)
def o54:Nat×OT:=(1,.row 125 5 tLk false)
def k0:Nat×ST:=(0,.keep)
def k1:Nat×ST:=(1,.keep)
def k2:Nat×ST:=(2,.keep)
def k3:Nat×ST:=(3,.keep)
def k4:Nat×ST:=(4,.keep)
def k5:Nat×ST:=(5,.keep)
def k6:Nat×ST:=(6,.keep)
def k7:Nat×ST:=(7,.keep)
def k8:Nat×ST:=(8,.keep)
def k9:Nat×ST:=(9,.keep)
def k10:Nat×ST:=(10,.keep)
def k11:Nat×ST:=(11,.keep)
def k12:Nat×ST:=(12,.keep)
def k13:Nat×ST:=(13,.keep)
def k14:Nat×ST:=(14,.keep)
def k15:Nat×ST:=(15,.keep)
def k16:Nat×ST:=(16,.keep)
def k17:Nat×ST:=(17,.keep)
def k18:Nat×ST:=(18,.keep)
def k19:Nat×ST:=(19,.keep)
def k20:Nat×ST:=(20,.keep)
def k21:Nat×ST:=(21,.keep)
def k22:Nat×ST:=(22,.keep)
def k23:Nat×ST:=(23,.keep)
def k25:Nat×ST:=(25,.keep)
def k26:Nat×ST:=(26,.keep)
def k28:Nat×ST:=(28,.keep)
def k31:Nat×ST:=(31,.keep)
def k32:Nat×ST:=(32,.keep)
def k33:Nat×ST:=(33,.keep)
def k35:Nat×ST:=(35,.keep)
def k36:Nat×ST:=(36,.keep)
def k37:Nat×ST:=(37,.keep)
def k38:Nat×ST:=(38,.keep)
def k39:Nat×ST:=(39,.keep)
def k49:Nat×ST:=(49,.keep)
def k50:Nat×ST:=(50,.keep)
def k51:Nat×ST:=(51,.keep)
def k52:Nat×ST:=(52,.keep)
def k53:Nat×ST:=(53,.keep)
def k54:Nat×ST:=(54,.keep)
def k56:Nat×ST:=(56,.keep)
def k57:Nat×ST:=(57,.keep)
def k58:Nat×ST:=(58,.keep)
def k64:Nat×ST:=(64,.keep)
def k65:Nat×ST:=(65,.keep)
def k66:Nat×ST:=(66,.keep)
def k67:Nat×ST:=(67,.keep)
def k72:Nat×ST:=(72,.keep)
def k73:Nat×ST:=(73,.keep)
def k74:Nat×ST:=(74,.keep)
def k87:Nat×ST:=(87,.keep)
def k88:Nat×ST:=(88,.keep)
def bBo:Nat×ST:=(100,.keep)
def aIg:Nat×ST:=(101,.keep)
def aKx:Nat×ST:=(102,.keep)
def bBq:Nat×ST:=(103,.keep)
def bSt:Nat×ST:=(106,.keep)
def bQ0:Nat×ST:=(107,.keep)
def bWd:Nat×ST:=(108,.keep)
def bVu:Nat×ST:=(128,.keep)
def bVw:Nat×ST:=(129,.keep)
def bHx:Nat×ST:=(147,.keep)
def bKo:Nat×ST:=(148,.keep)
def bI6:Nat×ST:=(149,.keep)
def bR5:Nat×ST:=(150,.keep)
def bVo:Nat×ST:=(151,.keep)
def bHo:Nat×ST:=(163,.keep)
def bHs:Nat×ST:=(164,.keep)
def bSm:Nat×ST:=(165,.keep)
def bVx:Nat×ST:=(169,.keep)
def bVp:Nat×ST:=(170,.keep)
def j0:Nat×OT:=(0,.keep)
def j1:Nat×OT:=(1,.keep)
def j2:Nat×OT:=(2,.keep)
def j3:Nat×OT:=(3,.keep)
def j4:Nat×OT:=(4,.keep)
def j5:Nat×OT:=(5,.keep)
def j6:Nat×OT:=(6,.keep)
def j7:Nat×OT:=(7,.keep)
def j8:Nat×OT:=(8,.keep)
def j9:Nat×OT:=(9,.keep)
def j10:Nat×OT:=(10,.keep)
def j11:Nat×OT:=(11,.keep)
def j12:Nat×OT:=(12,.keep)
def j13:Nat×OT:=(13,.keep)
def j14:Nat×OT:=(14,.keep)
def j15:Nat×OT:=(15,.keep)
def j16:Nat×OT:=(16,.keep)
def j19:Nat×OT:=(19,.keep)
def j26:Nat×OT:=(26,.keep)
def j28:Nat×OT:=(28,.keep)
def j29:Nat×OT:=(29,.keep)
def aTq:Nat×OT:=(1080,.keep)
def aS8:Nat×OT:=(1081,.keep)
def bUq:Nat×OT:=(1082,.keep)
def aOl:Nat×OT:=(1112,.keep)
def bA3:Nat×OT:=(1113,.keep)
def aZ4:Nat×OT:=(1114,.keep)
def aDy:Nat×OT:=(1128,.keep)
def bLd:Nat×OT:=(1129,.keep)
def bLn:Nat×OT:=(1130,.keep)
def bLo:Nat×OT:=(1131,.keep)
def bL7:Nat×OT:=(1132,.keep)
def bL5:Nat×OT:=(1133,.keep)
def bLt:Nat×OT:=(1134,.keep)
def bN4:Nat×OT:=(1135,.keep)
def bUv:Nat×OT:=(1136,.keep)
def bMh:Nat×OT:=(1137,.keep)
def bN2:Nat×OT:=(1144,.keep)
def bNz:Nat×OT:=(1145,.keep)
def bM8:Nat×OT:=(1146,.keep)
def aGj:Nat×OT:=(1160,.keep)
def bK6:Nat×OT:=(1161,.keep)
def aOb:Nat×OT:=(1176,.keep)
def bAs:Nat×OT:=(1177,.keep)
def bCi:Nat×OT:=(1178,.keep)
def aHk:Nat×OT:=(1192,.keep)
def bNg:Nat×OT:=(1193,.keep)
def tH:Nat×OT:=(1208,.keep)
def yH:Nat×OT:=(1209,.keep)
def aLl:Nat×OT:=(1210,.keep)
def aTw:Nat×OT:=(1211,.keep)
def aTs:Nat×OT:=(1212,.keep)
def aTg:Nat×OT:=(1213,.keep)
def aTu:Nat×OT:=(1214,.keep)
def aTv:Nat×OT:=(1215,.keep)
def aTt:Nat×OT:=(1216,.keep)
def aTx:Nat×OT:=(1217,.keep)
def bUi:Nat×OT:=(1224,.keep)
def aBv:Nat×OT:=(1272,.keep)
def aC3:Nat×OT:=(1273,.keep)
def aZ2:Nat×OT:=(1288,.keep)
def aLm:Nat×OT:=(1304,.keep)
def aF7:Nat×OT:=(1320,.keep)
def aGb:Nat×OT:=(1336,.keep)
def aF6:Nat×OT:=(1337,.keep)
def bVa:Nat×OT:=(1368,.keep)
def aBo:Nat×OT:=(1400,.keep)
def bUb:Nat×OT:=(1401,.keep)
def bUd:Nat×OT:=(1528,.keep)
def bU7:Nat×OT:=(1529,.keep)
def bUx:Nat×OT:=(1530,.keep)
def bLq:Nat×OT:=(1560,.keep)
def bLr:Nat×OT:=(1561,.keep)
def bU3:Nat×OT:=(1576,.keep)
def bTv:Nat×OT:=(1592,.keep)
def bUl:Nat×OT:=(1593,.keep)
def bUa:Nat×OT:=(1608,.keep)
def bUw:Nat×OT:=(1609,.keep)
def aTo:Nat×OT:=(1624,.keep)
def xF:Nat×OT:=(1672,.keep)
def xD:Nat×OT:=(1720,.keep)
def bMk:Nat×OT:=(1736,.keep)
def bU2:Nat×OT:=(1755,.keep)
def bUu:Nat×OT:=(1756,.keep)
def tU:Nat×OT:=(1768,.keep)
def bT4:Nat×OT:=(1787,.keep)
def bUs:Nat×OT:=(1788,.keep)
def uT:Nat×OT:=(1816,.keep)
def bT0:Nat×OT:=(1832,.keep)
def bVb:Nat×OT:=(1833,.keep)
def bU5:Nat×OT:=(1834,.keep)
def bT1:Nat×OT:=(1835,.keep)
def bT2:Nat×OT:=(1836,.keep)
def bTy:Nat×OT:=(1837,.keep)
def bUn:Nat×OT:=(1838,.keep)
def bT8:Nat×OT:=(1839,.keep)
def bUe:Nat×OT:=(1840,.keep)
def bUj:Nat×OT:=(1841,.keep)
def bU1:Nat×OT:=(1944,.keep)
def bNl:Nat×OT:=(2152,.keep)
def bMa:Nat×OT:=(2153,.keep)
def bAi:Nat×OT:=(2312,.keep)
def aZs:Nat×OT:=(2313,.keep)
def bCa:Nat×OT:=(2314,.keep)
def bC5:Nat×OT:=(2315,.keep)
def bCl:Nat×OT:=(2316,.keep)
def bBh:Nat×OT:=(2317,.keep)
def bBn:Nat×OT:=(2318,.keep)
def aZz:Nat×OT:=(2319,.keep)
def bLa:Nat×OT:=(2320,.keep)
def bAz:Nat×OT:=(2321,.keep)
def cW:Nat×OT:=(300001,.keep)
def aA3:Nat×OT:=(300002,.keep)
def tJ:Nat×OT:=(300003,.keep)
def aEr:Nat×OT:=(300004,.keep)
def bPh:Nat×OT:=(300005,.keep)
def aRg:Nat×OT:=(300006,.keep)
def aPv:Nat×OT:=(300007,.keep)
def aP8:Nat×OT:=(300008,.keep)
def aP9:Nat×OT:=(300009,.keep)
def aQq:Nat×OT:=(300010,.keep)
def aP2:Nat×OT:=(300011,.keep)
def aQ2:Nat×OT:=(300012,.keep)
def aQx:Nat×OT:=(300013,.keep)
def aPq:Nat×OT:=(300014,.keep)
def aQt:Nat×OT:=(300015,.keep)
def aM:Nat×OT:=(1000000,.keep)
def aAo:Nat×OT:=(1001109,.keep)
def aAq:Nat×OT:=(1001110,.keep)
def aAp:Nat×OT:=(1001111,.keep)
def sh1:Sh:=⟨[e3],[]⟩
def sh2:Sh:=⟨[e2],[]⟩
def sh3:Sh:=⟨[],[]⟩
def sh4:Sh:=⟨[e9],[]⟩
def sh5:Sh:=⟨[e2,e1],[]⟩
def sh6:Sh:=⟨[e13],[]⟩
def sh7:Sh:=⟨[e20],[]⟩
def sh8:Sh:=⟨[e18],[]⟩
def sh9:Sh:=⟨[k0,k1,e8],[]⟩
def aFn:Sh:=⟨[e17],[]⟩
def aE7:Sh:=⟨[e6],[o14]⟩
def aE8:Sh:=⟨[],[o3,o2,o5,o4]⟩
def aGu:Sh:=⟨[e35],[]⟩
def aGv:Sh:=⟨[e21],[]⟩
def aGo:Sh:=⟨[e25],[o6,o8]⟩
def aGn:Sh:=⟨[k2,k3,e8],[j2,j3]⟩
def aIf:Sh:=⟨[e16],[]⟩
def aIe:Sh:=⟨[k1],[j1]⟩
def aJk:Sh:=⟨[e10],[o1]⟩
def aKw:Sh:=⟨[e39],[o9,o15,o20]⟩
def aKo:Sh:=⟨[e42],[o6]⟩
def aMl:Sh:=⟨[e5,e1,e4],[]⟩
def aNf:Sh:=⟨[e41],[]⟩
def aMy:Sh:=⟨[e6],[o42]⟩
def aM8:Sh:=⟨[e31,e1],[]⟩
def aM6:Sh:=⟨[e54],[]⟩
def aRp:Sh:=⟨[e17,e1],[]⟩
def aQ9:Sh:=⟨[e16,e1],[]⟩
def aQr:Sh:=⟨[e6],[o33]⟩
def aQ1:Sh:=⟨[e52],[o12,o34]⟩
def aRd:Sh:=⟨[e5,e22],[]⟩
def aQn:Sh:=⟨[e25,e28],[o6,o8]⟩
def aQk:Sh:=⟨[e10,e1,e4,(3,ag2)],[o4,o3,o2,o5]⟩
def aPt:Sh:=⟨[e47,e30],[]⟩
def aRf:Sh:=⟨[e3],[o3,o2,o5,o4]⟩
def aP5:Sh:=⟨[k0,k1,e44],[]⟩
def aWl:Sh:=⟨[e10,e1],[o1]⟩
def aU8:Sh:=⟨[e5,e1],[]⟩
def aWy:Sh:=⟨[e40],[]⟩
def aWn:Sh:=⟨[e5,e27],[]⟩
def aT6:Sh:=⟨[e16,e27],[]⟩
def aU6:Sh:=⟨[e46],[o19]⟩
def aV3:Sh:=⟨[e46],[o9]⟩
def aVy:Sh:=⟨[e13,e22],[]⟩
def aUb:Sh:=⟨[e6],[o31]⟩
def aT5:Sh:=⟨[e50],[]⟩
def aUg:Sh:=⟨[k1,e7],[j1]⟩
def aZq:Sh:=⟨[e2],[o1]⟩
def bBb:Sh:=⟨[e2,e48],[]⟩
def bCw:Sh:=⟨[e5],[]⟩
def bAv:Sh:=⟨[e31],[]⟩
def bCg:Sh:=⟨[e62],[]⟩
def bBa:Sh:=⟨[e5,e58],[]⟩
def aZ0:Sh:=⟨[e6],[(0,aCa)]⟩
def bAc:Sh:=⟨[e6],[o12]⟩
def bC7:Sh:=⟨[e10,e1,(2,ag2)],[o4,o3,o2,o5]⟩
def bDa:Sh:=⟨[e36,e1,e4,e7],[]⟩
def bCy:Sh:=⟨[e32,e1,e4,e7,e11],[]⟩
def bAk:Sh:=⟨[e7],[]⟩
def bCc:Sh:=⟨[k2,k3],[j2,o24,o13]⟩
def bCz:Sh:=⟨[k0],[o17,o11,o18,o25]⟩
def bJx:Sh:=⟨[e2,e1,e4],[]⟩
def bJv:Sh:=⟨[e40,e1,e4],[]⟩
def bHn:Sh:=⟨[e41,e1],[]⟩
def bH6:Sh:=⟨[e2,e1,e4,(3,ag7)],[]⟩
def bHt:Sh:=⟨[(0,bQ9)],[o19]⟩
def bIi:Sh:=⟨[e50,(1,bHm)],[]⟩
def bH3:Sh:=⟨[e5,e51,e4,e7],[]⟩
def bIg:Sh:=⟨[e57],[o27,o28,o36,o37,o38,o39,o22,o40,(8,aHw),o41]⟩
def bI2:Sh:=⟨[e47],[]⟩
def bKi:Sh:=⟨[e53],[]⟩
def bI1:Sh:=⟨[e45,e1,e4],[]⟩
def bK3:Sh:=⟨[e6],[(0,aQd)]⟩
def bJp:Sh:=⟨[e31,e58],[]⟩
def bK5:Sh:=⟨[e17,(1,vr6)],[]⟩
def bIo:Sh:=⟨[e36,e1],[]⟩
def bIj:Sh:=⟨[e20,e1],[]⟩
def bKa:Sh:=⟨[e36,e1,e4,e7,e11],[]⟩
def bJa:Sh:=⟨[e42],[(0,aQi)]⟩
def bHh:Sh:=⟨[e10,(1,bRu)],[o4,o3,o2,o5]⟩
def bJw:Sh:=⟨[e6],[o19]⟩
def bKl:Sh:=⟨[(8,vr2)],[]⟩
def bKx:Sh:=⟨[k0,k1,k5,(25,vr2)],[]⟩
def bHj:Sh:=⟨[k1,k2,k3,e11],[j1,j2,o24,o13]⟩
def bH1:Sh:=⟨[e12],[o10]⟩
def bI8:Sh:=⟨[e15],[o7]⟩
def bKy:Sh:=⟨[k2,k3],[j2,j3]⟩
def bSb:Sh:=⟨[e5,e1,e4,(3,ag7)],[]⟩
def bSa:Sh:=⟨[(0,bKs)],[o33,(1,ow7)]⟩
def bS1:Sh:=⟨[(0,bKs)],[o27,o28]⟩
def bSe:Sh:=⟨[e21,(1,vr6)],[]⟩
def bTe:Sh:=⟨[e39,e28],[o9,o15,o20]⟩
def bTa:Sh:=⟨[(0,bR7),e1,e4],[]⟩
def bSg:Sh:=⟨[e16,e27,e18,(3,ag4)],[]⟩
def bSh:Sh:=⟨[e45,e27,e4,e7,(4,ag4)],[]⟩
def bS2:Sh:=⟨[e5,e51,e4,e7,e11],[]⟩
def bRc:Sh:=⟨[e43,(1,bAr),e4],[]⟩
def bQs:Sh:=⟨[e21,(1,bAr),e4],[]⟩
def bSp:Sh:=⟨[e32,e1,e4,e7],[]⟩
def bMg:Sh:=⟨[e2,e22,e4,e7,(4,vr6)],[]⟩
def bMq:Sh:=⟨[e53,(1,bRu)],[]⟩
def bMi:Sh:=⟨[e39,(1,bV0),e18],[o9,o15,o20,(3,ow5),(4,ow8)]⟩
def bNp:Sh:=⟨[(0,bTt)],[o6,o8]⟩
def bM6:Sh:=⟨[e5,e1,(2,ag2)],[]⟩
def bMo:Sh:=⟨[e5,e1,e4,e7,e11,(5,ag2)],[]⟩
def bM2:Sh:=⟨[e20,e1,e4,(3,vr6)],[]⟩
def bMy:Sh:=⟨[e6,e1,e18],[o14]⟩
def bN5:Sh:=⟨[e52,e28],[o12,o34]⟩
def bMt:Sh:=⟨[e5,e1,e4,e7,(4,ag2)],[]⟩
def bM7:Sh:=⟨[e10],[o4,o3,o2,o5]⟩
def bNr:Sh:=⟨[e10,e1],[o4,o3,o2,o5]⟩
def bM5:Sh:=⟨[(0,bHg)],[o3,o2,o5,o4]⟩
def bLu:Sh:=⟨[e10,(1,bVz)],[o1,o47,o48,o49]⟩
def bLx:Sh:=⟨[(0,bBu),(1,bBu)],[]⟩
def bLg:Sh:=⟨[k1,k2,e33,k6],[j2,o10]⟩
def bMd:Sh:=⟨[k2,k3,(37,vr2)],[j2,j3]⟩
def bL8:Sh:=⟨[k0,k2,k3,k4,k8],[j2,o35,o21,o32,o1]⟩
def bNu:Sh:=⟨[k1,k2,k3,e26],[j3]⟩
def bN1:Sh:=⟨[k9,(30,vr2)],[j9]⟩
def bNh:Sh:=⟨[k1,e65,e11],[j1,(5,ow3)]⟩
def bMz:Sh:=⟨[k2,k3,(22,vr2)],[j2,j3]⟩
def bNv:Sh:=⟨[k2,k3,e55,e14],[j2,j3]⟩
def bMj:Sh:=⟨[k2,k3,k5,k6],[j2,j3]⟩
def bL0:Sh:=⟨[k2],[(2,.box [.row 3,.row 7]),(3,aJ0),(7,aG2)]⟩
def bN0:Sh:=⟨[k6,k7],[j6,(7,ob8),o23]⟩
def bNk:Sh:=⟨[k1,k2,k3,e66],[j3,o29]⟩
def bLp:Sh:=⟨[k2,k3,e64],[j2,j3]⟩
def bLe:Sh:=⟨[e24,k4,k5],[o22,aDy]⟩
def bNs:Sh:=⟨[k2,k4,(18,vr2)],[j4]⟩
def bMm:Sh:=⟨[k0,k3,k4,e8],[cW]⟩
def bL2:Sh:=⟨[k1,k2,(21,vr2)],[j1,j2]⟩
def bNy:Sh:=⟨[k2,k3,e9],[(2,bS3),(3,bWh),bN2,bNz,bM8,aHk,bNg]⟩
def bMn:Sh:=⟨[k4,k5],[j4,(5,bWf),(1112,aBk)]⟩
def bL3:Sh:=⟨[k3,k4,(16,vr2)],[j3,j4]⟩
def bLm:Sh:=⟨[k4,k5],[j4,(5,bV5),aOl,bA3,aZ4]⟩
def bNb:Sh:=⟨[k2,k4,(21,vr2)],[j2,aGj]⟩
def bNo:Sh:=⟨[k3,k6,k7,k8,(24,vr2)],[j3,j6,j7,j8,aOb,bAs,bCi]⟩
def bLj:Sh:=⟨[k3,k6,k7,k8,(42,vr2)],[j3,j6,j7,j8,aOb,bAs,bCi]⟩
def bLc:Sh:=⟨[k0,k1,k5,k6,e61],[j0,j1,j2,j5,(7,bVj),(1544,aBk),aM]⟩
def bNt:Sh:=⟨[k0,k1,k5,e34],[j0,o2,j2,j5,aM]⟩
def bMu:Sh:=⟨[k0,k1,k5,k10],[j0,o2,j2,j5,aM]⟩
def bM9:Sh:=⟨[k0,k1,k5,k10,e68],[j0,j1,j2,j5,(11,bV7),(2312,aBk),(2313,ow2),(2314,aCa),aM]⟩
def bMp:Sh:=⟨[e1,(5,vr9)],[(6,ow8)]⟩
def bNa:Sh:=⟨[k0,k1,k7,(8,bQo)],[j0,j1,j2,j7,(8,bVi),(1560,ow5),(1561,ow8),aM]⟩
def bM4:Sh:=⟨[k0,k8,k9,k10,e68,e44],[j0,j1,j2,j8,(11,bVt),bLq,bLr,(2152,ow9),(2153,aGq),aM]⟩
def bLf:Sh:=⟨[k0,k8,k9,k10,k11,(83,vr2)],[j0,j1,j2,j8,j11,bLq,bLr,bNl,bMa,aM]⟩
def bNc:Sh:=⟨[],[o3,j1,j2,bNl,bMa,(1000000,bVy)]⟩
def bMf:Sh:=⟨[k0,k1,k7,e69],[j0,j1,j2,j7,(13,bVs),(2904,ow5),(2905,ow8),aM]⟩
def bNe:Sh:=⟨[],[o17,o11,o18,o25]⟩
def bLw:Sh:=⟨[k4,k5],[j1,j2,j4,j5,(14,ow4),(1000000,bVd)]⟩
def bL9:Sh:=⟨[],[o3,j1,j2,o4]⟩
def bNx:Sh:=⟨[k0,k1,k12,e37],[]⟩
def bN3:Sh:=⟨[e12,k6,k7,e23],[o10]⟩
def bL6:Sh:=⟨[e7,k6,k7,e23],[]⟩
def bMc:Sh:=⟨[e1,(5,.one (.row 1112))],[(1112,ow8)]⟩
def bLh:Sh:=⟨[k0,k1,k7,(8,bQo),e19],[j0,j1,j2,j7,(8,bVn),aM]⟩
def bL1:Sh:=⟨[k0,k1,k7,k8,k9,(54,vr2)],[j0,j1,j2,j7,j8,aM]⟩
def bN6:Sh:=⟨[k0,k1,e68,e44],[j0,j1,j2,(11,bWb),(2584,ow5),(2585,ow8),aM]⟩
def bLv:Sh:=⟨[k0,k1,k7,k9,(116,vr2)],[j0,j1,j2,j7,aM]⟩
def bMv:Sh:=⟨[k0,k1,k7,e69],[j0,j1,j2,j7,(13,bWe),(3176,ow5),(3177,ow8),aM]⟩
def bLz:Sh:=⟨[k2,k3,k4,k5,k9,k10,e15],[j4,j5,tU,uT,o26]⟩
def bMr:Sh:=⟨[k3,k5,e14,k7,k8,k9],[j5,cW]⟩
def bMx:Sh:=⟨[k2,k3,e14],[j2,j3]⟩
def aGm.con:Con:=⟨7,aFn,sh1,false,fun x=>aGm x⟩
def aA7.con:Con:=⟨70,aFn,⟨[(0,.one (.ptr 0 0))],[(0,ob1)]⟩,false,fun x=>aA7 x⟩
def xE.con:Con:=⟨72,aRp,sh2,false,fun (x0,x1)=>xE x0 x1⟩
def oT.con:Con:=⟨86,aJk,aZq,false,fun (x0,x1,x2)=>oT (x0,x1,x2)⟩
def aE.con:Con:=⟨38,aWl,aZq,false,fun (x0,x1,x2,x3)=>aE (x1,x2,x3) x0⟩
def uE.con:Con:=⟨285,⟨[e6,e1],[(0,.row 3 1 ti false)]⟩,aE7,false,fun (x0,x1)=>uE x1 x0⟩
def gE.con:Con:=⟨197,aU8,aE7,false,fun (x0,x1,x2)=>gE (x0,x1) x2⟩
def tK.con:Con:=⟨308,⟨[e10,e1,e4,e7],[(1000000,.box [.row 0,.row 1]),o53,o54]⟩,⟨[],[o53,o54,(1000000,.box [.row 0,.row 1])]⟩,false,fun (x0,x1,x2,x3,x4)=>tK (x3,x4) x0 x1 x2⟩
def dB.con:Con:=⟨37,aWl,⟨[e3],[o1]⟩,false,fun (x0,x1,x2,x3)=>dB (x1,x2,x3) x0⟩
def aJ.con:Con:=⟨126,bJx,sh1,false,fun (x0,x1,x2)=>aJ x0 x1 x2⟩
def dE.con:Con:=⟨240,aU8,sh1,false,fun (x0,x1,x2)=>dE (x0,x1) x2⟩
def oZ.con:Con:=⟨309,⟨[e5,(1,ag7)],[]⟩,sh1,false,fun (x0,x1,x2,x3,x4,x5,x6)=>oZ (x0,x1) (x2,x3,x4,x5,x6)⟩
def vC.con:Con:=⟨226,aJk,⟨[(0,bKs)],[o27,o28,o1]⟩,false,fun (x0,x1,x2)=>vC (x0,x1,x2)⟩
def sS.con:Con:=⟨286,bJv,sh1,false,fun (x0,x1,x2,x3,x4,x5,x6)=>sS (x0,x1,x2,x3,x4) x5 x6⟩
def jU.con:Con:=⟨199,aMl,sh2,false,fun (x0,x1,x2,x3)=>jU (x0,x1) x2 x3⟩
def dK.con:Con:=⟨282,aMl,sh2,false,fun (x0,x1,x2,x3)=>dK (x0,x1) x2 x3⟩
def gO.con:Con:=⟨316,aMl,aE7,false,fun (x0,x1,x2,x3)=>gO (x0,x1) x2 x3⟩
def fG.con:Con:=⟨118,aMl,sh5,false,fun (x0,x1,x2,x3)=>fG (x0,x1) x2 x3⟩
def cQ.con:Con:=⟨317,aIf,aE7,false,fun (x0,x1,x2)=>cQ (x0,x1,x2)⟩
def eV.con:Con:=⟨198,bHn,sh1,false,fun (x0,x1)=>eV x0 x1⟩
def uD.con:Con:=⟨360,aQ9,aE7,false,fun (x0,x1,x2,x3)=>uD (x0,x1,x2) x3⟩
def kJ.con:Con:=⟨275,sh2,sh1,false,fun x=>kJ x⟩
def qY.con:Con:=⟨301,sh5,sh2,false,fun (x0,x1)=>qY x0 x1⟩
def tP.con:Con:=⟨359,bBb,sh2,false,fun (x0,x1)=>tP x0 x1⟩
def gF.con:Con:=⟨315,aQ9,sh2,false,fun (x0,x1,x2,x3)=>gF (x0,x1,x2) x3⟩
def aFw.con:Con:=⟨415,sh5,sh2,false,fun (x0,x1)=>aFw x0 x1⟩
def uX.con:Con:=⟨404,aNf,sh2,false,fun x=>uX x⟩
def sQ.con:Con:=⟨388,bBb,sh2,false,fun (x0,x1)=>sQ x0 x1⟩
def vH.con:Con:=⟨358,bH6,sh2,false,fun (x0,x1,x2,x3,x4,x5,x6,x7)=>vH x0 x1 x2 (x3,x4,x5,x6,x7)⟩
def eP.con:Con:=⟨314,bH6,aWy,false,fun (x0,x1,x2,x3,x4,x5,x6,x7)=>eP x0 x1 x2 (x3,x4,x5,x6,x7)⟩
def iR.con:Con:=⟨229,⟨[e10,(1,ag1),e4],[o1]⟩,⟨[(0,bQ9)],[o19,o1]⟩,false,fun (x0,x1,x2,x3,x4,x5)=>iR (x3,x4,x5) (x0,x1) x2⟩
def fH.con:Con:=⟨183,aIf,bHt,false,fun (x0,x1,x2)=>fH (x0,x1,x2)⟩
def tX.con:Con:=⟨228,aWn,bHt,false,fun (x0,x1,x2,x3,x4)=>tX (x0,x1) (x2,x3,x4)⟩
def eQ.con:Con:=⟨110,⟨[(0,aVp)],[]⟩,aQr,false,fun x=>eQ x⟩
def iU.con:Con:=⟨383,aWy,sh1,false,fun (x0,x1,x2,x3,x4)=>iU (x0,x1,x2,x3,x4)⟩
def iB.con:Con:=⟨355,aWn,sh1,false,fun (x0,x1,x2,x3,x4)=>iB (x0,x1) (x2,x3,x4)⟩
def fJ.con:Con:=⟨349,bSb,sh1,false,fun (x0,x1,x2,x3,x4,x5,x6,x7,x8)=>fJ (x0,x1) x2 x3 (x4,x5,x6,x7,x8)⟩
def fT.con:Con:=⟨356,aWn,sh2,false,fun (x0,x1,x2,x3,x4)=>fT (x0,x1) (x2,x3,x4)⟩
def cB.con:Con:=⟨264,aIf,sh2,false,fun (x0,x1,x2)=>cB (x0,x1,x2)⟩
def fW.con:Con:=⟨313,aWn,sh2,false,fun (x0,x1,x2,x3,x4)=>fW (x0,x1) (x2,x3,x4)⟩
def kF.con:Con:=⟨310,aWn,sh1,false,fun (x0,x1,x2,x3,x4)=>kF (x0,x1) (x2,x3,x4)⟩
def kA.con:Con:=⟨311,aIf,sh1,false,fun (x0,x1,x2)=>kA (x0,x1,x2)⟩
def iA.con:Con:=⟨403,bIi,sh1,false,fun (x0,x1)=>iA x0 x1⟩
def iY.con:Con:=⟨387,aT6,sh1,false,fun (x0,x1,x2,x3,x4,x5)=>iY (x0,x1,x2) (x3,x4,x5)⟩
def sN.con:Con:=⟨357,⟨[(0,aVp),e27],[]⟩,sh1,false,fun (x0,x1,x2,x3)=>sN x0 (x1,x2,x3)⟩
def nE.con:Con:=⟨312,⟨[e45,e27],[]⟩,sh1,false,fun (x0,x1,x2,x3,x4)=>nE (x0,x1) (x2,x3,x4)⟩
def nN.con:Con:=⟨227,⟨[e5,e51,(2,ag4)],[]⟩,bSa,false,fun (x0,x1,x2,x3,x4,x5,x6)=>nN (x0,x1) (x2,x3) (x4,x5,x6)⟩
def tO.con:Con:=⟨341,sh2,sh1,false,fun x=>tO x⟩
def kU.con:Con:=⟨254,bCw,sh1,false,fun (x0,x1)=>kU (x0,x1)⟩
def pQ.con:Con:=⟨109,bCw,bS1,false,fun (x0,x1)=>pQ (x0,x1)⟩
def mE.con:Con:=⟨318,sh2,aQ1,false,fun x=>mE x⟩
def pM.con:Con:=⟨230,bH3,bIg,false,fun (x0,x1,x2,x3,x4,x5)=>pM (x0,x1) (x2,x3) x4 x5⟩
def dW.con:Con:=⟨265,aIf,sh2,false,fun (x0,x1,x2)=>dW (x0,x1,x2)⟩
def wP.con:Con:=⟨231,⟨[e10,e51],[o1]⟩,⟨[e2,e1],[o1]⟩,false,fun (x0,x1,x2,x3,x4)=>wP (x2,x3,x4) (x0,x1)⟩
def nQ.con:Con:=⟨89,⟨[e10,e48],[o1]⟩,aZq,false,fun (x0,x1,x2,x3)=>nQ (x1,x2,x3) x0⟩
def zD.con:Con:=⟨232,bJx,aKw,false,fun (x0,x1,x2)=>zD x0 x1 x2⟩
def dF.con:Con:=⟨170,aWl,⟨[e6],[o31,o1]⟩,false,fun (x0,x1,x2,x3)=>dF (x1,x2,x3) x0⟩
def oU.con:Con:=⟨272,⟨[(0,bBu)],[]⟩,⟨[e6],[o9]⟩,false,fun x=>oU x⟩
def nV.con:Con:=⟨54,bAv,aU6,false,fun (x0,x1,x2,x3)=>nV (x0,x1,x2,x3)⟩
def gY.con:Con:=⟨133,sh6,aKo,false,fun x=>gY x⟩
def wI.con:Con:=⟨273,aGu,aMy,false,fun x=>wI x⟩
def eF.con:Con:=⟨185,aGv,aKw,false,fun (x0,x1,x2,x3,x4,x5,x6,x7,x8)=>eF (x0,x1,x2,x3,x4,x5,x6,x7,x8)⟩
def aAm.con:Con:=⟨291,sh5,sh2,false,fun (x0,x1)=>aAm x0 x1⟩
def bQ.con:Con:=⟨135,bCg,sh1,false,fun (x0,x1,x2)=>bQ (x0,x1,x2)⟩
def lJ.con:Con:=⟨257,aGv,sh1,false,fun (x0,x1,x2,x3,x4,x5,x6,x7,x8)=>lJ (x0,x1,x2,x3,x4,x5,x6,x7,x8)⟩
def pW.con:Con:=⟨233,bSe,bTe,false,fun (x0,x1,x2,x3,x4,x5,x6,x7,x8,x9)=>pW (x0,x1,x2,x3,x4,x5,x6,x7,x8) x9⟩
def gX.con:Con:=⟨111,⟨[e36],[]⟩,aQ1,false,fun (x0,x1,x2)=>gX (x0,x1,x2)⟩
def fA.con:Con:=⟨184,sh7,aGo,false,fun (x0,x1,x2,x3,x4,x5,x6,x7,x8,x9)=>fA (x0,x1,x2,x3,x4,x5,x6,x7,x8,x9)⟩
def sL.con:Con:=⟨112,⟨[(0,.one (.var (.sl tFy)))],[]⟩,⟨[e6],[(0,aDr)]⟩,false,fun x=>sL x⟩
def nF.con:Con:=⟨113,⟨[(0,.one (.var (.sl tFl)))],[]⟩,⟨[e6],[(0,aHw)]⟩,false,fun x=>nF x⟩
def sE.con:Con:=⟨186,bI2,aV3,false,fun (x0,x1,x2,x3)=>sE (x0,x1,x2,x3)⟩
def mT.con:Con:=⟨114,⟨[(0,bR7)],[]⟩,⟨[e6],[(0,aGw)]⟩,false,fun x=>mT x⟩
def qA.con:Con:=⟨48,bKi,bIg,false,fun (x0,x1,x2,x3,x4,x5,x6,x7,x8,x9,x10,x11,x12)=>qA ((x0,x1),(x2,x3),(x4,x5,x6),x7,x8,x9,x10,x11,x12)⟩
def lM.con:Con:=⟨201,bTa,sh2,false,fun (x0,x1,x2)=>lM x0 x1 x2⟩
def dA.con:Con:=⟨392,⟨[e45,e1],[]⟩,aQr,false,fun (x0,x1,x2)=>dA (x0,x1) x2⟩
def nD.con:Con:=⟨409,aQ9,sh2,false,fun (x0,x1,x2,x3)=>nD (x0,x1,x2) x3⟩
def cZ.con:Con:=⟨278,sh2,sh1,false,fun x=>cZ x⟩
def bJ.con:Con:=⟨263,⟨[e16,e1,e4],[]⟩,aU6,false,fun (x0,x1,x2,x3,x4)=>bJ (x0,x1,x2) x3 x4⟩
def mW.con:Con:=⟨410,bI1,aQr,false,fun (x0,x1,x2,x3)=>mW (x0,x1) x2 x3⟩
def lR.con:Con:=⟨411,bSg,aKo,false,fun (x0,x1,x2,x3,x4,x5,x6,x7,x8,x9)=>lR (x0,x1,x2) (x3,x4,x5) x6 (x7,x8,x9)⟩
def hP.con:Con:=⟨394,bSh,aMy,false,fun (x0,x1,x2,x3,x4,x5,x6,x7,x8,x9)=>hP (x0,x1) (x2,x3,x4) x5 x6 (x7,x8,x9)⟩
def uM.con:Con:=⟨391,bI1,aMy,false,fun (x0,x1,x2,x3)=>uM (x0,x1) x2 x3⟩
def iQ.con:Con:=⟨262,aT6,aKo,false,fun (x0,x1,x2,x3,x4,x5)=>iQ (x0,x1,x2) (x3,x4,x5)⟩
def iE.con:Con:=⟨393,aT6,aKo,false,fun (x0,x1,x2,x3,x4,x5)=>iE (x0,x1,x2) (x3,x4,x5)⟩
def mH.con:Con:=⟨363,bH3,aMy,false,fun (x0,x1,x2,x3,x4,x5)=>mH (x0,x1) (x2,x3) x4 x5⟩
def sF.con:Con:=⟨384,bAv,aE7,false,fun (x0,x1,x2,x3)=>sF (x0,x1,x2,x3)⟩
def cX.con:Con:=⟨194,aM8,sh2,false,fun (x0,x1,x2,x3,x4)=>cX (x0,x1,x2,x3) x4⟩
def eK.con:Con:=⟨190,aM8,sh2,false,fun (x0,x1,x2,x3,x4)=>eK (x0,x1,x2,x3) x4⟩
def rR.con:Con:=⟨347,bBa,sh1,false,fun (x0,x1,x2,x3,x4,x5)=>rR (x0,x1) (x2,x3,x4,x5)⟩
def tV.con:Con:=⟨348,sh2,sh2,false,fun x=>tV x⟩
def jP.con:Con:=⟨276,aRd,sh1,false,fun (x0,x1,x2)=>jP (x0,x1) x2⟩
def eG.con:Con:=⟨121,sh6,bK3,false,fun x=>eG x⟩
def fI.con:Con:=⟨277,sh6,aE7,false,fun x=>fI x⟩
def lA.con:Con:=⟨188,aRd,sh1,false,fun (x0,x1,x2)=>lA (x0,x1) x2⟩
def vE.con:Con:=⟨300,sh5,sh2,false,fun (x0,x1)=>vE x0 x1⟩
def gI.con:Con:=⟨215,aM8,sh2,false,fun (x0,x1,x2,x3,x4)=>gI (x0,x1,x2,x3) x4⟩
def wO.con:Con:=⟨416,aM8,sh2,false,fun (x0,x1,x2,x3,x4)=>wO (x0,x1,x2,x3) x4⟩
def nH.con:Con:=⟨412,bBa,sh1,false,fun (x0,x1,x2,x3,x4,x5)=>nH (x0,x1) (x2,x3,x4,x5)⟩
def qG.con:Con:=⟨395,aRd,sh1,false,fun (x0,x1,x2)=>qG (x0,x1) x2⟩
def kY.con:Con:=⟨350,⟨[e40,e1],[]⟩,sh1,false,fun (x0,x1,x2,x3,x4,x5)=>kY (x0,x1,x2,x3,x4) x5⟩
def pO.con:Con:=⟨364,⟨[e5,e22,e4],[]⟩,sh1,false,fun (x0,x1,x2,x3)=>pO (x0,x1) x2 x3⟩
def jH.con:Con:=⟨413,bJp,sh1,false,fun (x0,x1,x2,x3,x4,x5,x6,x7)=>jH (x0,x1,x2,x3) (x4,x5,x6,x7)⟩
def iD.con:Con:=⟨396,aVy,sh1,false,fun (x0,x1)=>iD x0 x1⟩
def wN.con:Con:=⟨365,⟨[e35,e22],[]⟩,sh1,false,fun (x0,x1)=>wN x0 x1⟩
def jW.con:Con:=⟨320,bS2,aGu,false,fun (x0,x1,x2,x3,x4,x5,x6)=>jW (x0,x1) (x2,x3) x4 x5 x6⟩
def lO.con:Con:=⟨406,sh6,sh2,false,fun x=>lO x⟩
def jI.con:Con:=⟨407,sh6,sh2,false,fun x=>jI x⟩
def mX.con:Con:=⟨408,sh6,sh2,false,fun x=>mX x⟩
def pT.con:Con:=⟨390,aVy,sh1,false,fun (x0,x1)=>pT x0 x1⟩
def rZ.con:Con:=⟨362,aGu,aGu,false,fun x=>rZ x⟩
def fQ.con:Con:=⟨405,⟨[e43,e1],[]⟩,aZ0,false,fun (x0,x1)=>fQ x0 x1⟩
def pR.con:Con:=⟨294,⟨[e13,e63],[]⟩,sh1,false,fun (x0,x1,x2,x3)=>pR x0 (x1,x2,x3)⟩
def uW.con:Con:=⟨389,⟨[e43,e22,e4],[]⟩,sh1,false,fun (x0,x1,x2)=>uW x0 x1 x2⟩
def iP.con:Con:=⟨361,bRc,aMy,false,fun (x0,x1,x2)=>iP x0 x1 x2⟩
def yF.con:Con:=⟨60,sh5,sh2,false,fun (x0,x1)=>yF x0 x1⟩
def oW.con:Con:=⟨319,bQs,⟨[(0,.agg [.var ti,.var ti,.var ti,.var ti,.row 0,.var (.sl tPt),.var ti,.var ti,.row 1])],[o9,(1,aCa)]⟩,false,fun (x0,x1,x2,x3,x4,x5,x6,x7,x8,x9,x10)=>oW (x0,x1,x2,x3,x4,x5,x6,x7,x8) x9 x10⟩
def wX.con:Con:=⟨168,sh5,aV3,false,fun (x0,x1)=>wX x0 x1⟩
def wR.con:Con:=⟨234,⟨[e53,(1,ag5)],[]⟩,⟨[e57,e28],[o27,o28,o36,o37,o38,o39,o22,o40,(8,ow1),o41]⟩,false,fun (x0,x1,x2,x3,x4,x5,x6,x7,x8,x9,x10,x11,x12,x13,x14,x15,x16,x17,x18,x19,x20,x21)=>wR ((x0,x1),(x2,x3),(x4,x5,x6),x7,x8,x9,x10,x11,x12) (x13,x14,x15,x16,x17,x18,x19,x20,x21)⟩
def nU.con:Con:=⟨321,sh6,bK3,false,fun x=>nU x⟩
def pS.con:Con:=⟨366,⟨[e32,(1,ag7)],[]⟩,bAc,false,fun (x0,x1,x2,x3,x4,x5)=>pS x0 (x1,x2,x3,x4,x5)⟩
def gZ.con:Con:=⟨367,aWy,sh1,false,fun (x0,x1,x2,x3,x4)=>gZ (x0,x1,x2,x3,x4)⟩
def xW.con:Con:=⟨290,⟨[e40,e1,e4,e7],[]⟩,sh1,false,fun (x0,x1,x2,x3,x4,x5,x6,x7)=>xW (x0,x1,x2,x3,x4) x5 x6 x7⟩
def iG.con:Con:=⟨292,bSp,sh2,false,fun (x0,x1,x2,x3)=>iG x0 x1 x2 x3⟩
def aBc.con:Con:=⟨322,⟨[e32,(1,ag7),e4,e7],[]⟩,⟨[e6,e28],[o12]⟩,false,fun (x0,x1,x2,x3,x4,x5,x6,x7)=>aBc x0 (x1,x2,x3,x4,x5) x6 x7⟩
def cS.con:Con:=⟨235,⟨[e32,e1,(2,ag3),e7,e11,e8,e14],[]⟩,⟨[e6,e28],[o12]⟩,false,fun (x0,x1,x2,x3,x4,x5,x6)=>cS x0 x1 x2 x3 x4 x5 x6⟩
def yT.con:Con:=⟨151,aJk,⟨[e57],[o27,o28,o36,o37,o38,o39,o22,o40,(8,ow1),o41,o1]⟩,false,fun (x0,x1,x2)=>yT (x0,x1,x2)⟩
def rS.con:Con:=⟨169,aJk,⟨[e5,(1,bRq)],[o6,o1]⟩,false,fun (x0,x1,x2)=>rS (x0,x1,x2)⟩
def rQ.con:Con:=⟨132,sh6,sh5,false,fun x=>rQ x⟩
def cE.con:Con:=⟨61,bMg,aGo,false,fun (x0,x1,x2,x3,x4)=>cE x0 x1 x2 x3 x4⟩
def wS.con:Con:=⟨87,aJk,⟨[e5,(1,ag9)],[o6,o8,o1]⟩,false,fun (x0,x1,x2)=>wS (x0,x1,x2)⟩
def mB.con:Con:=⟨88,aJk,aZq,false,fun (x0,x1,x2)=>mB (x0,x1,x2)⟩
def zE.con:Con:=⟨90,aJk,⟨[(0,.agg [.any,.any]),e22],[o1]⟩,false,fun (x0,x1,x2)=>zE (x0,x1,x2)⟩
def yS.con:Con:=⟨39,aJk,⟨[e5,(1,.agg [.var ti,.var ti,.var ti,.var (.sl tPp),.var ti,.var ti,.var ti,.var ti,.var ti,.row 0])],[o31,o1]⟩,false,fun (x0,x1,x2)=>yS (x0,x1,x2)⟩
def rU.con:Con:=⟨346,aIf,sh1,false,fun (x0,x1,x2)=>rU (x0,x1,x2)⟩
def kN.con:Con:=⟨274,sh6,sh1,false,fun x=>kN x⟩
def iF.con:Con:=⟨187,sh7,sh1,false,fun (x0,x1,x2,x3,x4,x5,x6,x7,x8,x9)=>iF (x0,x1,x2,x3,x4,x5,x6,x7,x8,x9)⟩
def mU.con:Con:=⟨368,⟨[e53,e1,e4],[]⟩,sh1,false,fun (x0,x1,x2,x3,x4,x5,x6,x7,x8,x9,x10,x11,x12,x13,x14)=>mU ((x0,x1),(x2,x3),(x4,x5,x6),x7,x8,x9,x10,x11,x12) x13 x14⟩
def sM.con:Con:=⟨343,bK5,sh1,false,fun (x0,x1)=>sM x0 x1⟩
def kE.con:Con:=⟨369,⟨[e20,e30],[]⟩,sh1,false,fun (x0,x1,x2,x3,x4,x5,x6,x7,x8,x9,x10,x11,x12,x13,x14,x15,x16,x17,x18,x19)=>kE (x0,x1,x2,x3,x4,x5,x6,x7,x8,x9) (x10,x11,x12,x13,x14,x15,x16,x17,x18,x19)⟩
def pG.con:Con:=⟨323,bMq,sh1,false,fun (x0,x1,x2,x3,x4,x5,x6,x7,x8,x9,x10,x11,x12,x13,x14,x15,x16,x17,x18,x19,x20,x21,x22,x23,x24,x25,x26,x27)=>pG ((x0,x1),(x2,x3),(x4,x5,x6),x7,x8,x9,x10,x11,x12) (x13,x14,x15,(x16,x17,(x18,x19,x20,x21,x22,x23,x24,x25,x26,x27)))⟩
def fE.con:Con:=⟨370,⟨[e32,e1],[]⟩,bAc,false,fun (x0,x1)=>fE x0 x1⟩
def vK.con:Con:=⟨324,bIo,aQ1,false,fun (x0,x1,x2,x3)=>vK (x0,x1,x2) x3⟩
def dZ.con:Con:=⟨371,aGv,aQn,false,fun (x0,x1,x2,x3,x4,x5,x6,x7,x8)=>dZ (x0,x1,x2,x3,x4,x5,x6,x7,x8)⟩
def rY.con:Con:=⟨295,aGv,aKw,false,fun (x0,x1,x2,x3,x4,x5,x6,x7,x8)=>rY (x0,x1,x2,x3,x4,x5,x6,x7,x8)⟩
def tN.con:Con:=⟨325,aGv,bMi,false,fun (x0,x1,x2,x3,x4,x5,x6,x7,x8)=>tN (x0,x1,x2,x3,x4,x5,x6,x7,x8)⟩
def nX.con:Con:=⟨49,aQk,aE8,false,fun (x0,x1,x2,x3,x4,x5,x6,x7,x8,x9,x10,x11,x12,x13,x14,x15,x16,x17,x18,x19,x20,x21,x22,x23,x24)=>nX ((x12,x13),(x14,x15),(x16,x17,x18),x19,x20,x22,x23,x24,x21) x0 x1 (x2,x3,x4,x5,x6,x7,x8,x9,x10,x11)⟩
def oY.con:Con:=⟨283,sh2,sh1,false,fun x=>oY x⟩
def xT.con:Con:=⟨284,sh2,sh1,false,fun x=>xT x⟩
def qI.con:Con:=⟨200,sh5,sh2,false,fun (x0,x1)=>qI x0 x1⟩
def eA.con:Con:=⟨116,⟨[e5,e48,e4],[]⟩,sh2,false,fun (x0,x1,x2,x3)=>eA (x0,x1) x2 x3⟩
def dN.con:Con:=⟨53,sh7,sh2,false,fun (x0,x1,x2,x3,x4,x5,x6,x7,x8,x9)=>dN (x0,x1,x2,x3,x4,x5,x6,x7,x8,x9)⟩
def sJ.con:Con:=⟨189,⟨[e2,e30],[]⟩,bNp,false,fun (x0,x1,x2,x3,x4,x5,x6,x7,x8,x9,x10)=>sJ x0 (x1,x2,x3,x4,x5,x6,x7,x8,x9,x10)⟩
def gQ.con:Con:=⟨279,⟨[e5,e30],[]⟩,aQn,false,fun (x0,x1,x2,x3,x4,x5,x6,x7,x8,x9,x10,x11)=>gQ (x0,x1) (x2,x3,x4,x5,x6,x7,x8,x9,x10,x11)⟩
def iN.con:Con:=⟨280,bIj,sh1,false,fun (x0,x1,x2,x3,x4,x5,x6,x7,x8,x9,x10)=>iN (x0,x1,x2,x3,x4,x5,x6,x7,x8,x9) x10⟩
def nJ.con:Con:=⟨191,bM6,⟨[e25,e1],[o6,o8]⟩,false,fun (x0,x1,x2,x3,x4,x5,x6,x7,x8,x9,x10,x11,x12)=>nJ (x0,x1) x2 (x3,x4,x5,x6,x7,x8,x9,x10,x11,x12)⟩
def kZ.con:Con:=⟨193,sh7,sh1,false,fun (x0,x1,x2,x3,x4,x5,x6,x7,x8,x9)=>kZ (x0,x1,x2,x3,x4,x5,x6,x7,x8,x9)⟩
def fY.con:Con:=⟨192,sh7,aGo,false,fun (x0,x1,x2,x3,x4,x5,x6,x7,x8,x9)=>fY (x0,x1,x2,x3,x4,x5,x6,x7,x8,x9)⟩
def jE.con:Con:=⟨281,sh5,sh1,false,fun (x0,x1)=>jE x0 x1⟩
def oC.con:Con:=⟨195,⟨[e5,e63],[]⟩,sh1,false,fun (x0,x1,x2,x3,x4)=>oC (x0,x1) (x2,x3,x4)⟩
def uF.con:Con:=⟨196,sh5,sh1,false,fun (x0,x1)=>uF x0 x1⟩
def rV.con:Con:=⟨115,bMo,bNp,false,fun (x0,x1,x2,x3,x4,x5,x6,x7,x8,x9,x10,x11,x12,x13,x14,x15)=>rV (x0,x1) x2 x3 x4 x5 (x6,x7,x8,x9,x10,x11,x12,x13,x14,x15)⟩
def vB.con:Con:=⟨287,aPt,sh1,false,fun (x0,x1,x2,x3,x4,x5,x6,x7,x8,x9,x10,x11,x12,x13)=>vB (x0,x1,x2,x3) (x4,x5,x6,x7,x8,x9,x10,x11,x12,x13)⟩
def nC.con:Con:=⟨202,aPt,aV3,false,fun (x0,x1,x2,x3,x4,x5,x6,x7,x8,x9,x10,x11,x12,x13)=>nC (x0,x1,x2,x3) (x4,x5,x6,x7,x8,x9,x10,x11,x12,x13)⟩
def mA.con:Con:=⟨214,sh2,sh2,false,fun x=>mA x⟩
def nY.con:Con:=⟨134,bAv,aU6,false,fun (x0,x1,x2,x3)=>nY (x0,x1,x2,x3)⟩
def jX.con:Con:=⟨62,sh6,aKo,false,fun x=>jX x⟩
def aA4.con:Con:=⟨288,bM2,aGo,false,fun (x0,x1,x2,x3,x4,x5,x6,x7,x8,x9,x10,x11,x12)=>aA4 (x0,x1,x2,x3,x4,x5,x6,x7,x8,x9) x10 x11 x12⟩
def uP.con:Con:=⟨203,aPt,aQn,false,fun (x0,x1,x2,x3,x4,x5,x6,x7,x8,x9,x10,x11,x12,x13)=>uP (x0,x1,x2,x3) (x4,x5,x6,x7,x8,x9,x10,x11,x12,x13)⟩
def pJ.con:Con:=⟨204,⟨[e21,e30],[]⟩,aKw,false,fun (x0,x1,x2,x3,x4,x5,x6,x7,x8,x9,x10,x11,x12,x13,x14,x15,x16,x17,x18)=>pJ (x0,x1,x2,x3,x4,x5,x6,x7,x8) (x9,x10,x11,x12,x13,x14,x15,x16,x17,x18)⟩
def pX.con:Con:=⟨385,aRp,⟨[e2,e1,e18],[]⟩,false,fun (x0,x1)=>pX x0 x1⟩
def qL.con:Con:=⟨351,⟨[e17,e1,e4],[]⟩,bMy,false,fun (x0,x1,x2)=>qL x0 x1 x2⟩
def gV.con:Con:=⟨293,aFn,⟨[e62,e28],[]⟩,false,fun x=>gV x⟩
def kT.con:Con:=⟨296,⟨[e43,e63],[]⟩,⟨[e43],[]⟩,false,fun (x0,x1,x2,x3)=>kT x0 (x1,x2,x3)⟩
def gU.con:Con:=⟨209,⟨[e21,e30,e4],[]⟩,⟨[(0,.agg [.var ti,.var ti,.var ti,.var ti,.row 0,.row 1,.var ti,.var ti,.var (.sl tRv)])],[o9,o15]⟩,false,fun (x0,x1,x2,x3,x4,x5,x6,x7,x8,x9,x10,x11,x12,x13,x14,x15,x16,x17,x18,x19)=>gU (x0,x1,x2,x3,x4,x5,x6,x7,x8) (x9,x10,x11,x12,x13,x14,x15,x16,x17,x18) x19⟩
def mF.con:Con:=⟨122,bC7,aE8,false,fun (x0,x1,x2,x3,x4,x5,x6,x7,x8,x9,x10,x11,x12,x13,x14,x15,x16,x17,x18,x19,x20,x21,x22,x23)=>mF ((x11,x12),(x13,x14),(x15,x16,x17),x18,x19,x21,x22,x23,x20) x0 (x1,x2,x3,x4,x5,x6,x7,x8,x9,x10)⟩
def rN.con:Con:=⟨117,bC7,aE8,false,fun (x0,x1,x2,x3,x4,x5,x6,x7,x8,x9,x10,x11,x12,x13,x14,x15,x16,x17,x18,x19,x20,x21,x22,x23)=>rN ((x11,x12),(x13,x14),(x15,x16,x17),x18,x19,x21,x22,x23,x20) x0 (x1,x2,x3,x4,x5,x6,x7,x8,x9,x10)⟩
def oX.con:Con:=⟨289,⟨[(0,.one (.var (.sl tUs))),e1,e4,e7],[]⟩,sh2,false,fun (x0,x1,x2,x3)=>oX x0 x1 x2 x3⟩
def pC.con:Con:=⟨205,bDa,sh2,false,fun (x0,x1,x2,x3,x4,x5)=>pC (x0,x1,x2) x3 x4 x5⟩
def iK.con:Con:=⟨206,bCy,sh2,false,fun (x0,x1,x2,x3,x4)=>iK x0 x1 x2 x3 x4⟩
def uI.con:Con:=⟨207,bDa,aQ1,false,fun (x0,x1,x2,x3,x4,x5)=>uI (x0,x1,x2) x3 x4 x5⟩
def uR.con:Con:=⟨208,bCy,sh2,false,fun (x0,x1,x2,x3,x4)=>uR x0 x1 x2 x3 x4⟩
def rF.con:Con:=⟨119,bKa,bN5,false,fun (x0,x1,x2,x3,x4,x5,x6)=>rF (x0,x1,x2) x3 x4 x5 x6⟩
def rX.con:Con:=⟨120,sh7,sh2,false,fun (x0,x1,x2,x3,x4,x5,x6,x7,x8,x9)=>rX (x0,x1,x2,x3,x4,x5,x6,x7,x8,x9)⟩
def gC.con:Con:=⟨16,sh7,bJa,false,fun (x0,x1,x2,x3,x4,x5,x6,x7,x8,x9)=>gC (x0,x1,x2,x3,x4,x5,x6,x7,x8,x9)⟩
def mI.con:Con:=⟨216,aRp,aUb,false,fun (x0,x1)=>mI x0 x1⟩
def pV.con:Con:=⟨136,aNf,aUb,false,fun x=>pV x⟩
def gR.con:Con:=⟨63,bCg,aUb,false,fun (x0,x1,x2)=>gR (x0,x1,x2)⟩
def fF.con:Con:=⟨19,bMt,aGo,false,fun (x0,x1,x2,x3,x4,x5,x6,x7,x8,x9,x10,x11,x12,x13,x14)=>fF (x0,x1) x2 x3 x4 (x5,x6,x7,x8,x9,x10,x11,x12,x13,x14)⟩
def fV.con:Con:=⟨49,aQk,aE8,false,fun (x0,x1,x2,x3,x4,x5,x6,x7,x8,x9,x10,x11,x12,x13,x14,x15,x16,x17,x18,x19,x20,x21,x22,x23,x24)=>fV ((x12,x13),(x14,x15),(x16,x17,x18),x19,x20,x22,x23,x24,x21) x0 x1 (x2,x3,x4,x5,x6,x7,x8,x9,x10,x11)⟩
def iM.con:Con:=⟨117,bC7,aE8,false,fun (x0,x1,x2,x3,x4,x5,x6,x7,x8,x9,x10,x11,x12,x13,x14,x15,x16,x17,x18,x19,x20,x21,x22,x23)=>iM ((x11,x12),(x13,x14),(x15,x16,x17),x18,x19,x21,x22,x23,x20) x0 (x1,x2,x3,x4,x5,x6,x7,x8,x9,x10)⟩
def dR.con:Con:=⟨49,aQk,aE8,false,fun (x0,x1,x2,x3,x4,x5,x6,x7,x8,x9,x10,x11,x12,x13,x14,x15,x16,x17,x18,x19,x20,x21,x22,x23,x24)=>dR ((x12,x13),(x14,x15),(x16,x17,x18),x19,x20,x22,x23,x24,x21) x0 x1 (x2,x3,x4,x5,x6,x7,x8,x9,x10,x11)⟩
def tZ.con:Con:=⟨237,bM7,aRf,false,fun (x0,x1,x2,x3,x4,x5,x6,x7,x8,x9,x10,x11,x12)=>tZ ((x0,x1),(x2,x3),(x4,x5,x6),x7,x8,x10,x11,x12,x9)⟩
def uQ.con:Con:=⟨238,bNr,bM5,false,fun (x0,x1,x2,x3,x4,x5,x6,x7,x8,x9,x10,x11,x12,x13)=>uQ ((x1,x2),(x3,x4),(x5,x6,x7),x8,x9,x11,x12,x13,x10) x0⟩
def wM.con:Con:=⟨239,⟨[e10,e1,e18],[o4,o3,o2,o5]⟩,aRf,false,fun (x0,x1,x2,x3,x4,x5,x6,x7,x8,x9,x10,x11,x12,x13,x14)=>wM ((x2,x3),(x4,x5),(x6,x7,x8),x9,x10,x12,x13,x14,x11) x0 x1⟩
def yY.con:Con:=⟨241,bHh,aRf,false,fun (x0,x1,x2,x3,x4,x5,x6,x7,x8,x9,x10,x11,x12,x13,x14,x15,x16,x17,x18,x19,x20,x21,x22,x23,x24,x25,x26,x27)=>yY ((x15,x16),(x17,x18),(x19,x20,x21),x22,x23,x25,x26,x27,x24) (x0,x1,x2,(x3,x4,(x5,x6,x7,x8,x9,x10,x11,x12,x13,x14)))⟩
def aA0.con:Con:=⟨153,bHh,aRf,false,fun (x0,x1,x2,x3,x4,x5,x6,x7,x8,x9,x10,x11,x12,x13,x14,x15,x16,x17,x18,x19,x20,x21,x22,x23,x24,x25,x26,x27)=>aA0 ((x15,x16),(x17,x18),(x19,x20,x21),x22,x23,x25,x26,x27,x24) (x0,x1,x2,(x3,x4,(x5,x6,x7,x8,x9,x10,x11,x12,x13,x14)))⟩
def nI.con:Con:=⟨236,bLu,⟨[(0,.agg [.var ti,.var ti,.row 1,.var ti,.var ti,.var ti,.var ti,.var ti,.var (.sl tPp),.var ti,.var ti,.var ti,.var ti,.var ti,.row 0])],[o31,o8,o1,o47,o48,o49]⟩,false,fun (x0,x1,x2,x3,x4,x5,x6,x7,x8,x9,x10,x11,x12,x13,x14,x15)=>nI (x10,x11,x12) ((x0,x1),(x2,x3),(x4,x5,x6),x7,x8,x13,x14,x15,x9)⟩
def rO.con:Con:=⟨152,bLu,⟨[(0,.agg [.var ti,.var ti,.row 0,.var ti,.var ti,.var ti,.var ti,.var ti,.var (.sl tPp),.var ti,.var ti,.var ti,.var ti,.var ti,.row 1])],[o31,o8,o1,o47,o48,o49]⟩,false,fun (x0,x1,x2,x3,x4,x5,x6,x7,x8,x9,x10,x11,x12,x13,x14,x15)=>rO (x10,x11,x12) ((x0,x1),(x2,x3),(x4,x5,x6),x7,x8,x13,x14,x15,x9)⟩
def yJ.con:Con:=⟨71,aWl,⟨[e57,(1,.one (.var (.sl cL))),(2,.agg [.var (.sl tAS),.var (.sl tLk),.var (.sl tSg),.var (.sl tSg),.var ti,.var (.sl tRs),.var (.sl tUs),.var ti,.var (.sl ti),.row 10,.row 11,.row 12,.var ti])],[o27,o28,o36,o37,o38,o39,o22,o40,(8,ow1),o41,(10,ow4),(11,ow1),(12,ow6),o1]⟩,false,fun (x0,x1,x2,x3)=>yJ (x1,x2,x3) x0⟩
def uH.con:Con:=⟨81,aWl,⟨[(0,bS8)],[o3,o2,o5,o1]⟩,false,fun (x0,x1,x2,x3)=>uH (x1,x2,x3) x0⟩
def oB.con:Con:=⟨29,aFn,⟨[(0,bS8)],[o3,o2,o5]⟩,false,fun x=>oB x⟩
def zX.con:Con:=⟨30,aRp,sh2,false,fun (x0,x1)=>zX x0 x1⟩
def bB.con:Con:=⟨75,bJx,sh1,false,fun (x0,x1,x2)=>bB x0 x1 x2⟩
def tW.con:Con:=⟨159,sh2,sh1,false,fun x=>tW x⟩
def iV.con:Con:=⟨77,aU8,sh1,false,fun (x0,x1,x2)=>iV (x0,x1) x2⟩
def yP.con:Con:=⟨160,⟨[e5,(1,ag7)],[]⟩,sh1,false,fun (x0,x1,x2,x3,x4,x5,x6)=>yP (x0,x1) (x2,x3,x4,x5,x6)⟩
def eX.con:Con:=⟨149,bJv,sh1,false,fun (x0,x1,x2,x3,x4,x5,x6)=>eX (x0,x1,x2,x3,x4) x5 x6⟩
def kR.con:Con:=⟨74,bCw,sh1,false,fun (x0,x1)=>kR (x0,x1)⟩
def bP.con:Con:=⟨130,bCg,sh1,false,fun (x0,x1,x2)=>bP (x0,x1,x2)⟩
def gP.con:Con:=⟨249,aWy,sh1,false,fun (x0,x1,x2,x3,x4)=>gP (x0,x1,x2,x3,x4)⟩
def dS.con:Con:=⟨251,bJv,sh1,false,fun (x0,x1,x2,x3,x4,x5,x6)=>dS (x0,x1,x2,x3,x4) x5 x6⟩
def iH.con:Con:=⟨250,bSp,sh2,false,fun (x0,x1,x2,x3)=>iH x0 x1 x2 x3⟩
def fR.con:Con:=⟨161,⟨[e32,e1,e4],[]⟩,sh1,false,fun (x0,x1,x2)=>fR x0 x1 x2⟩
def nZ.con:Con:=⟨162,bDa,sh2,false,fun (x0,x1,x2,x3,x4,x5)=>nZ (x0,x1,x2) x3 x4 x5⟩
def aEa.con:Con:=⟨340,sh5,sh2,false,fun (x0,x1)=>aEa x0 x1⟩
def uC.con:Con:=⟨252,bCy,sh2,false,fun (x0,x1,x2,x3,x4)=>uC x0 x1 x2 x3 x4⟩
def iL.con:Con:=⟨253,bCy,sh2,false,fun (x0,x1,x2,x3,x4)=>iL x0 x1 x2 x3 x4⟩
def vM.con:Con:=⟨163,bKa,sh2,false,fun (x0,x1,x2,x3,x4,x5,x6)=>vM (x0,x1,x2) x3 x4 x5 x6⟩
def jM.con:Con:=⟨76,bIo,sh1,false,fun (x0,x1,x2,x3)=>jM (x0,x1,x2) x3⟩
def lG.con:Con:=⟨78,aGv,sh1,false,fun (x0,x1,x2,x3,x4,x5,x6,x7,x8)=>lG (x0,x1,x2,x3,x4,x5,x6,x7,x8)⟩
def qC.con:Con:=⟨79,bI2,sh1,false,fun (x0,x1,x2,x3)=>qC (x0,x1,x2,x3)⟩
def sT.con:Con:=⟨164,bK5,sh1,false,fun (x0,x1)=>sT x0 x1⟩
def kV.con:Con:=⟨80,bLx,sh1,false,fun (x0,x1)=>kV x0 x1⟩
def jK.con:Con:=⟨28,⟨[e21,(1,bHe)],[]⟩,sh1,false,fun (x0,x1,x2,x3,x4,x5,x6,x7,x8,x9,x10,x11,x12)=>jK (x0,x1,x2,x3,x4,x5,x6,x7,x8) (x9,x10,x11,x12)⟩
def mJ.con:Con:=⟨27,bKi,sh1,false,fun (x0,x1,x2,x3,x4,x5,x6,x7,x8,x9,x10,x11,x12)=>mJ ((x0,x1),(x2,x3),(x4,x5,x6),x7,x8,x9,x10,x11,x12)⟩
def mL.con:Con:=⟨91,bCw,bS1,false,fun (x0,x1)=>mL (x0,x1)⟩
def kI.con:Con:=⟨125,aT5,bJw,false,fun x=>kI x⟩
def fX.con:Con:=⟨266,aIf,bHt,false,fun (x0,x1,x2)=>fX (x0,x1,x2)⟩
def jY.con:Con:=⟨171,⟨[(0,aVp)],[]⟩,aQr,false,fun x=>jY x⟩
def oS.con:Con:=⟨92,⟨[e45],[]⟩,bSa,false,fun (x0,x1)=>oS (x0,x1)⟩
def eB.con:Con:=⟨172,⟨[e32],[]⟩,bAc,false,fun x=>eB x⟩
def eJ.con:Con:=⟨93,⟨[e36],[]⟩,aQ1,false,fun (x0,x1,x2)=>eJ (x0,x1,x2)⟩
def pD.con:Con:=⟨94,aNf,aE7,false,fun x=>pD x⟩
def dU.con:Con:=⟨52,sh6,aKo,false,fun x=>dU x⟩
def dP.con:Con:=⟨127,aFn,aUb,false,fun x=>dP x⟩
def dD.con:Con:=⟨95,sh7,aGo,false,fun (x0,x1,x2,x3,x4,x5,x6,x7,x8,x9)=>dD (x0,x1,x2,x3,x4,x5,x6,x7,x8,x9)⟩
def iJ.con:Con:=⟨173,⟨[(0,bBu)],[]⟩,⟨[e6],[o9]⟩,false,fun x=>iJ x⟩
def sB.con:Con:=⟨174,aGu,aMy,false,fun x=>sB x⟩
def dT.con:Con:=⟨175,⟨[e43],[]⟩,aZ0,false,fun x=>dT x⟩
def dX.con:Con:=⟨96,aGv,aKw,false,fun (x0,x1,x2,x3,x4,x5,x6,x7,x8)=>dX (x0,x1,x2,x3,x4,x5,x6,x7,x8)⟩
def mR.con:Con:=⟨97,bI2,aV3,false,fun (x0,x1,x2,x3)=>mR (x0,x1,x2,x3)⟩
def iC.con:Con:=⟨40,bKi,bIg,false,fun (x0,x1,x2,x3,x4,x5,x6,x7,x8,x9,x10,x11,x12)=>iC ((x0,x1),(x2,x3),(x4,x5,x6),x7,x8,x9,x10,x11,x12)⟩
def fB.con:Con:=⟨326,⟨[e32,e1],[]⟩,bAc,false,fun (x0,x1)=>fB x0 x1⟩
def vG.con:Con:=⟨242,bIo,aQ1,false,fun (x0,x1,x2,x3)=>vG (x0,x1,x2) x3⟩
def cY.con:Con:=⟨221,sh2,sh1,false,fun x=>cY x⟩
def eW.con:Con:=⟨145,aM8,sh2,false,fun (x0,x1,x2,x3,x4)=>eW (x0,x1,x2,x3) x4⟩
def eU.con:Con:=⟨140,aM8,sh2,false,fun (x0,x1,x2,x3,x4)=>eU (x0,x1,x2,x3) x4⟩
def jV.con:Con:=⟨181,sh6,bK3,false,fun x=>jV x⟩
def sA.con:Con:=⟨128,sh6,sh5,false,fun x=>sA x⟩
def jS.con:Con:=⟨57,bMg,aGo,false,fun (x0,x1,x2,x3,x4)=>jS x0 x1 x2 x3 x4⟩
def eC.con:Con:=⟨327,aGv,aQn,false,fun (x0,x1,x2,x3,x4,x5,x6,x7,x8)=>eC (x0,x1,x2,x3,x4,x5,x6,x7,x8)⟩
def pA.con:Con:=⟨270,aGv,sh2,false,fun (x0,x1,x2,x3,x4,x5,x6,x7,x8)=>pA (x0,x1,x2,x3,x4,x5,x6,x7,x8)⟩
def uV.con:Con:=⟨243,aGv,bMi,false,fun (x0,x1,x2,x3,x4,x5,x6,x7,x8)=>uV (x0,x1,x2,x3,x4,x5,x6,x7,x8)⟩
def kX.con:Con:=⟨41,aQk,aE8,false,fun (x0,x1,x2,x3,x4,x5,x6,x7,x8,x9,x10,x11,x12,x13,x14,x15,x16,x17,x18,x19,x20,x21,x22,x23,x24)=>kX ((x12,x13),(x14,x15),(x16,x17,x18),x19,x20,x22,x23,x24,x21) x0 x1 (x2,x3,x4,x5,x6,x7,x8,x9,x10,x11)⟩
def lP.con:Con:=⟨148,bHn,aNf,false,fun (x0,x1)=>lP x0 x1⟩
def pL.con:Con:=⟨65,aU8,aNf,false,fun (x0,x1,x2)=>pL (x0,x1) x2⟩
def jQ.con:Con:=⟨67,aMl,sh2,false,fun (x0,x1,x2,x3)=>jQ (x0,x1) x2 x3⟩
def mC.con:Con:=⟨66,bHn,sh1,false,fun (x0,x1)=>mC x0 x1⟩
def pK.con:Con:=⟨150,sh2,sh1,false,fun x=>pK x⟩
def pP.con:Con:=⟨68,sh5,sh2,false,fun (x0,x1)=>pP x0 x1⟩
def eE.con:Con:=⟨21,⟨[e5,e48,e4],[]⟩,sh2,false,fun (x0,x1,x2,x3)=>eE (x0,x1) x2 x3⟩
def kH.con:Con:=⟨137,⟨[e2,(1,.one (.ptr 1000001 0))],[(1000001,ob7)]⟩,⟨[(0,bTt)],[o6,o8,(1000001,ob7)]⟩,false,fun (x0,x1,x2,x3,x4,x5,x6,x7,x8,x9,x10)=>kH x0 (x1,x2,x3,x4,x5,x6,x7,x8,x9,x10)⟩
def cV.con:Con:=⟨218,sh2,sh1,false,fun x=>cV x⟩
def lU.con:Con:=⟨352,aWy,sh1,false,fun (x0,x1,x2,x3,x4)=>lU (x0,x1,x2,x3,x4)⟩
def kQ.con:Con:=⟨302,aT5,sh1,false,fun x=>kQ x⟩
def kP.con:Con:=⟨217,sh6,sh1,false,fun x=>kP x⟩
def vL.con:Con:=⟨124,sh7,sh1,false,fun (x0,x1,x2,x3,x4,x5,x6,x7,x8,x9)=>vL (x0,x1,x2,x3,x4,x5,x6,x7,x8,x9)⟩
def dQ.con:Con:=⟨51,sh7,sh2,false,fun (x0,x1,x2,x3,x4,x5,x6,x7,x8,x9)=>dQ (x0,x1,x2,x3,x4,x5,x6,x7,x8,x9)⟩
def nS.con:Con:=⟨138,sh7,sh1,false,fun (x0,x1,x2,x3,x4,x5,x6,x7,x8,x9)=>nS (x0,x1,x2,x3,x4,x5,x6,x7,x8,x9)⟩
def yK.con:Con:=⟨353,⟨[e5,(1,bHm)],[]⟩,sh1,false,fun (x0,x1,x2)=>yK (x0,x1) x2⟩
def mQ.con:Con:=⟨22,aMl,sh5,false,fun (x0,x1,x2,x3)=>mQ (x0,x1) x2 x3⟩
def sG.con:Con:=⟨303,bBa,sh1,false,fun (x0,x1,x2,x3,x4,x5)=>sG (x0,x1) (x2,x3,x4,x5)⟩
def tS.con:Con:=⟨304,sh2,sh2,false,fun x=>tS x⟩
def jO.con:Con:=⟨219,aRd,sh1,false,fun (x0,x1,x2)=>jO (x0,x1) x2⟩
def wV.con:Con:=⟨305,⟨[(0,.one (.var (.sl cR)))],[]⟩,aE7,false,fun x=>wV x⟩
def fK.con:Con:=⟨220,sh6,aE7,false,fun x=>fK x⟩
def lK.con:Con:=⟨139,aRd,sh1,false,fun (x0,x1,x2)=>lK (x0,x1) x2⟩
def qX.con:Con:=⟨298,sh5,sh2,false,fun (x0,x1)=>qX x0 x1⟩
def vI.con:Con:=⟨297,sh5,sh2,false,fun (x0,x1)=>vI x0 x1⟩
def aGc.con:Con:=⟨414,sh5,sh2,false,fun (x0,x1)=>aGc x0 x1⟩
def vA.con:Con:=⟨398,aNf,sh2,false,fun x=>vA x⟩
def sP.con:Con:=⟨386,bBb,sh2,false,fun (x0,x1)=>sP x0 x1⟩
def yQ.con:Con:=⟨354,bH6,sh2,false,fun (x0,x1,x2,x3,x4,x5,x6,x7)=>yQ x0 x1 x2 (x3,x4,x5,x6,x7)⟩
def mP.con:Con:=⟨306,bSb,sh1,false,fun (x0,x1,x2,x3,x4,x5,x6,x7,x8)=>mP (x0,x1) x2 x3 (x4,x5,x6,x7,x8)⟩
def gS.con:Con:=⟨222,⟨[e5,e30],[]⟩,aQn,false,fun (x0,x1,x2,x3,x4,x5,x6,x7,x8,x9,x10,x11)=>gS (x0,x1) (x2,x3,x4,x5,x6,x7,x8,x9,x10,x11)⟩
def sV.con:Con:=⟨307,⟨[e40,e1],[]⟩,sh1,false,fun (x0,x1,x2,x3,x4,x5)=>sV (x0,x1,x2,x3,x4) x5⟩
def fS.con:Con:=⟨223,bIj,sh1,false,fun (x0,x1,x2,x3,x4,x5,x6,x7,x8,x9,x10)=>fS (x0,x1,x2,x3,x4,x5,x6,x7,x8,x9) x10⟩
def kB.con:Con:=⟨141,bM6,bIj,false,fun (x0,x1,x2,x3,x4,x5,x6,x7,x8,x9,x10,x11,x12)=>kB (x0,x1) x2 (x3,x4,x5,x6,x7,x8,x9,x10,x11,x12)⟩
def gB.con:Con:=⟨142,sh7,sh1,false,fun (x0,x1,x2,x3,x4,x5,x6,x7,x8,x9)=>gB (x0,x1,x2,x3,x4,x5,x6,x7,x8,x9)⟩
def jR.con:Con:=⟨143,sh7,sh1,false,fun (x0,x1,x2,x3,x4,x5,x6,x7,x8,x9)=>jR (x0,x1,x2,x3,x4,x5,x6,x7,x8,x9)⟩
def lE.con:Con:=⟨144,sh7,aGo,false,fun (x0,x1,x2,x3,x4,x5,x6,x7,x8,x9)=>lE (x0,x1,x2,x3,x4,x5,x6,x7,x8,x9)⟩
def iT.con:Con:=⟨225,aMl,sh2,false,fun (x0,x1,x2,x3)=>iT (x0,x1) x2 x3⟩
def jF.con:Con:=⟨224,sh5,sh1,false,fun (x0,x1)=>jF x0 x1⟩
def oD.con:Con:=⟨146,⟨[e5,e63],[]⟩,sh1,false,fun (x0,x1,x2,x3,x4)=>oD (x0,x1) (x2,x3,x4)⟩
def uO.con:Con:=⟨147,sh5,sh1,false,fun (x0,x1)=>uO x0 x1⟩
def uY.con:Con:=⟨64,bMo,⟨[(0,bHg),e1],[]⟩,false,fun (x0,x1,x2,x3,x4,x5,x6,x7,x8,x9,x10,x11,x12,x13,x14,x15)=>uY (x0,x1) x2 x3 x4 x5 (x6,x7,x8,x9,x10,x11,x12,x13,x14,x15)⟩
def rW.con:Con:=⟨267,bDa,sh2,false,fun (x0,x1,x2,x3,x4,x5)=>rW (x0,x1,x2) x3 x4 x5⟩
def tR.con:Con:=⟨176,bKa,bN5,false,fun (x0,x1,x2,x3,x4,x5,x6)=>tR (x0,x1,x2) x3 x4 x5 x6⟩
def kG.con:Con:=⟨98,⟨[e10,e1,(2,bHg)],[o4,o3,o2,o5]⟩,aE8,false,fun (x0,x1,x2,x3,x4,x5,x6,x7,x8,x9,x10,x11,x12,x13,x14,x15,x16,x17,x18,x19,x20,x21,x22,x23,x24,x25)=>kG ((x13,x14),(x15,x16),(x17,x18,x19),x20,x21,x23,x24,x25,x22) x0 (x1,x2,(x3,x4,x5,x6,x7,x8,x9,x10,x11,x12))⟩
def pI.con:Con:=⟨99,bTa,sh2,false,fun (x0,x1,x2)=>pI x0 x1 x2⟩
def sC.con:Con:=⟨177,aPt,sh1,false,fun (x0,x1,x2,x3,x4,x5,x6,x7,x8,x9,x10,x11,x12,x13)=>sC (x0,x1,x2,x3) (x4,x5,x6,x7,x8,x9,x10,x11,x12,x13)⟩
def nB.con:Con:=⟨100,aPt,aV3,false,fun (x0,x1,x2,x3,x4,x5,x6,x7,x8,x9,x10,x11,x12,x13)=>nB (x0,x1,x2,x3) (x4,x5,x6,x7,x8,x9,x10,x11,x12,x13)⟩
def oE.con:Con:=⟨210,sh2,sh2,false,fun x=>oE x⟩
def lB.con:Con:=⟨211,aM8,sh2,false,fun (x0,x1,x2,x3,x4)=>lB (x0,x1,x2,x3) x4⟩
def iI.con:Con:=⟨212,aT5,bJw,false,fun x=>iI x⟩
def oA.con:Con:=⟨129,bAv,aU6,false,fun (x0,x1,x2,x3)=>oA (x0,x1,x2,x3)⟩
def jT.con:Con:=⟨58,sh6,aKo,false,fun x=>jT x⟩
def aBb.con:Con:=⟨178,bM2,aGo,false,fun (x0,x1,x2,x3,x4,x5,x6,x7,x8,x9,x10,x11,x12)=>aBb (x0,x1,x2,x3,x4,x5,x6,x7,x8,x9) x10 x11 x12⟩
def tT.con:Con:=⟨101,aPt,aQn,false,fun (x0,x1,x2,x3,x4,x5,x6,x7,x8,x9,x10,x11,x12,x13)=>tT (x0,x1,x2,x3) (x4,x5,x6,x7,x8,x9,x10,x11,x12,x13)⟩
def rP.con:Con:=⟨179,⟨[e21,e30],[]⟩,aKw,false,fun (x0,x1,x2,x3,x4,x5,x6,x7,x8,x9,x10,x11,x12,x13,x14,x15,x16,x17,x18)=>rP (x0,x1,x2,x3,x4,x5,x6,x7,x8) (x9,x10,x11,x12,x13,x14,x15,x16,x17,x18)⟩
def qF.con:Con:=⟨382,aRp,⟨[e2,e1,e18],[]⟩,false,fun (x0,x1)=>qF x0 x1⟩
def qJ.con:Con:=⟨345,⟨[e17,e1,e4],[]⟩,bMy,false,fun (x0,x1,x2)=>qJ x0 x1 x2⟩
def hH.con:Con:=⟨268,aFn,⟨[e62,e28],[]⟩,false,fun x=>hH x⟩
def qE.con:Con:=⟨269,⟨[e13,e63],[]⟩,sh1,false,fun (x0,x1,x2,x3)=>qE x0 (x1,x2,x3)⟩
def kO.con:Con:=⟨271,⟨[e43,e63],[]⟩,aZ0,false,fun (x0,x1,x2,x3)=>kO x0 (x1,x2,x3)⟩
def gT.con:Con:=⟨180,⟨[e21,e30,e4],[]⟩,aKw,false,fun (x0,x1,x2,x3,x4,x5,x6,x7,x8,x9,x10,x11,x12,x13,x14,x15,x16,x17,x18,x19)=>gT (x0,x1,x2,x3,x4,x5,x6,x7,x8) (x9,x10,x11,x12,x13,x14,x15,x16,x17,x18) x19⟩
def gD.con:Con:=⟨102,bC7,aE8,false,fun (x0,x1,x2,x3,x4,x5,x6,x7,x8,x9,x10,x11,x12,x13,x14,x15,x16,x17,x18,x19,x20,x21,x22,x23)=>gD ((x11,x12),(x13,x14),(x15,x16,x17),x18,x19,x21,x22,x23,x20) x0 (x1,x2,x3,x4,x5,x6,x7,x8,x9,x10)⟩
def aD6.con:Con:=⟨56,sh5,sh2,false,fun (x0,x1)=>aD6 x0 x1⟩
def gH.con:Con:=⟨15,sh7,bJa,false,fun (x0,x1,x2,x3,x4,x5,x6,x7,x8,x9)=>gH (x0,x1,x2,x3,x4,x5,x6,x7,x8,x9)⟩
def mM.con:Con:=⟨299,aRp,aUb,false,fun (x0,x1)=>mM x0 x1⟩
def qB.con:Con:=⟨213,⟨[e17,e48],[]⟩,aFn,false,fun (x0,x1)=>qB x0 x1⟩
def qK.con:Con:=⟨131,aNf,aFn,false,fun x=>qK x⟩
def gW.con:Con:=⟨59,bCg,aFn,false,fun (x0,x1,x2)=>gW (x0,x1,x2)⟩
def hU.con:Con:=⟨18,bMt,aGo,false,fun (x0,x1,x2,x3,x4,x5,x6,x7,x8,x9,x10,x11,x12,x13,x14)=>hU (x0,x1) x2 x3 x4 (x5,x6,x7,x8,x9,x10,x11,x12,x13,x14)⟩
def jL.con:Con:=⟨103,sh6,sh2,false,fun x=>jL x⟩
def dO.con:Con:=⟨41,aQk,aE8,false,fun (x0,x1,x2,x3,x4,x5,x6,x7,x8,x9,x10,x11,x12,x13,x14,x15,x16,x17,x18,x19,x20,x21,x22,x23,x24)=>dO ((x12,x13),(x14,x15),(x16,x17,x18),x19,x20,x22,x23,x24,x21) x0 x1 (x2,x3,x4,x5,x6,x7,x8,x9,x10,x11)⟩
def bR.con:Con:=⟨41,aQk,aE8,false,fun (x0,x1,x2,x3,x4,x5,x6,x7,x8,x9,x10,x11,x12,x13,x14,x15,x16,x17,x18,x19,x20,x21,x22,x23,x24)=>bR ((x12,x13),(x14,x15),(x16,x17,x18),x19,x20,x22,x23,x24,x21) x0 x1 (x2,x3,x4,x5,x6,x7,x8,x9,x10,x11)⟩
def mD.con:Con:=⟨154,bM7,aRf,false,fun (x0,x1,x2,x3,x4,x5,x6,x7,x8,x9,x10,x11,x12)=>mD ((x0,x1),(x2,x3),(x4,x5,x6),x7,x8,x10,x11,x12,x9)⟩
def mG.con:Con:=⟨155,bNr,bM5,false,fun (x0,x1,x2,x3,x4,x5,x6,x7,x8,x9,x10,x11,x12,x13)=>mG ((x1,x2),(x3,x4),(x5,x6,x7),x8,x9,x11,x12,x13,x10) x0⟩
def wJ.con:Con:=⟨156,bSe,bTe,false,fun (x0,x1,x2,x3,x4,x5,x6,x7,x8,x9)=>wJ (x0,x1,x2,x3,x4,x5,x6,x7,x8) x9⟩
def yZ.con:Con:=⟨375,aIf,sh2,false,fun (x0,x1,x2)=>yZ (x0,x1,x2)⟩
def oO.con:Con:=⟨330,⟨[e45,e1],[]⟩,aQr,false,fun (x0,x1,x2)=>oO (x0,x1) x2⟩
def tB.con:Con:=⟨331,aQ9,sh2,false,fun (x0,x1,x2,x3)=>tB (x0,x1,x2) x3⟩
def aCd.con:Con:=⟨400,aT5,aE7,false,fun x=>aCd x⟩
def zO.con:Con:=⟨399,bBb,sh2,false,fun (x0,x1)=>zO x0 x1⟩
def yO.con:Con:=⟨376,aQ9,sh2,false,fun (x0,x1,x2,x3)=>yO (x0,x1,x2) x3⟩
def lV.con:Con:=⟨332,⟨[e16,e1,e4],[]⟩,aU6,false,fun (x0,x1,x2,x3,x4)=>lV (x0,x1,x2) x3 x4⟩
def pZ.con:Con:=⟨336,aIf,sh2,false,fun (x0,x1,x2)=>pZ (x0,x1,x2)⟩
def xK.con:Con:=⟨377,bI1,aQr,false,fun (x0,x1,x2,x3)=>xK (x0,x1) x2 x3⟩
def nW.con:Con:=⟨401,⟨[e16,e1,(2,.one (.ptr 1000002 0))],[(1000002,.box [.row 0]),(0,aQi)]⟩,⟨[],[(0,aQi),(1000002,.box [.row 0])]⟩,false,fun (x0,x1,x2,x3,x4)=>nW (x0,x1,x2) x3 x4⟩
def vN.con:Con:=⟨378,bSg,bJa,false,fun (x0,x1,x2,x3,x4,x5,x6,x7,x8,x9)=>vN (x0,x1,x2) (x3,x4,x5) x6 (x7,x8,x9)⟩
def lZ.con:Con:=⟨333,bSh,aGu,false,fun (x0,x1,x2,x3,x4,x5,x6,x7,x8,x9)=>lZ (x0,x1) (x2,x3,x4) x5 x6 (x7,x8,x9)⟩
def xX.con:Con:=⟨379,aQ9,sh2,false,fun (x0,x1,x2,x3)=>xX (x0,x1,x2) x3⟩
def wA.con:Con:=⟨334,aT6,aKo,false,fun (x0,x1,x2,x3,x4,x5)=>wA (x0,x1,x2) (x3,x4,x5)⟩
def aAu.con:Con:=⟨335,aU8,sh1,false,fun (x0,x1,x2)=>aAu (x0,x1) x2⟩
def sI.con:Con:=⟨246,bH3,aGu,false,fun (x0,x1,x2,x3,x4,x5)=>sI (x0,x1) (x2,x3) x4 x5⟩
def wG.con:Con:=⟨380,bBa,sh1,false,fun (x0,x1,x2,x3,x4,x5)=>wG (x0,x1) (x2,x3,x4,x5)⟩
def vX.con:Con:=⟨337,aRd,sh1,false,fun (x0,x1,x2)=>vX (x0,x1) x2⟩
def oF.con:Con:=⟨338,aT5,sh2,false,fun x=>oF x⟩
def wH.con:Con:=⟨247,⟨[e5,e22,e4],[]⟩,sh1,false,fun (x0,x1,x2,x3)=>wH (x0,x1) x2 x3⟩
def qU.con:Con:=⟨402,bIi,sh1,false,fun (x0,x1)=>qU x0 x1⟩
def vU.con:Con:=⟨381,bJp,sh1,false,fun (x0,x1,x2,x3,x4,x5,x6,x7)=>vU (x0,x1,x2,x3) (x4,x5,x6,x7)⟩
def wE.con:Con:=⟨339,aVy,sh1,false,fun (x0,x1)=>wE x0 x1⟩
def aAy.con:Con:=⟨248,⟨[e35,e22],[]⟩,sh1,false,fun (x0,x1)=>aAy x0 x1⟩
def xS.con:Con:=⟨158,bS2,aGu,false,fun (x0,x1,x2,x3,x4,x5,x6)=>xS (x0,x1) (x2,x3) x4 x5 x6⟩
def aA6.con:Con:=⟨397,sh6,bJw,false,fun x=>aA6 x⟩
def sK.con:Con:=⟨373,sh6,sh2,false,fun x=>sK x⟩
def tA.con:Con:=⟨374,sh6,sh2,false,fun x=>tA x⟩
def wF.con:Con:=⟨329,aVy,sh1,false,fun (x0,x1)=>wF x0 x1⟩
def xR.con:Con:=⟨245,aGu,aGu,false,fun x=>xR x⟩
def kW.con:Con:=⟨372,⟨[e43,e1],[]⟩,aZ0,false,fun (x0,x1)=>kW x0 x1⟩
def aBf.con:Con:=⟨328,⟨[e43,e22,e4],[]⟩,sh1,false,fun (x0,x1,x2)=>aBf x0 x1 x2⟩
def nO.con:Con:=⟨244,bRc,aMy,false,fun (x0,x1,x2)=>nO x0 x1 x2⟩
def zT.con:Con:=⟨157,bQs,aKw,false,fun (x0,x1,x2,x3,x4,x5,x6,x7,x8,x9,x10)=>zT (x0,x1,x2,x3,x4,x5,x6,x7,x8) x9 x10⟩
def kS.con:Con:=⟨73,bHh,aRf,false,fun (x0,x1,x2,x3,x4,x5,x6,x7,x8,x9,x10,x11,x12,x13,x14,x15,x16,x17,x18,x19,x20,x21,x22,x23,x24,x25,x26,x27)=>kS ((x15,x16),(x17,x18),(x19,x20,x21),x22,x23,x25,x26,x27,x24) (x0,x1,x2,(x3,x4,(x5,x6,x7,x8,x9,x10,x11,x12,x13,x14)))⟩
def mS.con:Con:=⟨26,bMq,⟨[e57,e28],[o27,o28,o36,o37,o38,o39,o22,o40,(8,aHw),o41]⟩,false,fun (x0,x1,x2,x3,x4,x5,x6,x7,x8,x9,x10,x11,x12,x13,x14,x15,x16,x17,x18,x19,x20,x21,x22,x23,x24,x25,x26,x27)=>mS ((x0,x1),(x2,x3),(x4,x5,x6),x7,x8,x9,x10,x11,x12) (x13,x14,x15,(x16,x17,(x18,x19,x20,x21,x22,x23,x24,x25,x26,x27)))⟩
def rJ.con:Con:=⟨44,⟨[e5,(1,ag1)],[]⟩,sh1,false,fun (x0,x1,x2,x3)=>rJ (x0,x1) (x2,x3)⟩
def pF.con:Con:=⟨123,bIi,sh1,false,fun (x0,x1)=>pF x0 x1⟩
def wK.con:Con:=⟨182,aT6,sh1,false,fun (x0,x1,x2,x3,x4,x5)=>wK (x0,x1,x2) (x3,x4,x5)⟩
def rI.con:Con:=⟨105,⟨[(0,aVp),(1,aVp)],[]⟩,sh1,false,fun (x0,x1)=>rI x0 x1⟩
def tQ.con:Con:=⟨45,⟨[e45,e51],[]⟩,sh1,false,fun (x0,x1,x2,x3)=>tQ (x0,x1) (x2,x3)⟩
def pN.con:Con:=⟨69,⟨[e32,(1,bRn)],[]⟩,sh1,false,fun (x0,x1)=>pN x0 x1⟩
def pB.con:Con:=⟨23,⟨[e36,(1,bTj)],[]⟩,sh1,false,fun (x0,x1,x2,x3,x4,x5)=>pB (x0,x1,x2) (x3,x4,x5)⟩
def rD.con:Con:=⟨24,⟨[e41,e48],[]⟩,sh1,false,fun (x0,x1)=>rD x0 x1⟩
def rG.con:Con:=⟨50,bJp,sh1,false,fun (x0,x1,x2,x3,x4,x5,x6,x7)=>rG (x0,x1,x2,x3) (x4,x5,x6,x7)⟩
def pE.con:Con:=⟨14,aVy,sh1,false,fun (x0,x1)=>pE x0 x1⟩
def aAa.con:Con:=⟨55,bK5,sh1,false,fun (x0,x1)=>aAa x0 x1⟩
def pU.con:Con:=⟨17,⟨[e20,e30],[]⟩,sh1,false,fun (x0,x1,x2,x3,x4,x5,x6,x7,x8,x9,x10,x11,x12,x13,x14,x15,x16,x17,x18,x19)=>pU (x0,x1,x2,x3,x4,x5,x6,x7,x8,x9) (x10,x11,x12,x13,x14,x15,x16,x17,x18,x19)⟩
def lC.con:Con:=⟨106,bLx,sh1,false,fun (x0,x1)=>lC x0 x1⟩
def rM.con:Con:=⟨107,⟨[e35,(1,bAr)],[]⟩,sh1,false,fun (x0,x1)=>rM x0 x1⟩
def sD.con:Con:=⟨108,⟨[e43,(1,bH7)],[]⟩,sh1,false,fun (x0,x1)=>sD x0 x1⟩
def uB.con:Con:=⟨46,⟨[e21,(1,ag5)],[]⟩,sh1,false,fun (x0,x1,x2,x3,x4,x5,x6,x7,x8,x9,x10,x11,x12,x13,x14,x15,x16,x17)=>uB (x0,x1,x2,x3,x4,x5,x6,x7,x8) (x9,x10,x11,x12,x13,x14,x15,x16,x17)⟩
def wL.con:Con:=⟨47,⟨[e47,(1,bHe)],[]⟩,sh1,false,fun (x0,x1,x2,x3,x4,x5,x6,x7)=>wL (x0,x1,x2,x3) (x4,x5,x6,x7)⟩
def oV.con:Con:=⟨12,⟨[e53,(1,bQy)],[]⟩,sh1,false,fun (x0,x1,x2,x3,x4,x5,x6,x7,x8,x9,x10,x11,x12,x13,x14,x15,x16,x17,x18,x19,x20,x21,x22,x23,x24,x25)=>oV ((x0,x1),(x2,x3),(x4,x5,x6),x7,x8,x9,x10,x11,x12) ((x13,x14),(x15,x16),(x17,x18,x19),x20,x21,x22,x23,x24,x25)⟩
def l_FnIdle.con:Con:=⟨5,aFn,sh1,false,fun x=>l_FnIdle x⟩
end

end Go.Proofs.YtecighmpdcffcaaGreat
