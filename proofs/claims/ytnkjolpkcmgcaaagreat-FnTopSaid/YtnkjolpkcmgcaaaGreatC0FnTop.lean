/-
  Contracts of the functions of the program. Conditions: none.
-/
import Derived.Test.YtnkjolpkcmgcaaaGreatT0FnTop
import Derived.Test.YtnkjolpkcmgcaaaGreatProg
import Derived.KernelRfl
set_option linter.unusedVariables false
set_option linter.unusedSimpArgs false
set_option maxRecDepth 100000
namespace Go.Proofs.YtnkjolpkcmgcaaaGreat
open Go.Ab Go.V
noncomputable section
theorem follows:Tryz.prog.follows .mixedOrders=true:=by kernel_rfl
theorem _root_.Go.V.Con.Ok.c{P:Program}{c:Con}{E:List Con}(h:c.Ok P)(k:aG6 P E):aG6 P (c::E):=⟨h,k⟩
theorem fk{E:List Con}{c:Con}{fn:Func}(hf:Tryz.prog.funcs[c.f]? =some fn)(k:aG6 Tryz.prog E)(pl:Plan)(e:∀x,bTp Tryz.prog E fn pl c.pre c.post x=c.sem x:=by intro x;kernel_rfl)(hn:(fn.name=="runtime.NumGoroutine")=false:=by rfl):c.Ok Tryz.prog:=cDl hf hn follows (aG6.mem k) λx y h=>(e x).trans h
theorem nok:aG6 Tryz.prog []:=trivial
abbrev cn(f:FuncId)(a b:Sh)(s:wE a.tys->Option (wE b.tys)):Con:=⟨f,a,b,false,s⟩
abbrev OK(c:Con):Prop:=c.Ok Tryz.prog
abbrev _root_.Go.V.Plan.q(p:Plan):Plan:= .seq .z p
def ow1:OT:= .row 71 9 tFl false
def ow2:OT:= .row 3 1 ti true
def ow3:OT:= .row 46 1 tPt true
def ow4:OT:= .row 50 12 tFy false
def ow5:OT:= .row 207 3 tSg true
def ow6:OT:= .row 73 4 tIb false
def ow7:OT:= .row 104 4 tPp true
def ow8:OT:= .row 5 1 tb true
def ow9:OT:= .row 256 5 tRs true
def aD3:OT:= .row 195 1 tMs true
def aLm:OT:= .row 175 3 tAS true
def aEu:OT:= .row 167 5 tLk true
def aK7:OT:= .row 106 5 bV true
def aEv:OT:= .row 197 3 tRv true
def aFg:OT:= .row 191 4 tUs true
def aZx:OT:= .row 46 1 tPt false
def aDa:OT:= .row 50 12 tFy true
def aFk:OT:= .row 73 4 tIb true
def aQ0:OT:= .row 164 3 mY true
def aMi:OT:= .row 71 9 tFl true
def aVo:OT:= .row 104 4 tPp false
def bRy:OT:= .row 63 15 gA false
def ob1:OT:= .box [.var (.sl tb),.var ti,.var ti]
def ob2:OT:= .box [.var (.sl tAS),.var (.sl tLk),.var (.sl tSg),.var (.sl tSg),.var ti,.var (.sl tRs),.var (.sl tUs),.var ti,.var (.sl ti),.row 0,.row 1,.row 2,.var ti]
def ob3:OT:= .box [.var (.sl tAS),.var (.sl tLk),.var (.sl tSg),.var (.sl tSg),.var ti,.var (.sl tRs),.var (.sl tUs),.var ti,.var (.sl ti),.row 300001,.row 300002,.row 300003,.var ti]
def ob4:OT:= .box [.row 300001]
def ob5:OT:= .box [.row 300001,.row 300003]
def ob6:OT:= .box [.var (.sl tAS),.var (.sl tLk)]
def ob7:OT:= .box [.var ti,.var ti,.var ti,.var (.sl tPp),.var ti,.var ti,.var ti,.var ti,.var ti,.var (.sl tb)]
def ob8:OT:= .box [.var ti,.var ti,.var ti,.row 300001]
def ob9:OT:= .box [.var ti,.var ti,.row 300003]
def bJu:OT:= .box [.row 300005]
def bSz:OT:= .box [.var ti,.var ti,.var ti,.var ti,.var ti,.var (.sl tPp),.var ti,.var ti,.var ti,.var ti,.var ti,.var (.sl tb)]
def bRw:OT:= .box [.row 300001,.nil]
def bTx:OT:= .box [.var ti,.var ti,.row 300004]
def cAd:OT:= .box [.var ti,.var ti,.var ti,.var ti,.row 1144,.row 1145,.var ti,.var ti,.row 1146]
def bQ8:OT:= .box [.row 1208,.row 1209,.row 1272,.row 1273,.var ti,.row 1336,.row 1337,.var ti,.row 1400,.row 300001,.nil,.nil,.var ti]
def bSs:OT:= .box [.row 1208,.row 1209,.row 1272,.row 1273,.var ti,.row 1336,.row 1337,.var ti,.row 1400,.row 300001,.row 300002,.nil,.var ti]
def cA9:OT:= .box [.var ti,.var ti,.row 300001]
def bZw:OT:= .box [.row 1160,.row 1208]
def cB1:OT:= .box [.var ti,.var ti,.var ti,.nil]
def cC0:OT:= .box [.var ti,.var ti,.var ti]
def cCa:OT:= .box [.row 300001,.row 300002]
def cBj:OT:= .box [.row 300007,.row 300008,.row 300009,.row 300010,.var ti,.row 300006,.row 300011,.var ti,.row 300012,.row 300013,.row 300014,.row 300015,.var ti]
def cAm:OT:= .box [.var ti,.var ti,.var ti,.var ti,.row 300003,.row 300004,.var ti,.var ti,.row 300005]
def cC6:OT:= .box [.var (.sl tPp)]
def cCm:OT:= .box [.var ti,.var ti,.var ti,.var (.sl tPp),.var ti,.var ti,.var ti,.var ti,.var ti,.row 1161]
def cFs:OT:= .box [.var ti,.var ti,.var ti,.row 1192,.var ti,.var ti,.var ti,.var ti,.var ti,.row 1193]
def cAu:OT:= .box [.var ti,.var ti,.var ti,.row 300001,.var ti,.var ti,.var ti,.var ti,.var ti,.row 300002]
def cFo:OT:= .box [.var ti,.var ti,.var ti,.row 1112]
def cFh:OT:= .box [.var ti,.var ti,.var ti,.var ti,.row 1112,.row 1113,.var ti,.var ti,.row 1114]
def cFr:OT:= .box [.var ti,.var ti,.var ti,.row 1544]
def cFc:OT:= .box [.var ti,.var ti,.var ti,.var ti,.row 2312,.row 2313,.var ti,.var ti,.row 2314]
def cEj:OT:= .box [.var ti,.var ti,.var ti,.var ti,.var ti,.row 1560,.var ti,.var ti,.var ti,.var ti,.var ti,.row 1561]
def cFg:OT:= .box [.var ti,.row 2152,.row 2153]
def cFi:OT:= .box [.var (.sl tAS),.var (.sl tLk),.var (.sl tSg),.var (.sl tSg),.var ti,.row 2152,.row 2153,.var ti,.var (.sl ti),.row 0,.row 1,.row 2,.var ti]
def cEv:OT:= .box [.var ti,.var ti,.var ti,.row 2904,.var ti,.var ti,.var ti,.var ti,.var ti,.row 2905]
def cAf:OT:= .box [.var ti,.var ti,.var ti,.var ti,.var (.sl tMs),.var (.sl tPt),.var ti,.var ti,.var (.sl tRv)]
def cEt:OT:= .box [.var (.sl tAS),.var (.sl tLk),.var (.sl tSg),.var (.sl tSg),.var ti,.var (.sl tRs),.var (.sl tUs),.var ti,.var (.sl ti),.row 14,.row 1,.row 2,.var ti]
def cCu:OT:= .box [.var ti,.var ti,.nil,.var ti,.var ti,.var ti,.var ti,.var ti,.var (.sl tPp),.var ti,.var ti,.var ti,.var ti,.var ti,.row 300001]
def cAc:OT:= .box [.var ti,.var .bool,.var ti]
def cAq:OT:= .box [.row 1208,.row 1209,.row 1272,.row 1273,.var ti,.row 1336,.row 1337,.var ti,.row 1400,.row 300001,.row 300002,.row 300003,.var ti]
def cE9:OT:= .box [.var ti,.var ti,.var ti,.row 2584,.var ti,.var ti,.var ti,.var ti,.var ti,.row 2585]
def cEu:OT:= .box [.var ti,.var ti,.var ti,.row 3176,.var ti,.var ti,.var ti,.var ti,.var ti,.row 3177]
def cCx:OT:= .box [.row 300001,.row 300002,.row 300003,.row 300004,.var ti,.row 300005,.row 300006,.var ti,.row 300007,.row 300008,.row 300009,.row 300010,.var ti]
def cCf:OT:= .box [.var (.sl tAS),.var (.sl tLk),.row 300003,.row 300004,.var ti,.row 300005,.row 300006,.var ti,.row 300007,.row 300008,.row 300009,.row 300010,.var ti]
def ag1:ST:= .agg [.var (.sl tAS),.var (.sl tLk)]
def ag2:ST:= .agg [.var ti,.var ti,.var ti,.var (.sl tPp),.var ti,.var ti,.var ti,.var ti,.var ti,.var (.sl tb)]
def ag3:ST:= .agg [.var (.sl tPp)]
def ag4:ST:= .agg [.var ti,.var ti,.var (.sl bV)]
def ag5:ST:= .agg [.var ti,.var ti,.var ti,.var ti,.var (.sl tMs),.var (.sl tPt),.var ti,.var ti,.var (.sl tRv)]
def ag6:ST:= .agg [.var ti,.var ti,.var ti,.var ti,.var ti]
def ag7:ST:= .agg [.var ti,.var ti,.var ti,.var (.sl bV)]
def ag8:ST:= .agg [.var ti,.var ti,.var ti,.row 0,.var ti,.var ti,.var ti,.var ti,.var ti,.row 1]
def ag9:ST:= .agg [.var (.sl tSg),.var (.sl tSg)]
def cE6:ST:= .agg [.var ti,.var ti,.var ti,.var ti,.row 0,.row 1,.var ti,.var ti,.row 2]
def cCn:ST:= .agg [.row 0]
def cAg:ST:= .agg [.var ti,.var ti,.var ti]
def cEq:ST:= .agg [.var ti,.var (.sl tRs),.var (.sl tUs)]
def cE0:ST:= .agg [.var (.sl tAS),.var (.sl tLk),.var (.sl tSg),.var (.sl tSg),.var ti,.var (.sl tRs),.var (.sl tUs),.var ti,.var (.sl ti),.var (.sl tFy),.var (.sl tFl),.var (.sl tIb),.var ti]
def cE1:ST:= .agg [.row 0,.row 1,.row 2,.row 3,.var ti,.row 4,.row 5,.var ti,.row 6,.row 7,.row 8,.row 9,.var ti]
def cEm:ST:= .agg [.var ti,.var ti,.var ti,.row 0]
def cC7:ST:= .agg [.var ti,.var ti,.var ti,.var (.sl tMs)]
def cFq:ST:= .agg [.var ti,.row 0,.row 1]
def bR4:ST:= .agg [.row 0,.row 1]
def bZv:ST:= .agg [.var ti,.var ti,.var (.sl tb),.var ti,.var ti,.var ti,.var ti,.var ti,.var (.sl tPp),.var ti,.var ti,.var ti,.var ti,.var ti,.var (.sl tb)]
def bJz:ST:= .agg [.var ti,.var ti,.var ti,.var ti,.var ti,.var (.sl tPp),.var ti,.var ti,.var ti,.var ti,.var ti,.var (.sl tb)]
def cBk:ST:= .agg [.var ti,.var ti,.row 0]
def cBi:ST:= .agg [.var ti,.var ti,.var ti,.var ti,.var ti,.row 0,.var ti,.var ti,.var ti,.var ti,.var ti,.row 1]
def cFe:ST:= .agg [.var ti,.var ti,.var ti,.row 3,.var ti,.var ti,.var ti,.var ti,.var ti,.row 4]
def cE7:ST:= .agg [.var (.sl tAS),.var (.sl tLk),.var (.sl tSg),.var (.sl tSg),.var ti,.var (.sl tRs),.var (.sl tUs),.var ti,.var (.sl ti),.row 1001109,.row 1001110,.row 1001111,.var ti]
def vr1:ST:= .one (.var ti)
def vr2:ST:= .one (.var .bool)
def vr3:ST:= .one (.row 300001)
def vr4:ST:= .one (.row 0)
def vr5:ST:= .one (.ptr 1000000 0)
def vr6:ST:= .one (.var (.sl tb))
def vr7:ST:= .one (.var (.sl ti))
def vr8:ST:= .one (.row 7)
def vr9:ST:= .one (.row 6)
def bTh:ST:= .one (.var (.sl tPt))
def aUj:ST:= .one (.row 10)
def cE3:ST:= .one (.var (.sl tRs))
def cEn:ST:= .one (.row 1624)
def bZy:ST:= .one (.var (.sl tRv))
def bRa:ST:= .one (.var (.sl bV))
def bCt:ST:= .one (.row 15)
def cFb:ST:= .one (.ptr 7 0)
def cFa:ST:= .one (.ptr 11 0)
def cE2:ST:= .one (.row 5)
def cEl:ST:= .one (.ptr 13 0)
def aZ4:ST:= .one (.row 14)
def bQi:ST:= .one (.ptr 8 0)
def bHj:ST:= .one (.var (.sl tMs))
def bIv:ST:= .one (.row 16)
def bSo:ST:= .one (.var (.sl tSg))
def cA4:ST:= .one (.var (.sl tIb))
def bTr:ST:= .one (.row 127)
def bS3:ST:= .one (.ptr 6 0)
def bRx:ST:= .one (.row 300002)
def e1:Nat×ST:=(1,vr1)
def e2:Nat×ST:=(0,vr1)
def e3:Nat×ST:=(0,vr2)
def e4:Nat×ST:=(2,vr1)
def e5:Nat×ST:=(0,ag1)
def e6:Nat×ST:=(3,vr1)
def e7:Nat×ST:=(0,vr4)
def e8:Nat×ST:=(0,vr5)
def e9:Nat×ST:=(5,vr1)
def e10:Nat×ST:=(4,vr1)
def e11:Nat×ST:=(4,vr2)
def e12:Nat×ST:=(3,vr3)
def e13:Nat×ST:=(0,ag3)
def e14:Nat×ST:=(6,vr1)
def e15:Nat×ST:=(9,vr1)
def e16:Nat×ST:=(11,vr3)
def e17:Nat×ST:=(0,ag4)
def e18:Nat×ST:=(2,vr2)
def e19:Nat×ST:=(0,vr6)
def e20:Nat×ST:=(0,ag2)
def e21:Nat×ST:=(0,ag5)
def e22:Nat×ST:=(1,ag3)
def e23:Nat×ST:=(8,vr1)
def e24:Nat×ST:=(3,vr9)
def e25:Nat×ST:=(0,ag8)
def e26:Nat×ST:=(1,vr2)
def e27:Nat×ST:=(7,vr1)
def e28:Nat×ST:=(5,vr8)
def e29:Nat×ST:=(1,ag4)
def e30:Nat×ST:=(10,vr1)
def e31:Nat×ST:=(1,ag2)
def e32:Nat×ST:=(5,vr3)
def e33:Nat×ST:=(0,ag7)
def e34:Nat×ST:=(0,cE3)
def e35:Nat×ST:=(13,vr1)
def e36:Nat×ST:=(9,cEn)
def e37:Nat×ST:=(0,cE6)
def e38:Nat×ST:=(0,bTh)
def e39:Nat×ST:=(0,cEq)
def e40:Nat×ST:=(0,ag6)
def e41:Nat×ST:=(0,cCn)
def e42:Nat×ST:=(0,cE0)
def e43:Nat×ST:=(12,vr2)
def e44:Nat×ST:=(0,vr7)
def e45:Nat×ST:=(0,cE1)
def e46:Nat×ST:=(0,cEm)
def e47:Nat×ST:=(0,bZy)
def e48:Nat×ST:=(0,ag9)
def e49:Nat×ST:=(0,cC7)
def e50:Nat×ST:=(7,aUj)
def e51:Nat×ST:=(1,vr7)
def e52:Nat×ST:=(0,cFq)
def e53:Nat×ST:=(6,vr2)
def e54:Nat×ST:=(12,vr1)
def e55:Nat×ST:=(5,vr7)
def e56:Nat×ST:=(34,vr2)
def e57:Nat×ST:=(0,bRa)
def e58:Nat×ST:=(1,ag9)
def e59:Nat×ST:=(3,ag2)
def e60:Nat×ST:=(11,vr1)
def e61:Nat×ST:=(7,cFb)
def e62:Nat×ST:=(11,cFa)
def e63:Nat×ST:=(0,cAg)
def e64:Nat×ST:=(1,cAg)
def e65:Nat×ST:=(31,vr2)
def e66:Nat×ST:=(3,cE2)
def e67:Nat×ST:=(7,bCt)
def e68:Nat×ST:=(15,vr1)
def e69:Nat×ST:=(13,cEl)
def e70:Nat×ST:=(7,.one (.row 18))
def e71:Nat×ST:=(7,.one (.row 9))
def e72:Nat×ST:=(7,.one (.row 29))
def e73:Nat×ST:=(1,.one (.var (.sl gA)))
def o1:Nat×OT:=(1000000,ob1)
def o2:Nat×OT:=(1,ow1)
def o3:Nat×OT:=(0,ow4)
def o4:Nat×OT:=(1000000,ob2)
def o5:Nat×OT:=(2,ow6)
def o6:Nat×OT:=(0,ow7)
def o7:Nat×OT:=(300001,aZx)
def o8:Nat×OT:=(1,ow8)
def o9:Nat×OT:=(0,aD3)
def o10:Nat×OT:=(300001,ow2)
def o11:Nat×OT:=(300002,ow1)
def o12:Nat×OT:=(300001,ow4)
def o13:Nat×OT:=(300003,ow6)
def o14:Nat×OT:=(0,ow9)
def o15:Nat×OT:=(6,ow2)
def o16:Nat×OT:=(300001,aLm)
def o17:Nat×OT:=(300001,ow7)
def o18:Nat×OT:=(0,ow2)
def o19:Nat×OT:=(0,aLm)
def o20:Nat×OT:=(1,aEu)
def o21:Nat×OT:=(1,ow3)
def o22:Nat×OT:=(1624,ow3)
def o23:Nat×OT:=(0,aK7)
def o24:Nat×OT:=(2,aEv)
def o25:Nat×OT:=(1000000,ob3)
def o26:Nat×OT:=(300001,aK7)
def o27:Nat×OT:=(3,ob4)
def o28:Nat×OT:=(300001,ow3)
def o29:Nat×OT:=(2,ow5)
def o30:Nat×OT:=(3,ow5)
def o31:Nat×OT:=(4,ow9)
def o32:Nat×OT:=(5,aFg)
def o33:Nat×OT:=(7,aDa)
def o34:Nat×OT:=(9,aFk)
def o35:Nat×OT:=(15,ow3)
def o36:Nat×OT:=(300001,ow5)
def o37:Nat×OT:=(0,ow8)
def o38:Nat×OT:=(300003,aEu)
def o39:Nat×OT:=(0,ow5)
def o40:Nat×OT:=(1,aFg)
def o41:Nat×OT:=(3,ob5)
def o42:Nat×OT:=(0,ow3)
def o43:Nat×OT:=(300001,aQ0)
def o44:Nat×OT:=(8,aMi)
def o45:Nat×OT:=(10,aQ0)
def o46:Nat×OT:=(10,ow3)
def o47:Nat×OT:=(300001,ow9)
def o48:Nat×OT:=(1001109,ow4)
def o49:Nat×OT:=(1001110,ow1)
def o50:Nat×OT:=(1001111,ow6)
def o51:Nat×OT:=(300003,aK7)
def o52:Nat×OT:=(300002,ow3)
def o53:Nat×OT:=(300001,aEv)
def o54:Nat×OT:=(0,.row 175 3 tAS false)
def o55:Nat×OT:=(1,.row 167 5 tLk false)
def k0:Nat×ST:=(0,.keep)
def k1:Nat×ST:=(1,.keep)
def k2:Nat×ST:=(2,.keep)
def k3:Nat×ST:=(3,.keep)
def k4:Nat×ST:=(4,.keep)
def k5:Nat×ST:=(5,.keep)
def k6:Nat×ST:=(6,.keep)
def k7:Nat×ST:=(7,.keep)
def k8:Nat×ST:=(8,.keep)
def k9:Nat×ST:=(9,.keep)
def k10:Nat×ST:=(10,.keep)
def k11:Nat×ST:=(11,.keep)
def k12:Nat×ST:=(12,.keep)
def k13:Nat×ST:=(13,.keep)
def k14:Nat×ST:=(14,.keep)
def k15:Nat×ST:=(15,.keep)
def k16:Nat×ST:=(16,.keep)
def k17:Nat×ST:=(17,.keep)
def k18:Nat×ST:=(18,.keep)
def k19:Nat×ST:=(19,.keep)
def k20:Nat×ST:=(20,.keep)
def k21:Nat×ST:=(21,.keep)
def k22:Nat×ST:=(22,.keep)
def k23:Nat×ST:=(23,.keep)
def k25:Nat×ST:=(25,.keep)
def k26:Nat×ST:=(26,.keep)
def k28:Nat×ST:=(28,.keep)
def k30:Nat×ST:=(30,.keep)
def k31:Nat×ST:=(31,.keep)
def k32:Nat×ST:=(32,.keep)
def k33:Nat×ST:=(33,.keep)
def k35:Nat×ST:=(35,.keep)
def k36:Nat×ST:=(36,.keep)
def k37:Nat×ST:=(37,.keep)
def k38:Nat×ST:=(38,.keep)
def k39:Nat×ST:=(39,.keep)
def k49:Nat×ST:=(49,.keep)
def k50:Nat×ST:=(50,.keep)
def k51:Nat×ST:=(51,.keep)
def k52:Nat×ST:=(52,.keep)
def k53:Nat×ST:=(53,.keep)
def k54:Nat×ST:=(54,.keep)
def k56:Nat×ST:=(56,.keep)
def k57:Nat×ST:=(57,.keep)
def k58:Nat×ST:=(58,.keep)
def k64:Nat×ST:=(64,.keep)
def k65:Nat×ST:=(65,.keep)
def k66:Nat×ST:=(66,.keep)
def k67:Nat×ST:=(67,.keep)
def k72:Nat×ST:=(72,.keep)
def k73:Nat×ST:=(73,.keep)
def k74:Nat×ST:=(74,.keep)
def k87:Nat×ST:=(87,.keep)
def k88:Nat×ST:=(88,.keep)
def bHg:Nat×ST:=(100,.keep)
def aMe:Nat×ST:=(101,.keep)
def aNo:Nat×ST:=(102,.keep)
def bLc:Nat×ST:=(103,.keep)
def cAv:Nat×ST:=(106,.keep)
def cA5:Nat×ST:=(107,.keep)
def cEo:Nat×ST:=(108,.keep)
def cEk:Nat×ST:=(128,.keep)
def cEs:Nat×ST:=(129,.keep)
def bSf:Nat×ST:=(147,.keep)
def bR8:Nat×ST:=(148,.keep)
def bQs:Nat×ST:=(149,.keep)
def cC1:Nat×ST:=(150,.keep)
def cE8:Nat×ST:=(151,.keep)
def bTa:Nat×ST:=(163,.keep)
def bQy:Nat×ST:=(164,.keep)
def cC3:Nat×ST:=(165,.keep)
def cFf:Nat×ST:=(169,.keep)
def cFm:Nat×ST:=(170,.keep)
def j0:Nat×OT:=(0,.keep)
def j1:Nat×OT:=(1,.keep)
def j2:Nat×OT:=(2,.keep)
def j3:Nat×OT:=(3,.keep)
def j4:Nat×OT:=(4,.keep)
def j5:Nat×OT:=(5,.keep)
def j6:Nat×OT:=(6,.keep)
def j7:Nat×OT:=(7,.keep)
def j8:Nat×OT:=(8,.keep)
def j9:Nat×OT:=(9,.keep)
def j10:Nat×OT:=(10,.keep)
def j11:Nat×OT:=(11,.keep)
def j12:Nat×OT:=(12,.keep)
def j13:Nat×OT:=(13,.keep)
def j14:Nat×OT:=(14,.keep)
def j15:Nat×OT:=(15,.keep)
def j16:Nat×OT:=(16,.keep)
def j19:Nat×OT:=(19,.keep)
def j26:Nat×OT:=(26,.keep)
def j28:Nat×OT:=(28,.keep)
def j29:Nat×OT:=(29,.keep)
def j30:Nat×OT:=(30,.keep)
def aYk:Nat×OT:=(1080,.keep)
def aY8:Nat×OT:=(1081,.keep)
def cDp:Nat×OT:=(1082,.keep)
def aT5:Nat×OT:=(1112,.keep)
def bHo:Nat×OT:=(1113,.keep)
def bKf:Nat×OT:=(1114,.keep)
def aFs:Nat×OT:=(1128,.keep)
def bGy:Nat×OT:=(1129,.keep)
def bGu:Nat×OT:=(1130,.keep)
def bKa:Nat×OT:=(1131,.keep)
def bHs:Nat×OT:=(1132,.keep)
def bIc:Nat×OT:=(1133,.keep)
def bJr:Nat×OT:=(1134,.keep)
def bLe:Nat×OT:=(1135,.keep)
def bVo:Nat×OT:=(1136,.keep)
def bHb:Nat×OT:=(1137,.keep)
def bUq:Nat×OT:=(1144,.keep)
def bVy:Nat×OT:=(1145,.keep)
def bWt:Nat×OT:=(1146,.keep)
def aJd:Nat×OT:=(1160,.keep)
def bV8:Nat×OT:=(1161,.keep)
def aTi:Nat×OT:=(1176,.keep)
def bKm:Nat×OT:=(1177,.keep)
def bKy:Nat×OT:=(1178,.keep)
def aLy:Nat×OT:=(1192,.keep)
def bWm:Nat×OT:=(1193,.keep)
def yP:Nat×OT:=(1208,.keep)
def aCu:Nat×OT:=(1209,.keep)
def aYt:Nat×OT:=(1210,.keep)
def aYu:Nat×OT:=(1211,.keep)
def aZc:Nat×OT:=(1212,.keep)
def aYp:Nat×OT:=(1213,.keep)
def aZb:Nat×OT:=(1214,.keep)
def aYo:Nat×OT:=(1215,.keep)
def aY9:Nat×OT:=(1216,.keep)
def aY4:Nat×OT:=(1217,.keep)
def cDx:Nat×OT:=(1224,.keep)
def aD1:Nat×OT:=(1272,.keep)
def aFn:Nat×OT:=(1273,.keep)
def bKl:Nat×OT:=(1288,.keep)
def aPp:Nat×OT:=(1304,.keep)
def aI9:Nat×OT:=(1320,.keep)
def aJi:Nat×OT:=(1336,.keep)
def aJb:Nat×OT:=(1337,.keep)
def cDe:Nat×OT:=(1368,.keep)
def aEp:Nat×OT:=(1400,.keep)
def cEe:Nat×OT:=(1401,.keep)
def bVe:Nat×OT:=(1416,.keep)
def cDs:Nat×OT:=(1528,.keep)
def cEc:Nat×OT:=(1529,.keep)
def cD4:Nat×OT:=(1530,.keep)
def bUm:Nat×OT:=(1560,.keep)
def bT7:Nat×OT:=(1561,.keep)
def cD2:Nat×OT:=(1576,.keep)
def cDy:Nat×OT:=(1592,.keep)
def cDf:Nat×OT:=(1593,.keep)
def cDo:Nat×OT:=(1608,.keep)
def cDi:Nat×OT:=(1609,.keep)
def aY6:Nat×OT:=(1624,.keep)
def aAh:Nat×OT:=(1672,.keep)
def aAm:Nat×OT:=(1720,.keep)
def bV1:Nat×OT:=(1736,.keep)
def cD0:Nat×OT:=(1755,.keep)
def cEa:Nat×OT:=(1756,.keep)
def xG:Nat×OT:=(1768,.keep)
def cDk:Nat×OT:=(1787,.keep)
def cDb:Nat×OT:=(1788,.keep)
def xJ:Nat×OT:=(1816,.keep)
def cEb:Nat×OT:=(1944,.keep)
def bUg:Nat×OT:=(2152,.keep)
def bUw:Nat×OT:=(2153,.keep)
def bH1:Nat×OT:=(2312,.keep)
def bHd:Nat×OT:=(2313,.keep)
def bLa:Nat×OT:=(2314,.keep)
def bK3:Nat×OT:=(2315,.keep)
def bJn:Nat×OT:=(2316,.keep)
def bJi:Nat×OT:=(2317,.keep)
def bHz:Nat×OT:=(2318,.keep)
def bHk:Nat×OT:=(2319,.keep)
def bWu:Nat×OT:=(2320,.keep)
def bJx:Nat×OT:=(2321,.keep)
def bH3:Nat×OT:=(2824,.keep)
def bLd:Nat×OT:=(2825,.keep)
def bI9:Nat×OT:=(2826,.keep)
def bHy:Nat×OT:=(2827,.keep)
def bHw:Nat×OT:=(2828,.keep)
def bHf:Nat×OT:=(2829,.keep)
def bHu:Nat×OT:=(2830,.keep)
def bHc:Nat×OT:=(2831,.keep)
def bIf:Nat×OT:=(2832,.keep)
def bKc:Nat×OT:=(2833,.keep)
def dA:Nat×OT:=(300001,.keep)
def yW:Nat×OT:=(300002,.keep)
def jT:Nat×OT:=(300003,.keep)
def rJ:Nat×OT:=(300004,.keep)
def aAy:Nat×OT:=(300005,.keep)
def wJ:Nat×OT:=(300006,.keep)
def wK:Nat×OT:=(300007,.keep)
def wL:Nat×OT:=(300008,.keep)
def wH:Nat×OT:=(300009,.keep)
def wM:Nat×OT:=(300010,.keep)
def aV1:Nat×OT:=(300011,.keep)
def aVa:Nat×OT:=(300012,.keep)
def aUx:Nat×OT:=(300013,.keep)
def aUi:Nat×OT:=(300014,.keep)
def aWc:Nat×OT:=(300015,.keep)
def aO:Nat×OT:=(1000000,.keep)
def aDb:Nat×OT:=(1001109,.keep)
def aC6:Nat×OT:=(1001110,.keep)
def aC2:Nat×OT:=(1001111,.keep)
def sh1:Sh:=⟨[e3],[]⟩
def sh2:Sh:=⟨[e2],[]⟩
def sh3:Sh:=⟨[],[]⟩
def sh4:Sh:=⟨[e11],[]⟩
def sh5:Sh:=⟨[e2,e1],[]⟩
def sh6:Sh:=⟨[e13],[]⟩
def sh7:Sh:=⟨[e20],[]⟩
def sh8:Sh:=⟨[e18],[]⟩
def sh9:Sh:=⟨[],[o3,o2,o5,o4]⟩
def aH7:Sh:=⟨[e19],[]⟩
def aIk:Sh:=⟨[e7],[o18]⟩
def aKb:Sh:=⟨[e38],[]⟩
def aKc:Sh:=⟨[e21],[]⟩
def aJv:Sh:=⟨[e25],[o6,o8]⟩
def aNc:Sh:=⟨[e17],[]⟩
def aL6:Sh:=⟨[k1],[j1]⟩
def aOk:Sh:=⟨[e8],[o1]⟩
def aNz:Sh:=⟨[e37],[o9,o21,o24]⟩
def aO2:Sh:=⟨[e41],[o6]⟩
def aQ9:Sh:=⟨[e5,e1,e4],[]⟩
def aQ2:Sh:=⟨[e44],[]⟩
def aQx:Sh:=⟨[e7],[o42]⟩
def aRr:Sh:=⟨[e33,e1],[]⟩
def aRp:Sh:=⟨[e53],[]⟩
def aV5:Sh:=⟨[e17,e1],[]⟩
def aUl:Sh:=⟨[e7],[o39]⟩
def aVq:Sh:=⟨[e52],[o14,o40]⟩
def aUz:Sh:=⟨[e5,e22],[]⟩
def aUr:Sh:=⟨[e25,e26],[o6,o8]⟩
def aUy:Sh:=⟨[e8,e1,e4,e59],[o4,o3,o2,o5]⟩
def aUw:Sh:=⟨[e49,e31],[]⟩
def aVm:Sh:=⟨[e3],[o3,o2,o5,o4]⟩
def aVx:Sh:=⟨[k0,k1,e43],[]⟩
def aVi:Sh:=⟨[k2,k3,e9],[j2,j3]⟩
def bCq:Sh:=⟨[e19,e1],[]⟩
def bCk:Sh:=⟨[e5,e1],[]⟩
def aZe:Sh:=⟨[e40],[]⟩
def bCw:Sh:=⟨[e5,e29],[]⟩
def bBt:Sh:=⟨[e45],[o19,o20,o29,o30,o31,o32,o15,o33,o44,o34]⟩
def bAo:Sh:=⟨[e46],[o23]⟩
def bBz:Sh:=⟨[e46],[o9]⟩
def bBx:Sh:=⟨[e42],[]⟩
def aZt:Sh:=⟨[e7],[o37]⟩
def aZ6:Sh:=⟨[e57],[]⟩
def bAh:Sh:=⟨[e6],[]⟩
def bB2:Sh:=⟨[k1,e6],[j1]⟩
def bLh:Sh:=⟨[e2],[o1]⟩
def bLg:Sh:=⟨[e8,e1],[o1]⟩
def bJv:Sh:=⟨[e2,e51],[]⟩
def bJ9:Sh:=⟨[e17,e29],[]⟩
def bKb:Sh:=⟨[e5],[]⟩
def bI4:Sh:=⟨[e33],[]⟩
def bJe:Sh:=⟨[e63],[]⟩
def bK1:Sh:=⟨[e5,(1,ag7)],[]⟩
def bHn:Sh:=⟨[e13,e22],[]⟩
def bG2:Sh:=⟨[e7],[(0,aEv)]⟩
def bK9:Sh:=⟨[e7],[o14]⟩
def bHe:Sh:=⟨[e8,e1,(2,ag2)],[o4,o3,o2,o5]⟩
def bKj:Sh:=⟨[e39,e1,e4,e6],[]⟩
def bI0:Sh:=⟨[e34,e1,e4,e6,e10],[]⟩
def bHa:Sh:=⟨[k0,k1,e9],[]⟩
def bId:Sh:=⟨[k2,k3],[j2,o27,o17]⟩
def bJ3:Sh:=⟨[k0],[o12,o11,o13,o25]⟩
def bSl:Sh:=⟨[e2,e1,e4],[]⟩
def bQw:Sh:=⟨[e40,e1,e4],[]⟩
def bTt:Sh:=⟨[e44,e1],[]⟩
def bRj:Sh:=⟨[e2,e1,e4,(3,ag6)],[]⟩
def bQk:Sh:=⟨[(0,cBk)],[o23]⟩
def bRp:Sh:=⟨[e5,e58,e4,e6],[]⟩
def bQ2:Sh:=⟨[e49],[]⟩
def bTm:Sh:=⟨[e48,e1,e4],[]⟩
def bQ6:Sh:=⟨[e7],[(0,aQ0)]⟩
def bP7:Sh:=⟨[e39,e1],[]⟩
def bSq:Sh:=⟨[e20,e1],[]⟩
def bRr:Sh:=⟨[e5,e1,e4,e6,e10,(5,ag2)],[]⟩
def bP8:Sh:=⟨[e39,e1,e4,e6,e10],[]⟩
def bTg:Sh:=⟨[e41],[(0,aVo)]⟩
def bQa:Sh:=⟨[e8],[o4,o3,o2,o5]⟩
def bS4:Sh:=⟨[e8,e1],[o4,o3,o2,o5]⟩
def bTq:Sh:=⟨[e8,(1,bZv)],[o4,o3,o2,o5]⟩
def bSr:Sh:=⟨[e7],[o23]⟩
def bTz:Sh:=⟨[(8,vr2)],[]⟩
def bQ4:Sh:=⟨[k1,k2,k3,e10],[j1,j2,o27,o17]⟩
def bS1:Sh:=⟨[e12],[o10]⟩
def bQf:Sh:=⟨[e16],[o7]⟩
def cC5:Sh:=⟨[e5,e1,e4,(3,ag6)],[]⟩
def cB3:Sh:=⟨[e57,(1,bRa)],[]⟩
def cAl:Sh:=⟨[(0,bR4)],[o39,(1,ow5)]⟩
def cB7:Sh:=⟨[(0,bR4)],[o19,o20]⟩
def cB4:Sh:=⟨[e21,(1,vr6)],[]⟩
def bZ4:Sh:=⟨[e37,e26],[o9,o21,o24]⟩
def bZs:Sh:=⟨[(0,cA4),e1,e4],[]⟩
def cCo:Sh:=⟨[e17,e29,e18,(3,ag4)],[]⟩
def cCz:Sh:=⟨[e48,e29,e4,e6,(4,ag4)],[]⟩
def cA8:Sh:=⟨[e33,(1,ag7)],[]⟩
def cAe:Sh:=⟨[e5,e58,e4,e6,e10],[]⟩
def cCs:Sh:=⟨[e47,(1,bTh),e4],[]⟩
def cCb:Sh:=⟨[e21,(1,bTh),e4],[]⟩
def cA7:Sh:=⟨[e42,(1,ag5)],[]⟩
def bWe:Sh:=⟨[e34,e1,e4,e6],[]⟩
def bUo:Sh:=⟨[e2,e22,e4,e6,(4,vr6)],[]⟩
def bVw:Sh:=⟨[e19,(1,vr6)],[]⟩
def bVj:Sh:=⟨[e42,(1,bZv)],[]⟩
def bVb:Sh:=⟨[e37,(1,cFe),e18],[o9,o21,o24,(3,ow7),(4,ow8)]⟩
def bWs:Sh:=⟨[(0,cBi)],[o6,o8]⟩
def bWc:Sh:=⟨[e5,e1,(2,ag2)],[]⟩
def bU8:Sh:=⟨[e20,e1,e4,(3,vr6)],[]⟩
def bVi:Sh:=⟨[e7,e1,e18],[o18]⟩
def bT5:Sh:=⟨[e52,e26],[o14,o40]⟩
def bU1:Sh:=⟨[e5,e1,e4,e6,(4,ag2)],[]⟩
def bUh:Sh:=⟨[(0,bJz)],[o3,o2,o5,o4]⟩
def bVt:Sh:=⟨[e8,(1,cE7)],[o1,o48,o49,o50]⟩
def bVk:Sh:=⟨[k1,k2,e32,k6],[j2,o10]⟩
def bWg:Sh:=⟨[k2,k3,(37,vr2)],[j2,j3]⟩
def bVn:Sh:=⟨[k0,k2,k3,k4,k8],[j2,o41,o16,o38,o1]⟩
def bUf:Sh:=⟨[k1,k2,k3,e27],[j3]⟩
def bUv:Sh:=⟨[k9,(30,vr2)],[j9]⟩
def bT6:Sh:=⟨[k1,e66,e10],[j1,(5,ow2)]⟩
def bVa:Sh:=⟨[k2,k3,e55,e14],[j2,j3]⟩
def bUt:Sh:=⟨[k2,k3,k5,k6],[j2,j3]⟩
def bVp:Sh:=⟨[k2],[(2,.box [.row 3,.row 7]),(3,aLm),(7,aEu)]⟩
def bWd:Sh:=⟨[k6,k7],[j6,(7,ob8),o26]⟩
def bUd:Sh:=⟨[k1,k2,k3,e67],[j3,o35]⟩
def bWk:Sh:=⟨[k2,k3,e65],[j2,j3]⟩
def bWf:Sh:=⟨[e24,k4,k5],[o15,aFs]⟩
def bV6:Sh:=⟨[k2,k4,(18,vr2)],[j4]⟩
def bVv:Sh:=⟨[k0,k3,k4,e9],[dA]⟩
def bUs:Sh:=⟨[k1,k2,(21,vr2)],[j1,j2]⟩
def bUn:Sh:=⟨[k2,k3,e11],[(2,cAd),(3,cFs),bUq,bVy,bWt,aLy,bWm]⟩
def bVf:Sh:=⟨[k4,k5],[j4,(5,cFo),(1112,aD3)]⟩
def bVg:Sh:=⟨[k3,k4,(16,vr2)],[j3,j4]⟩
def bVm:Sh:=⟨[k4,k5],[j4,(5,cFh),aT5,bHo,bKf]⟩
def bV5:Sh:=⟨[k2,k4,(21,vr2)],[j2,aJd]⟩
def bWv:Sh:=⟨[k3,k6,k7,k8,(24,vr2)],[j3,j6,j7,j8,aTi,bKm,bKy]⟩
def bT4:Sh:=⟨[k3,k6,k7,k8,(42,vr2)],[j3,j6,j7,j8,aTi,bKm,bKy]⟩
def bWq:Sh:=⟨[k0,k1,k5,k6,e61],[j0,j1,j2,j5,(7,cFr),(1544,aD3),aO]⟩
def bU3:Sh:=⟨[k0,k1,k5,e30],[j0,o2,j2,j5,aO]⟩
def bUk:Sh:=⟨[k0,k1,k5,k10],[j0,o2,j2,j5,aO]⟩
def bVu:Sh:=⟨[k0,k1,k5,k10,e62],[j0,j1,j2,j5,(11,cFc),(2312,aD3),(2313,ow3),(2314,aEv),aO]⟩
def bUx:Sh:=⟨[e1,(5,vr9)],[(6,ow8)]⟩
def bWb:Sh:=⟨[k0,k1,k7,(8,bQi)],[j0,j1,j2,j7,(8,cEj),(1560,ow7),(1561,ow8),aO]⟩
def bUz:Sh:=⟨[k0,k8,k9,k10,e62,e43],[j0,j1,j2,j8,(11,cFg),bUm,bT7,(2152,ow9),(2153,aFg),aO]⟩
def bVq:Sh:=⟨[k0,k8,k9,k10,k11,(83,vr2)],[j0,j1,j2,j8,j11,bUm,bT7,bUg,bUw,aO]⟩
def bWh:Sh:=⟨[],[o3,j1,j2,bUg,bUw,(1000000,cFi)]⟩
def bVd:Sh:=⟨[k0,k1,k7,e69],[j0,j1,j2,j7,(13,cEv),(2904,ow7),(2905,ow8),aO]⟩
def bUi:Sh:=⟨[],[o12,o11,o13,o25]⟩
def bV9:Sh:=⟨[k4,k5],[j1,j2,j4,j5,(14,ow4),(1000000,cEt)]⟩
def bWl:Sh:=⟨[],[o3,j1,j2,o4]⟩
def bVl:Sh:=⟨[e12,k6,k7,e23],[o10]⟩
def bUj:Sh:=⟨[e6,k6,k7,e23],[]⟩
def bUr:Sh:=⟨[k0,k1,k12,e35],[]⟩
def bUb:Sh:=⟨[e1,(5,.one (.row 1112))],[(1112,ow8)]⟩
def bWw:Sh:=⟨[k0,k1,k7,(8,bQi),e15],[j0,j1,j2,j7,(8,bSz),aO]⟩
def bWz:Sh:=⟨[k0,k1,k7,k8,k9,(54,vr2)],[j0,j1,j2,j7,j8,aO]⟩
def bWj:Sh:=⟨[k0,k1,e62,e43],[j0,j1,j2,(11,cE9),(2584,ow7),(2585,ow8),aO]⟩
def bVz:Sh:=⟨[k0,k1,k7,k9,(116,vr2)],[j0,j1,j2,j7,aO]⟩
def bWr:Sh:=⟨[k0,k1,k7,e69],[j0,j1,j2,j7,(13,cEu),(3176,ow7),(3177,ow8),aO]⟩
def bWy:Sh:=⟨[k2,k3,k4,k5,k9,k10,e16],[j4,j5,xG,xJ,o28]⟩
def bV7:Sh:=⟨[k3,k5,e14,k7,k8,k9],[j5,dA]⟩
def aI1.k:=cn 8 aH7 sh1 aI1
def aDr.k:=cn 40 aH7 ⟨[(0,.one (.ptr 0 0))],[(0,ob1)]⟩ aDr
def aAj.k:=cn 42 bCq sh2 λ(a,b)=>aAj a b
def rF.k:=cn 169 aOk bLh λ(a,b,c)=>rF (a,b,c)
def aF.k:=cn 69 bLg bLh λ(a,b,c,d)=>aF (b,c,d) a
def xW.k:=cn 398 ⟨[e7,e1],[(0,.row 3 1 ti false)]⟩ aIk λ(a,b)=>xW b a
def iP.k:=cn 327 bCk aIk λ(a,b,c)=>iP (a,b) c
def wI.k:=cn 251 ⟨[e8,e1,e4,e6],[(1000000,.box [.row 0,.row 1]),o54,o55]⟩ ⟨[],[o54,o55,(1000000,.box [.row 0,.row 1])]⟩ λ(a,b,c,d,e)=>wI (d,e) a b c
def eD.k:=cn 76 bLg ⟨[e3],[o1]⟩ λ(a,b,c,d)=>eD (b,c,d) a
def aM.k:=cn 105 bSl sh1 λ(a,b,c)=>aM a b c
def eI.k:=cn 92 bCk sh1 λ(a,b,c)=>eI (a,b) c
def rU.k:=cn 203 ⟨[e5,(1,ag6)],[]⟩ sh1 λ(a,b,c,d,e,f,g)=>rU (a,b) (c,d,e,f,g)
def yF.k:=cn 162 aOk ⟨[(0,bR4)],[o19,o20,o1]⟩ λ(a,b,c)=>yF (a,b,c)
def vL.k:=cn 204 bQw sh1 λ(a,b,c,d,e,f,g)=>vL (a,b,c,d,e) f g
def mN.k:=cn 336 aQ9 sh2 λ(a,b,c,d)=>mN (a,b) c d
def eM.k:=cn 332 aQ9 sh2 λ(a,b,c,d)=>eM (a,b) c d
def jH.k:=cn 258 aQ9 aIk λ(a,b,c,d)=>jH (a,b) c d
def gY.k:=cn 259 aQ9 sh5 λ(a,b,c,d)=>gY (a,b) c d
def eF.k:=cn 261 aNc aIk λ(a,b,c)=>eF (a,b,c)
def gJ.k:=cn 260 bTt sh1 λ(a,b)=>gJ a b
def qO.k:=cn 335 aV5 aIk λ(a,b,c,d)=>qO (a,b,c) d
def nA.k:=cn 330 sh2 sh1 nA
def tU.k:=cn 403 sh5 sh2 λ(a,b)=>tU a b
def rM.k:=cn 334 bJv sh2 λ(a,b)=>rM a b
def iO.k:=cn 257 aV5 sh2 λ(a,b,c,d)=>iO (a,b,c) d
def aIu.k:=cn 433 sh5 sh2 λ(a,b)=>aIu a b
def yH.k:=cn 412 aQ2 sh2 yH
def vQ.k:=cn 402 bJv sh2 λ(a,b)=>vQ a b
def yE.k:=cn 333 bRj sh2 λ(a,b,c,d,e,f,g,h)=>yE a b c (d,e,f,g,h)
def gC.k:=cn 256 bRj aZe λ(a,b,c,d,e,f,g,h)=>gC a b c (d,e,f,g,h)
def kY.k:=cn 165 ⟨[e8,(1,ag1),e4],[o1]⟩ ⟨[(0,cBk)],[o23,o1]⟩ λ(a,b,c,d,e,f)=>kY (d,e,f) (a,b) c
def iV.k:=cn 205 aNc bQk λ(a,b,c)=>iV (a,b,c)
def wQ.k:=cn 164 bCw bQk λ(a,b,c,d,e)=>wQ (a,b) (c,d,e)
def gG.k:=cn 107 ⟨[(0,bSo)],[]⟩ aUl gG
def lE.k:=cn 399 aZe sh1 λ(a,b,c,d,e)=>lE (a,b,c,d,e)
def kC.k:=cn 328 bCw sh1 λ(a,b,c,d,e)=>kC (a,b) (c,d,e)
def gX.k:=cn 400 cC5 sh1 λ(a,b,c,d,e,f,g,h,i)=>gX (a,b) c d (e,f,g,h,i)
def iF.k:=cn 329 bCw sh2 λ(a,b,c,d,e)=>iF (a,b) (c,d,e)
def dV.k:=cn 289 aNc sh2 λ(a,b,c)=>dV (a,b,c)
def gK.k:=cn 255 bCw sh2 λ(a,b,c,d,e)=>gK (a,b) (c,d,e)
def kM.k:=cn 252 bCw sh1 λ(a,b,c,d,e)=>kM (a,b) (c,d,e)
def kK.k:=cn 253 aNc sh1 λ(a,b,c)=>kK (a,b,c)
def kB.k:=cn 417 cB3 sh1 λ(a,b)=>kB a b
def lH.k:=cn 401 bJ9 sh1 λ(a,b,c,d,e,f)=>lH (a,b,c) (d,e,f)
def vF.k:=cn 331 ⟨[(0,bSo),e29],[]⟩ sh1 λ(a,b,c,d)=>vF a (b,c,d)
def pU.k:=cn 254 ⟨[e48,e29],[]⟩ sh1 λ(a,b,c,d,e)=>pU (a,b) (c,d,e)
def pM.k:=cn 163 ⟨[e5,e58,(2,ag4)],[]⟩ cAl λ(a,b,c,d,e,f,g)=>pM (a,b) (c,d) (e,f,g)
def xC.k:=cn 202 sh2 sh1 xC
def nE.k:=cn 104 bKb sh1 λ(a,b)=>nE (a,b)
def sC.k:=cn 106 bKb cB7 λ(a,b)=>sC (a,b)
def pA.k:=cn 108 sh2 aVq pA
def tF.k:=cn 37 bRp bBt λ(a,b,c,d,e,f)=>tF (a,b) (c,d) e f
def fY.k:=cn 177 aNc sh2 λ(a,b,c)=>fY (a,b,c)
def zJ.k:=cn 83 ⟨[e8,e58],[o1]⟩ ⟨[e2,e1],[o1]⟩ λ(a,b,c,d,e)=>zJ (c,d,e) (a,b)
def qE.k:=cn 78 ⟨[e8,e51],[o1]⟩ bLh λ(a,b,c,d)=>qE (b,c,d) a
def aBq.k:=cn 84 bSl aNz λ(a,b,c)=>aBq a b c
def eK.k:=cn 166 bLg ⟨[e7],[o37,o1]⟩ λ(a,b,c,d)=>eK (b,c,d) a
def sA.k:=cn 268 ⟨[(0,bHj)],[]⟩ ⟨[e7],[o9]⟩ sA
def qI.k:=cn 354 bI4 bAo λ(a,b,c,d)=>qI (a,b,c,d)
def jN.k:=cn 283 sh6 aO2 jN
def zI.k:=cn 269 aKb aQx zI
def fK.k:=cn 178 aKc aNz λ(a,b,c,d,e,f,g,h,i)=>fK (a,b,c,d,e,f,g,h,i)
def aCy.k:=cn 188 sh5 sh2 λ(a,b)=>aCy a b
def cH.k:=cn 189 bJe sh1 λ(a,b,c)=>cH (a,b,c)
def nW.k:=cn 91 aKc sh1 λ(a,b,c,d,e,f,g,h,i)=>nW (a,b,c,d,e,f,g,h,i)
def sK.k:=cn 85 cB4 bZ4 λ(a,b,c,d,e,f,g,h,i,j)=>sK (a,b,c,d,e,f,g,h,i) j
def jM.k:=cn 184 ⟨[e39],[]⟩ aVq λ(a,b,c)=>jM (a,b,c)
def gP.k:=cn 219 sh7 aJv λ(a,b,c,d,e,f,g,h,i,j)=>gP (a,b,c,d,e,f,g,h,i,j)
def vH.k:=cn 185 ⟨[(0,.one (.var (.sl tFy)))],[]⟩ ⟨[e7],[(0,aDa)]⟩ vH
def pY.k:=cn 186 ⟨[(0,.one (.var (.sl tFl)))],[]⟩ ⟨[e7],[(0,aMi)]⟩ pY
def uY.k:=cn 281 bQ2 bBz λ(a,b,c,d)=>uY (a,b,c,d)
def pQ.k:=cn 187 ⟨[(0,cA4)],[]⟩ ⟨[e7],[(0,aFk)]⟩ pQ
def sJ.k:=cn 90 bBx bBt λ(a,b,c,d,e,f,g,h,i,j,k,l,m)=>sJ ((a,b),(c,d),(e,f,g),h,i,j,k,l,m)
def nX.k:=cn 93 bZs sh2 λ(a,b,c)=>nX a b c
def dU.k:=cn 286 ⟨[e48,e1],[]⟩ aUl λ(a,b,c)=>dU (a,b) c
def pL.k:=cn 358 aV5 sh2 λ(a,b,c,d)=>pL (a,b,c) d
def eB.k:=cn 413 sh2 sh1 eB
def cK.k:=cn 359 ⟨[e17,e1,e4],[]⟩ bAo λ(a,b,c,d,e)=>cK (a,b,c) d e
def lY.k:=cn 361 bTm aUl λ(a,b,c,d)=>lY (a,b) c d
def oG.k:=cn 362 cCo aO2 λ(a,b,c,d,e,f,g,h,i,j)=>oG (a,b,c) (d,e,f) g (h,i,j)
def gT.k:=cn 288 cCz aQx λ(a,b,c,d,e,f,g,h,i,j)=>gT (a,b) (c,d,e) f g (h,i,j)
def tZ.k:=cn 285 bTm aQx λ(a,b,c,d)=>tZ (a,b) c d
def qK.k:=cn 360 bJ9 aO2 λ(a,b,c,d,e,f)=>qK (a,b,c) (d,e,f)
def mC.k:=cn 287 bJ9 aO2 λ(a,b,c,d,e,f)=>mC (a,b,c) (d,e,f)
def mS.k:=cn 192 bRp aQx λ(a,b,c,d,e,f)=>mS (a,b) (c,d) e f
def uO.k:=cn 434 bI4 aIk λ(a,b,c,d)=>uO (a,b,c,d)
def dZ.k:=cn 382 aRr sh2 λ(a,b,c,d,e)=>dZ (a,b,c,d) e
def fX.k:=cn 378 aRr sh2 λ(a,b,c,d,e)=>fX (a,b,c,d) e
def uV.k:=cn 414 bK1 sh1 λ(a,b,c,d,e,f)=>uV (a,b) (c,d,e,f)
def xV.k:=cn 415 sh2 sh2 xV
def mB.k:=cn 363 aUz sh1 λ(a,b,c)=>mB (a,b) c
def fJ.k:=cn 313 sh6 bQ6 fJ
def gZ.k:=cn 364 sh6 aIk gZ
def mD.k:=cn 290 aUz sh1 λ(a,b,c)=>mD (a,b) c
def xZ.k:=cn 432 sh5 sh2 λ(a,b)=>xZ a b
def jB.k:=cn 407 aRr sh2 λ(a,b,c,d,e)=>jB (a,b,c,d) e
def zH.k:=cn 416 aRr sh2 λ(a,b,c,d,e)=>zH (a,b,c,d) e
def pV.k:=cn 365 bK1 sh1 λ(a,b,c,d,e,f)=>pV (a,b) (c,d,e,f)
def pZ.k:=cn 291 aUz sh1 λ(a,b,c)=>pZ (a,b) c
def oF.k:=cn 292 ⟨[e40,e1],[]⟩ sh1 λ(a,b,c,d,e,f)=>oF (a,b,c,d,e) f
def pI.k:=cn 193 ⟨[e5,e22,e4],[]⟩ sh1 λ(a,b,c,d)=>pI (a,b) c d
def tG.k:=cn 366 cA8 sh1 λ(a,b,c,d,e,f,g,h)=>tG (a,b,c,d) (e,f,g,h)
def lS.k:=cn 293 bHn sh1 λ(a,b)=>lS a b
def wY.k:=cn 194 ⟨[e38,e22],[]⟩ sh1 λ(a,b)=>wY a b
def kI.k:=cn 95 cAe aKb λ(a,b,c,d,e,f,g)=>kI (a,b) (c,d) e f g
def oE.k:=cn 355 sh6 sh2 oE
def lP.k:=cn 356 sh6 sh2 lP
def pP.k:=cn 357 sh6 sh2 pP
def sM.k:=cn 284 bHn sh1 λ(a,b)=>sM a b
def uX.k:=cn 191 aKb aKb uX
def iE.k:=cn 352 ⟨[e47,e1],[]⟩ bG2 λ(a,b)=>iE a b
def sQ.k:=cn 353 ⟨[e13,e64],[]⟩ sh1 λ(a,b,c,d)=>sQ a (b,c,d)
def xE.k:=cn 282 ⟨[e47,e22,e4],[]⟩ sh1 λ(a,b,c)=>xE a b c
def kQ.k:=cn 190 cCs aQx λ(a,b,c)=>kQ a b c
def aA3.k:=cn 167 sh5 sh2 λ(a,b)=>aA3 a b
def rQ.k:=cn 94 cCb ⟨[(0,.agg [.var ti,.var ti,.var ti,.var ti,.row 0,.var (.sl tPt),.var ti,.var ti,.row 1])],[o9,(1,aEv)]⟩ λ(a,b,c,d,e,f,g,h,i,j,k)=>rQ (a,b,c,d,e,f,g,h,i) j k
def aAd.k:=cn 96 sh5 bBz λ(a,b)=>aAd a b
def zK.k:=cn 33 cA7 ⟨[e45,e26],[o19,o20,o29,o30,o31,o32,o15,o33,(8,ow1),o34]⟩ λ(a,b,c,d,e,f,g,h,i,j,k,l,m,n,o,p,q,r,s,t,u,v)=>zK ((a,b),(c,d),(e,f,g),h,i,j,k,l,m) (n,o,p,q,r,s,t,u,v)
def qP.k:=cn 262 sh6 bQ6 qP
def tC.k:=cn 297 ⟨[e34,(1,ag6)],[]⟩ bK9 λ(a,b,c,d,e,f)=>tC a (b,c,d,e,f)
def jS.k:=cn 296 aZe sh1 λ(a,b,c,d,e)=>jS (a,b,c,d,e)
def aAw.k:=cn 299 ⟨[e40,e1,e4,e6],[]⟩ sh1 λ(a,b,c,d,e,f,g,h)=>aAw (a,b,c,d,e) f g h
def kN.k:=cn 298 bWe sh2 λ(a,b,c,d)=>kN a b c d
def aDl.k:=cn 263 ⟨[e34,(1,ag6),e4,e6],[]⟩ ⟨[e7,e26],[o14]⟩ λ(a,b,c,d,e,f,g,h)=>aDl a (b,c,d,e,f) g h
def dW.k:=cn 168 ⟨[e34,e1,(2,ag3),e6,e10,e9,e14],[]⟩ ⟨[e7,e26],[o14]⟩ λ(a,b,c,d,e,f,g)=>dW a b c d e f g
def aBm.k:=cn 68 aOk ⟨[e45],[o19,o20,o29,o30,o31,o32,o15,o33,(8,ow1),o34,o1]⟩ λ(a,b,c)=>aBm (a,b,c)
def uK.k:=cn 418 aOk ⟨[e5,(1,cCn)],[o6,o1]⟩ λ(a,b,c)=>uK (a,b,c)
def uL.k:=cn 405 sh6 sh5 uL
def cY.k:=cn 340 bUo aJv λ(a,b,c,d,e)=>cY a b c d e
def zM.k:=cn 368 aOk ⟨[e5,(1,ag8)],[o6,o8,o1]⟩ λ(a,b,c)=>zM (a,b,c)
def oP.k:=cn 303 aOk bLh λ(a,b,c)=>oP (a,b,c)
def aA9.k:=cn 369 aOk ⟨[(0,.agg [.any,.any]),e22],[o1]⟩ λ(a,b,c)=>aA9 (a,b,c)
def aA7.k:=cn 302 aOk ⟨[e5,(1,.agg [.var ti,.var ti,.var ti,.var (.sl tPp),.var ti,.var ti,.var ti,.var ti,.var ti,.row 0])],[o37,o1]⟩ λ(a,b,c)=>aA7 (a,b,c)
def uS.k:=cn 435 aNc sh1 λ(a,b,c)=>uS (a,b,c)
def nM.k:=cn 419 sh6 sh1 nM
def kD.k:=cn 370 sh7 sh1 λ(a,b,c,d,e,f,g,h,i,j)=>kD (a,b,c,d,e,f,g,h,i,j)
def pN.k:=cn 371 ⟨[e42,e1,e4],[]⟩ sh1 λ(a,b,c,d,e,f,g,h,i,j,k,l,m,n,o)=>pN ((a,b),(c,d),(e,f,g),h,i,j,k,l,m) n o
def vM.k:=cn 210 bVw sh1 λ(a,b)=>vM a b
def mW.k:=cn 372 ⟨[e20,e31],[]⟩ sh1 λ(a,b,c,d,e,f,g,h,i,j,k,l,m,n,o,p,q,r,s,t)=>mW (a,b,c,d,e,f,g,h,i,j) (k,l,m,n,o,p,q,r,s,t)
def rK.k:=cn 304 bVj sh1 λ(a,b,c,d,e,f,g,h,i,j,k,l,m,n,o,p,q,r,s,t,u,v,w,x,y,z,A,B)=>rK ((a,b),(c,d),(e,f,g),h,i,j,k,l,m) (n,o,p,(q,r,(s,t,u,v,w,x,y,z,A,B)))
def gO.k:=cn 373 ⟨[e34,e1],[]⟩ bK9 λ(a,b)=>gO a b
def yI.k:=cn 305 bP7 aVq λ(a,b,c,d)=>yI (a,b,c) d
def fI.k:=cn 374 aKc aUr λ(a,b,c,d,e,f,g,h,i)=>fI (a,b,c,d,e,f,g,h,i)
def uU.k:=cn 375 aKc aNz λ(a,b,c,d,e,f,g,h,i)=>uU (a,b,c,d,e,f,g,h,i)
def xN.k:=cn 306 aKc bVb λ(a,b,c,d,e,f,g,h,i)=>xN (a,b,c,d,e,f,g,h,i)
def qL.k:=cn 218 aUy sh9 λ(a,b,c,d,e,f,g,h,i,j,k,l,m,n,o,p,q,r,s,t,u,v,w,x,y)=>qL ((m,n),(o,p),(q,r,s),t,u,w,x,y,v) a b (c,d,e,f,g,h,i,j,k,l)
def rP.k:=cn 423 sh2 sh1 rP
def aAp.k:=cn 424 sh2 sh1 aAp
def sE.k:=cn 385 sh5 sh2 λ(a,b)=>sE a b
def fN.k:=cn 308 ⟨[e5,e51,e4],[]⟩ sh2 λ(a,b,c,d)=>fN (a,b) c d
def eU.k:=cn 376 sh7 sh2 λ(a,b,c,d,e,f,g,h,i,j)=>eU (a,b,c,d,e,f,g,h,i,j)
def vA.k:=cn 377 ⟨[e2,e31],[]⟩ bWs λ(a,b,c,d,e,f,g,h,i,j,k)=>vA a (b,c,d,e,f,g,h,i,j,k)
def jO.k:=cn 420 ⟨[e5,e31],[]⟩ aUr λ(a,b,c,d,e,f,g,h,i,j,k,l)=>jO (a,b) (c,d,e,f,g,h,i,j,k,l)
def kR.k:=cn 421 bSq sh1 λ(a,b,c,d,e,f,g,h,i,j,k)=>kR (a,b,c,d,e,f,g,h,i,j) k
def pT.k:=cn 379 bWc ⟨[e25,e1],[o6,o8]⟩ λ(a,b,c,d,e,f,g,h,i,j,k,l,m)=>pT (a,b) c (d,e,f,g,h,i,j,k,l,m)
def nU.k:=cn 381 sh7 sh1 λ(a,b,c,d,e,f,g,h,i,j)=>nU (a,b,c,d,e,f,g,h,i,j)
def iN.k:=cn 380 sh7 aJv λ(a,b,c,d,e,f,g,h,i,j)=>iN (a,b,c,d,e,f,g,h,i,j)
def lU.k:=cn 422 sh5 sh1 λ(a,b)=>lU a b
def qR.k:=cn 383 ⟨[e5,e64],[]⟩ sh1 λ(a,b,c,d,e)=>qR (a,b) (c,d,e)
def wX.k:=cn 384 sh5 sh1 λ(a,b)=>wX a b
def uG.k:=cn 307 bRr bWs λ(a,b,c,d,e,f,g,h,i,j,k,l,m,n,o,p)=>uG (a,b) c d e f (g,h,i,j,k,l,m,n,o,p)
def yB.k:=cn 425 aUw sh1 λ(a,b,c,d,e,f,g,h,i,j,k,l,m,n)=>yB (a,b,c,d) (e,f,g,h,i,j,k,l,m,n)
def pK.k:=cn 386 aUw bBz λ(a,b,c,d,e,f,g,h,i,j,k,l,m,n)=>pK (a,b,c,d) (e,f,g,h,i,j,k,l,m,n)
def oH.k:=cn 406 sh2 sh2 oH
def qS.k:=cn 341 bI4 bAo λ(a,b,c,d)=>qS (a,b,c,d)
def mL.k:=cn 266 sh6 aO2 mL
def aDe.k:=cn 426 bU8 aJv λ(a,b,c,d,e,f,g,h,i,j,k,l,m)=>aDe (a,b,c,d,e,f,g,h,i,j) k l m
def xP.k:=cn 387 aUw aUr λ(a,b,c,d,e,f,g,h,i,j,k,l,m,n)=>xP (a,b,c,d) (e,f,g,h,i,j,k,l,m,n)
def rZ.k:=cn 388 ⟨[e21,e31],[]⟩ aNz λ(a,b,c,d,e,f,g,h,i,j,k,l,m,n,o,p,q,r,s)=>rZ (a,b,c,d,e,f,g,h,i) (j,k,l,m,n,o,p,q,r,s)
def sX.k:=cn 440 bCq ⟨[e2,e1,e18],[]⟩ λ(a,b)=>sX a b
def sT.k:=cn 437 ⟨[e19,e1,e4],[]⟩ bVi λ(a,b,c)=>sT a b c
def jI.k:=cn 428 aH7 ⟨[e63,e26],[]⟩ jI
def nJ.k:=cn 429 ⟨[e47,e64],[]⟩ ⟨[e47],[]⟩ λ(a,b,c,d)=>nJ a (b,c,d)
def jK.k:=cn 392 ⟨[e21,e31,e4],[]⟩ ⟨[(0,.agg [.var ti,.var ti,.var ti,.var ti,.row 0,.row 1,.var ti,.var ti,.var (.sl tRv)])],[o9,o21]⟩ λ(a,b,c,d,e,f,g,h,i,j,k,l,m,n,o,p,q,r,s,t)=>jK (a,b,c,d,e,f,g,h,i) (j,k,l,m,n,o,p,q,r,s) t
def oR.k:=cn 315 bHe sh9 λ(a,b,c,d,e,f,g,h,i,j,k,l,m,n,o,p,q,r,s,t,u,v,w,x)=>oR ((l,m),(n,o),(p,q,r),s,t,v,w,x,u) a (b,c,d,e,f,g,h,i,j,k)
def uZ.k:=cn 309 bHe sh9 λ(a,b,c,d,e,f,g,h,i,j,k,l,m,n,o,p,q,r,s,t,u,v,w,x)=>uZ ((l,m),(n,o),(p,q,r),s,t,v,w,x,u) a (b,c,d,e,f,g,h,i,j,k)
def rR.k:=cn 209 ⟨[(0,.one (.var (.sl tUs))),e1,e4,e6],[]⟩ sh2 λ(a,b,c,d)=>rR a b c d
def rN.k:=cn 389 bKj sh2 λ(a,b,c,d,e,f)=>rN (a,b,c) d e f
def kP.k:=cn 207 bI0 sh2 λ(a,b,c,d,e)=>kP a b c d e
def xO.k:=cn 390 bKj aVq λ(a,b,c,d,e,f)=>xO (a,b,c) d e f
def xR.k:=cn 208 bI0 sh2 λ(a,b,c,d,e)=>xR a b c d e
def uA.k:=cn 310 bP8 bT5 λ(a,b,c,d,e,f,g)=>uA (a,b,c) d e f g
def uF.k:=cn 312 sh7 sh2 λ(a,b,c,d,e,f,g,h,i,j)=>uF (a,b,c,d,e,f,g,h,i,j)
def iU.k:=cn 314 sh7 bTg λ(a,b,c,d,e,f,g,h,i,j)=>iU (a,b,c,d,e,f,g,h,i,j)
def oU.k:=cn 436 bCq aZt λ(a,b)=>oU a b
def sU.k:=cn 427 aQ2 aZt sU
def jJ.k:=cn 391 bJe aZt λ(a,b,c)=>jJ (a,b,c)
def hP.k:=cn 311 bU1 aJv λ(a,b,c,d,e,f,g,h,i,j,k,l,m,n,o)=>hP (a,b) c d e (f,g,h,i,j,k,l,m,n,o)
def iK.k:=cn 218 aUy sh9 λ(a,b,c,d,e,f,g,h,i,j,k,l,m,n,o,p,q,r,s,t,u,v,w,x,y)=>iK ((m,n),(o,p),(q,r,s),t,u,w,x,y,v) a b (c,d,e,f,g,h,i,j,k,l)
def kT.k:=cn 309 bHe sh9 λ(a,b,c,d,e,f,g,h,i,j,k,l,m,n,o,p,q,r,s,t,u,v,w,x)=>kT ((l,m),(n,o),(p,q,r),s,t,v,w,x,u) a (b,c,d,e,f,g,h,i,j,k)
def eP.k:=cn 218 aUy sh9 λ(a,b,c,d,e,f,g,h,i,j,k,l,m,n,o,p,q,r,s,t,u,v,w,x,y)=>eP ((m,n),(o,p),(q,r,s),t,u,w,x,y,v) a b (c,d,e,f,g,h,i,j,k,l)
def wS.k:=cn 216 bQa aVm λ(a,b,c,d,e,f,g,h,i,j,k,l,m)=>wS ((a,b),(c,d),(e,f,g),h,i,k,l,m,j)
def xT.k:=cn 217 bS4 bUh λ(a,b,c,d,e,f,g,h,i,j,k,l,m,n)=>xT ((b,c),(d,e),(f,g,h),i,j,l,m,n,k) a
def zL.k:=cn 220 ⟨[e8,e1,e18],[o4,o3,o2,o5]⟩ aVm λ(a,b,c,d,e,f,g,h,i,j,k,l,m,n,o)=>zL ((c,d),(e,f),(g,h,i),j,k,m,n,o,l) a b
def aBk.k:=cn 221 bTq aVm λ(a,b,c,d,e,f,g,h,i,j,k,l,m,n,o,p,q,r,s,t,u,v,w,x,y,z,A,B)=>aBk ((p,q),(r,s),(t,u,v),w,x,z,A,B,y) (a,b,c,(d,e,(f,g,h,i,j,k,l,m,n,o)))
def aDs.k:=cn 121 bTq aVm λ(a,b,c,d,e,f,g,h,i,j,k,l,m,n,o,p,q,r,s,t,u,v,w,x,y,z,A,B)=>aDs ((p,q),(r,s),(t,u,v),w,x,z,A,B,y) (a,b,c,(d,e,(f,g,h,i,j,k,l,m,n,o)))
def pO.k:=cn 215 bVt ⟨[(0,.agg [.var ti,.var ti,.row 1,.var ti,.var ti,.var ti,.var ti,.var ti,.var (.sl tPp),.var ti,.var ti,.var ti,.var ti,.var ti,.row 0])],[o37,o8,o1,o48,o49,o50]⟩ λ(a,b,c,d,e,f,g,h,i,j,k,l,m,n,o,p)=>pO (k,l,m) ((a,b),(c,d),(e,f,g),h,i,n,o,p,j)
def uJ.k:=cn 120 bVt ⟨[(0,.agg [.var ti,.var ti,.row 0,.var ti,.var ti,.var ti,.var ti,.var ti,.var (.sl tPp),.var ti,.var ti,.var ti,.var ti,.var ti,.row 1])],[o37,o8,o1,o48,o49,o50]⟩ λ(a,b,c,d,e,f,g,h,i,j,k,l,m,n,o,p)=>uJ (k,l,m) ((a,b),(c,d),(e,f,g),h,i,n,o,p,j)
def aA8.k:=cn 41 bLg ⟨[e45,e73,(2,.agg [.var (.sl tAS),.var (.sl tLk),.var (.sl tSg),.var (.sl tSg),.var ti,.var (.sl tRs),.var (.sl tUs),.var ti,.var (.sl ti),.row 10,.row 11,.row 12,.var ti])],[o19,o20,o29,o30,o31,o32,o15,o33,(8,ow1),o34,(10,ow4),(11,ow1),(12,ow6),o1]⟩ λ(a,b,c,d)=>aA8 (b,c,d) a
def sZ.k:=cn 9 aH7 ⟨[e45,e73],[o19,o20,o29,o30,o31,o32,o15,o33,(8,ow1),o34]⟩ sZ
def rY.k:=cn 145 aQ2 aIk rY
def nY.k:=cn 132 bTt aQ2 λ(a,b)=>nY a b
def sY.k:=cn 44 bCk aQ2 λ(a,b,c)=>sY (a,b) c
def gS.k:=cn 133 bQw sh1 λ(a,b,c,d,e,f,g)=>gS (a,b,c,d,e) f g
def mI.k:=cn 46 aQ9 sh2 λ(a,b,c,d)=>mI (a,b) c d
def oM.k:=cn 45 bTt sh1 λ(a,b)=>oM a b
def bK.k:=cn 60 bSl sh1 λ(a,b,c)=>bK a b c
def sB.k:=cn 134 sh2 sh1 sB
def tH.k:=cn 47 sh5 sh2 λ(a,b)=>tH a b
def cF.k:=cn 11 ⟨[e5,e51,e4],[]⟩ sh2 λ(a,b,c,d)=>cF (a,b) c d
def mX.k:=cn 225 aZ6 bSr mX
def fC.k:=cn 135 sh6 aO2 fC
def eQ.k:=cn 136 aH7 aZt eQ
def dP.k:=cn 48 sh7 aJv λ(a,b,c,d,e,f,g,h,i,j)=>dP (a,b,c,d,e,f,g,h,i,j)
def mZ.k:=cn 122 ⟨[e2,(1,.one (.ptr 1000001 0))],[(1000001,ob7)]⟩ ⟨[(0,cBi)],[o6,o8,(1000001,ob7)]⟩ λ(a,b,c,d,e,f,g,h,i,j,k)=>mZ a (b,c,d,e,f,g,h,i,j,k)
def dY.k:=cn 137 sh2 sh1 dY
def oJ.k:=cn 138 aZe sh1 λ(a,b,c,d,e)=>oJ (a,b,c,d,e)
def nC.k:=cn 316 aZ6 sh1 nC
def nI.k:=cn 222 sh6 sh1 nI
def yL.k:=cn 49 sh7 sh1 λ(a,b,c,d,e,f,g,h,i,j)=>yL (a,b,c,d,e,f,g,h,i,j)
def dN.k:=cn 15 sh7 sh2 λ(a,b,c,d,e,f,g,h,i,j)=>dN (a,b,c,d,e,f,g,h,i,j)
def qJ.k:=cn 123 sh7 sh1 λ(a,b,c,d,e,f,g,h,i,j)=>qJ (a,b,c,d,e,f,g,h,i,j)
def lB.k:=cn 62 bCk sh1 λ(a,b,c)=>lB (a,b) c
def aBg.k:=cn 227 ⟨[e5,(1,bRa)],[]⟩ sh1 λ(a,b,c)=>aBg (a,b) c
def eA.k:=cn 51 sh2 sh1 eA
def gQ.k:=cn 129 aRr sh2 λ(a,b,c,d,e)=>gQ (a,b,c,d) e
def mO.k:=cn 228 aQ9 sh5 λ(a,b,c,d)=>mO (a,b) c d
def gI.k:=cn 124 aRr sh2 λ(a,b,c,d,e)=>gI (a,b,c,d) e
def uT.k:=cn 140 bK1 sh1 λ(a,b,c,d,e,f)=>uT (a,b) (c,d,e,f)
def xM.k:=cn 141 sh2 sh2 xM
def mF.k:=cn 55 aUz sh1 λ(a,b,c)=>mF (a,b) c
def mK.k:=cn 143 sh6 bQ6 mK
def zO.k:=cn 142 ⟨[(0,.one (.var (.sl mY)))],[]⟩ aIk zO
def hO.k:=cn 56 sh6 aIk hO
def iS.k:=cn 14 aUz sh1 λ(a,b,c)=>iS (a,b) c
def tR.k:=cn 50 sh5 sh2 λ(a,b)=>tR a b
def xY.k:=cn 52 sh5 sh2 λ(a,b)=>xY a b
def aJn.k:=cn 393 sh5 sh2 λ(a,b)=>aJn a b
def yC.k:=cn 317 aQ2 sh2 yC
def vW.k:=cn 226 bJv sh2 λ(a,b)=>vW a b
def aBt.k:=cn 139 bRj sh2 λ(a,b,c,d,e,f,g,h)=>aBt a b c (d,e,f,g,h)
def pH.k:=cn 53 cC5 sh1 λ(a,b,c,d,e,f,g,h,i)=>pH (a,b) c d (e,f,g,h,i)
def eJ.k:=cn 12 ⟨[e5,e31],[]⟩ aUr λ(a,b,c,d,e,f,g,h,i,j,k,l)=>eJ (a,b) (c,d,e,f,g,h,i,j,k,l)
def vT.k:=cn 54 ⟨[e40,e1],[]⟩ sh1 λ(a,b,c,d,e,f)=>vT (a,b,c,d,e) f
def eG.k:=cn 13 bSq sh1 λ(a,b,c,d,e,f,g,h,i,j,k)=>eG (a,b,c,d,e,f,g,h,i,j) k
def mQ.k:=cn 125 bWc bSq λ(a,b,c,d,e,f,g,h,i,j,k,l,m)=>mQ (a,b) c (d,e,f,g,h,i,j,k,l,m)
def iL.k:=cn 126 sh7 sh1 λ(a,b,c,d,e,f,g,h,i,j)=>iL (a,b,c,d,e,f,g,h,i,j)
def mJ.k:=cn 127 sh7 sh1 λ(a,b,c,d,e,f,g,h,i,j)=>mJ (a,b,c,d,e,f,g,h,i,j)
def oD.k:=cn 128 sh7 aJv λ(a,b,c,d,e,f,g,h,i,j)=>oD (a,b,c,d,e,f,g,h,i,j)
def lG.k:=cn 224 aQ9 sh2 λ(a,b,c,d)=>lG (a,b) c d
def lZ.k:=cn 223 sh5 sh1 λ(a,b)=>lZ a b
def qM.k:=cn 130 ⟨[e5,e64],[]⟩ sh1 λ(a,b,c,d,e)=>qM (a,b) (c,d,e)
def wU.k:=cn 131 sh5 sh1 λ(a,b)=>wU a b
def tT.k:=cn 43 bRr ⟨[(0,bJz),e1],[]⟩ λ(a,b,c,d,e,f,g,h,i,j,k,l,m,n,o,p)=>tT (a,b) c d e f (g,h,i,j,k,l,m,n,o,p)
def oS.k:=cn 10 bRr ⟨[(0,bJz)],[]⟩ λ(a,b,c,d,e,f,g,h,i,j,k,l,m,n,o,p)=>oS (a,b) c d e f (g,h,i,j,k,l,m,n,o,p)
def wR.k:=cn 152 sh2 sh1 wR
def aA6.k:=cn 153 ⟨[e5,(1,ag6)],[]⟩ sh1 λ(a,b,c,d,e,f,g)=>aA6 (a,b) (c,d,e,f,g)
def nN.k:=cn 59 bKb sh1 λ(a,b)=>nN (a,b)
def cG.k:=cn 157 bJe sh1 λ(a,b,c)=>cG (a,b,c)
def jQ.k:=cn 242 aZe sh1 λ(a,b,c,d,e)=>jQ (a,b,c,d,e)
def eX.k:=cn 244 bQw sh1 λ(a,b,c,d,e,f,g)=>eX (a,b,c,d,e) f g
def kH.k:=cn 243 bWe sh2 λ(a,b,c,d)=>kH a b c d
def iD.k:=cn 154 ⟨[e34,e1,e4],[]⟩ sh1 λ(a,b,c)=>iD a b c
def qQ.k:=cn 155 bKj sh2 λ(a,b,c,d,e,f)=>qQ (a,b,c) d e f
def aEg.k:=cn 74 sh5 sh2 λ(a,b)=>aEg a b
def xL.k:=cn 245 bI0 sh2 λ(a,b,c,d,e)=>xL a b c d e
def kU.k:=cn 246 bI0 sh2 λ(a,b,c,d,e)=>kU a b c d e
def yD.k:=cn 156 bP8 sh2 λ(a,b,c,d,e,f,g)=>yD (a,b,c) d e f g
def mH.k:=cn 61 bP7 sh1 λ(a,b,c,d)=>mH (a,b,c) d
def oA.k:=cn 63 aKc sh1 λ(a,b,c,d,e,f,g,h,i)=>oA (a,b,c,d,e,f,g,h,i)
def sV.k:=cn 64 bQ2 sh1 λ(a,b,c,d)=>sV (a,b,c,d)
def vR.k:=cn 158 bVw sh1 λ(a,b)=>vR a b
def nH.k:=cn 65 ⟨[(0,bHj),(1,bHj)],[]⟩ sh1 λ(a,b)=>nH a b
def fZ.k:=cn 19 ⟨[e21,(1,cC7)],[]⟩ sh1 λ(a,b,c,d,e,f,g,h,i,j,k,l,m)=>fZ (a,b,c,d,e,f,g,h,i) (j,k,l,m)
def fP.k:=cn 17 bBx sh1 λ(a,b,c,d,e,f,g,h,i,j,k,l,m)=>fP ((a,b),(c,d),(e,f,g),h,i,j,k,l,m)
def oX.k:=cn 80 bKb cB7 λ(a,b)=>oX (a,b)
def iI.k:=cn 267 aNc bQk λ(a,b,c)=>iI (a,b,c)
def mR.k:=cn 176 ⟨[(0,bSo)],[]⟩ aUl mR
def rH.k:=cn 81 ⟨[e48],[]⟩ cAl λ(a,b)=>rH (a,b)
def fL.k:=cn 229 ⟨[e34],[]⟩ bK9 fL
def fW.k:=cn 144 ⟨[e39],[]⟩ aVq λ(a,b,c)=>fW (a,b,c)
def kJ.k:=cn 230 ⟨[(0,bHj)],[]⟩ ⟨[e7],[o9]⟩ kJ
def uW.k:=cn 231 aKb aQx uW
def fA.k:=cn 232 ⟨[e47],[]⟩ bG2 fA
def fE.k:=cn 146 aKc aNz λ(a,b,c,d,e,f,g,h,i)=>fE (a,b,c,d,e,f,g,h,i)
def pG.k:=cn 147 bQ2 bBz λ(a,b,c,d)=>pG (a,b,c,d)
def eY.k:=cn 57 bBx bBt λ(a,b,c,d,e,f,g,h,i,j,k,l,m)=>eY ((a,b),(c,d),(e,f,g),h,i,j,k,l,m)
def gL.k:=cn 318 ⟨[e34,e1],[]⟩ bK9 λ(a,b)=>gL a b
def yN.k:=cn 233 bP7 aVq λ(a,b,c,d)=>yN (a,b,c) d
def uH.k:=cn 250 sh6 sh5 uH
def jA.k:=cn 161 bUo aJv λ(a,b,c,d,e)=>jA a b c d e
def fO.k:=cn 319 aKc aUr λ(a,b,c,d,e,f,g,h,i)=>fO (a,b,c,d,e,f,g,h,i)
def rS.k:=cn 320 aKc sh2 λ(a,b,c,d,e,f,g,h,i)=>rS (a,b,c,d,e,f,g,h,i)
def xK.k:=cn 234 aKc bVb λ(a,b,c,d,e,f,g,h,i)=>xK (a,b,c,d,e,f,g,h,i)
def nR.k:=cn 150 aUy sh9 λ(a,b,c,d,e,f,g,h,i,j,k,l,m,n,o,p,q,r,s,t,u,v,w,x,y)=>nR ((m,n),(o,p),(q,r,s),t,u,w,x,y,v) a b (c,d,e,f,g,h,i,j,k,l)
def uP.k:=cn 394 bKj sh2 λ(a,b,c,d,e,f)=>uP (a,b,c) d e f
def wV.k:=cn 321 bP8 bT5 λ(a,b,c,d,e,f,g)=>wV (a,b,c) d e f g
def mP.k:=cn 235 ⟨[e8,e1,(2,bJz)],[o4,o3,o2,o5]⟩ sh9 λ(a,b,c,d,e,f,g,h,i,j,k,l,m,n,o,p,q,r,s,t,u,v,w,x,y,z)=>mP ((n,o),(p,q),(r,s,t),u,v,x,y,z,w) a (b,c,(d,e,f,g,h,i,j,k,l,m))
def rX.k:=cn 86 bZs sh2 λ(a,b,c)=>rX a b c
def uI.k:=cn 322 aUw sh1 λ(a,b,c,d,e,f,g,h,i,j,k,l,m,n)=>uI (a,b,c,d) (e,f,g,h,i,j,k,l,m,n)
def pR.k:=cn 236 aUw bBz λ(a,b,c,d,e,f,g,h,i,j,k,l,m,n)=>pR (a,b,c,d) (e,f,g,h,i,j,k,l,m,n)
def qG.k:=cn 247 sh2 sh2 qG
def oB.k:=cn 248 aRr sh2 λ(a,b,c,d,e)=>oB (a,b,c,d) e
def kL.k:=cn 249 aZ6 bSr kL
def qH.k:=cn 159 bI4 bAo λ(a,b,c,d)=>qH (a,b,c,d)
def iJ.k:=cn 66 sh6 aO2 iJ
def aDd.k:=cn 323 bU8 aJv λ(a,b,c,d,e,f,g,h,i,j,k,l,m)=>aDd (a,b,c,d,e,f,g,h,i,j) k l m
def xX.k:=cn 237 aUw aUr λ(a,b,c,d,e,f,g,h,i,j,k,l,m,n)=>xX (a,b,c,d) (e,f,g,h,i,j,k,l,m,n)
def uM.k:=cn 324 ⟨[e21,e31],[]⟩ aNz λ(a,b,c,d,e,f,g,h,i,j,k,l,m,n,o,p,q,r,s)=>uM (a,b,c,d,e,f,g,h,i) (j,k,l,m,n,o,p,q,r,s)
def sG.k:=cn 438 bCq ⟨[e2,e1,e18],[]⟩ λ(a,b)=>sG a b
def sL.k:=cn 430 ⟨[e19,e1,e4],[]⟩ bVi λ(a,b,c)=>sL a b c
def jR.k:=cn 395 aH7 ⟨[e63,e26],[]⟩ jR
def sH.k:=cn 343 ⟨[e13,e64],[]⟩ sh1 λ(a,b,c,d)=>sH a (b,c,d)
def nO.k:=cn 396 ⟨[e47,e64],[]⟩ bG2 λ(a,b,c,d)=>nO a (b,c,d)
def jL.k:=cn 325 ⟨[e21,e31,e4],[]⟩ aNz λ(a,b,c,d,e,f,g,h,i,j,k,l,m,n,o,p,q,r,s,t)=>jL (a,b,c,d,e,f,g,h,i) (j,k,l,m,n,o,p,q,r,s) t
def iM.k:=cn 238 bHe sh9 λ(a,b,c,d,e,f,g,h,i,j,k,l,m,n,o,p,q,r,s,t,u,v,w,x)=>iM ((l,m),(n,o),(p,q,r),s,t,v,w,x,u) a (b,c,d,e,f,g,h,i,j,k)
def aG8.k:=cn 23 sh5 sh2 λ(a,b)=>aG8 a b
def iX.k:=cn 241 sh7 bTg λ(a,b,c,d,e,f,g,h,i,j)=>iX (a,b,c,d,e,f,g,h,i,j)
def oW.k:=cn 439 bCq aZt λ(a,b)=>oW a b
def sF.k:=cn 431 ⟨[e19,e51],[]⟩ aH7 λ(a,b)=>sF a b
def tA.k:=cn 397 aQ2 aH7 tA
def jP.k:=cn 326 bJe aH7 λ(a,b,c)=>jP (a,b,c)
def jY.k:=cn 239 bU1 aJv λ(a,b,c,d,e,f,g,h,i,j,k,l,m,n,o)=>jY (a,b) c d e (f,g,h,i,j,k,l,m,n,o)
def lV.k:=cn 240 sh6 sh2 lV
def eR.k:=cn 150 aUy sh9 λ(a,b,c,d,e,f,g,h,i,j,k,l,m,n,o,p,q,r,s,t,u,v,w,x,y)=>eR ((m,n),(o,p),(q,r,s),t,u,w,x,y,v) a b (c,d,e,f,g,h,i,j,k,l)
def bP.k:=cn 150 aUy sh9 λ(a,b,c,d,e,f,g,h,i,j,k,l,m,n,o,p,q,r,s,t,u,v,w,x,y)=>bP ((m,n),(o,p),(q,r,s),t,u,w,x,y,v) a b (c,d,e,f,g,h,i,j,k,l)
def kO.k:=cn 148 bQa aVm λ(a,b,c,d,e,f,g,h,i,j,k,l,m)=>kO ((a,b),(c,d),(e,f,g),h,i,k,l,m,j)
def fS.k:=cn 149 bS4 bUh λ(a,b,c,d,e,f,g,h,i,j,k,l,m,n)=>fS ((b,c),(d,e),(f,g,h),i,j,l,m,n,k) a
def zN.k:=cn 151 cB4 bZ4 λ(a,b,c,d,e,f,g,h,i,j)=>zN (a,b,c,d,e,f,g,h,i) j
def aBp.k:=cn 346 aNc sh2 λ(a,b,c)=>aBp (a,b,c)
def rI.k:=cn 272 ⟨[e48,e1],[]⟩ aUl λ(a,b,c)=>rI (a,b) c
def vU.k:=cn 273 aV5 sh2 λ(a,b,c,d)=>vU (a,b,c) d
def aEr.k:=cn 410 aZ6 aIk aEr
def aB6.k:=cn 409 bJv sh2 λ(a,b)=>aB6 a b
def aBh.k:=cn 347 aV5 sh2 λ(a,b,c,d)=>aBh (a,b,c) d
def oL.k:=cn 274 ⟨[e17,e1,e4],[]⟩ bAo λ(a,b,c,d,e)=>oL (a,b,c) d e
def sN.k:=cn 278 aNc sh2 λ(a,b,c)=>sN (a,b,c)
def zQ.k:=cn 348 bTm aUl λ(a,b,c,d)=>zQ (a,b) c d
def qT.k:=cn 411 ⟨[e17,e1,(2,.one (.ptr 1000002 0))],[(1000002,.box [.row 0]),(0,aVo)]⟩ ⟨[],[(0,aVo),(1000002,.box [.row 0])]⟩ λ(a,b,c,d,e)=>qT (a,b,c) d e
def yM.k:=cn 349 cCo bTg λ(a,b,c,d,e,f,g,h,i,j)=>yM (a,b,c) (d,e,f) g (h,i,j)
def oI.k:=cn 275 cCz aKb λ(a,b,c,d,e,f,g,h,i,j)=>oI (a,b) (c,d,e) f g (h,i,j)
def aAq.k:=cn 350 aV5 sh2 λ(a,b,c,d)=>aAq (a,b,c) d
def yY.k:=cn 276 bJ9 aO2 λ(a,b,c,d,e,f)=>yY (a,b,c) (d,e,f)
def aC1.k:=cn 277 bCk sh1 λ(a,b,c)=>aC1 (a,b) c
def vD.k:=cn 181 bRp aKb λ(a,b,c,d,e,f)=>vD (a,b) (c,d) e f
def zA.k:=cn 351 bK1 sh1 λ(a,b,c,d,e,f)=>zA (a,b) (c,d,e,f)
def yX.k:=cn 279 aUz sh1 λ(a,b,c)=>yX (a,b) c
def qN.k:=cn 280 aZ6 sh2 qN
def zF.k:=cn 182 ⟨[e5,e22,e4],[]⟩ sh1 λ(a,b,c,d)=>zF (a,b) c d
def tK.k:=cn 300 cB3 sh1 λ(a,b)=>tK a b
def yU.k:=cn 301 cA8 sh1 λ(a,b,c,d,e,f,g,h)=>yU (a,b,c,d) (e,f,g,h)
def yZ.k:=cn 213 bHn sh1 λ(a,b)=>yZ a b
def aDv.k:=cn 183 ⟨[e38,e22],[]⟩ sh1 λ(a,b)=>aDv a b
def aAz.k:=cn 88 cAe aKb λ(a,b,c,d,e,f,g)=>aAz (a,b) (c,d) e f g
def aDg.k:=cn 408 sh6 bSr aDg
def vP.k:=cn 344 sh6 sh2 vP
def vS.k:=cn 345 sh6 sh2 vS
def zE.k:=cn 271 bHn sh1 λ(a,b)=>zE a b
def aAs.k:=cn 180 aKb aKb aAs
def nQ.k:=cn 342 ⟨[e47,e1],[]⟩ bG2 λ(a,b)=>nQ a b
def aDf.k:=cn 270 ⟨[e47,e22,e4],[]⟩ sh1 λ(a,b,c)=>aDf a b c
def qB.k:=cn 179 cCs aQx λ(a,b,c)=>qB a b c
def aB7.k:=cn 87 cCb aNz λ(a,b,c,d,e,f,g,h,i,j,k)=>aB7 (a,b,c,d,e,f,g,h,i) j k
def nF.k:=cn 58 bTq aVm λ(a,b,c,d,e,f,g,h,i,j,k,l,m,n,o,p,q,r,s,t,u,v,w,x,y,z,A,B)=>nF ((p,q),(r,s),(t,u,v),w,x,z,A,B,y) (a,b,c,(d,e,(f,g,h,i,j,k,l,m,n,o)))
def sS.k:=cn 16 bVj ⟨[e45,e26],[o19,o20,o29,o30,o31,o32,o15,o33,o44,o34]⟩ λ(a,b,c,d,e,f,g,h,i,j,k,l,m,n,o,p,q,r,s,t,u,v,w,x,y,z,A,B)=>sS ((a,b),(c,d),(e,f,g),h,i,j,k,l,m) (n,o,p,(q,r,(s,t,u,v,w,x,y,z,A,B)))
def hH.k:=cn 28 bBx sh2 λ(a,b,c,d,e,f,g,h,i,j,k,l,m)=>hH ((a,b),(c,d),(e,f,g),h,i,j,k,l,m)
def iG.k:=cn 170 bS4 sh9 λ(a,b,c,d,e,f,g,h,i,j,k,l,m,n)=>iG ((b,c),(d,e),(f,g,h),i,j,l,m,n,k) a
def lC.k:=cn 70 bQa sh9 λ(a,b,c,d,e,f,g,h,i,j,k,l,m)=>lC ((a,b),(c,d),(e,f,g),h,i,k,l,m,j)
def uN.k:=cn 22 ⟨[e42,e1],[]⟩ bBt λ(a,b,c,d,e,f,g,h,i,j,k,l,m,n)=>uN ((a,b),(c,d),(e,f,g),h,i,j,k,l,m) n
def aBb.k:=cn 18 bBx bBt λ(a,b,c,d,e,f,g,h,i,j,k,l,m)=>aBb ((a,b),(c,d),(e,f,g),h,i,j,k,l,m)
def uB.k:=cn 160 ⟨[e5,e1,(2,vr7),e59],[]⟩ ⟨[(0,.agg [.var ti,.row 0,.var ti,.var ti,.var ti,.var (.sl tPp),.var ti,.var ti,.var ti,.var ti,.var ti,.var (.sl tb)])],[(0,aQ0)]⟩ λ(a,b,c,d,e,f,g,h,i,j,k,l,m,n)=>uB (a,b) c d (e,f,g,h,i,j,k,l,m,n)
def wN.k:=cn 67 ⟨[e5,e1,(2,vr7),(3,ag3)],[]⟩ sh1 λ(a,b,c,d,e)=>wN (a,b) c d e
def mM.k:=cn 20 cA7 sh2 λ(a,b,c,d,e,f,g,h,i,j,k,l,m,n,o,p,q,r,s,t,u,v)=>mM ((a,b),(c,d),(e,f,g),h,i,j,k,l,m) (n,o,p,q,r,s,t,u,v)
def l_FnTop.k:=cn 3 aH7 sh1 l_FnTop
end

end Go.Proofs.YtnkjolpkcmgcaaaGreat
