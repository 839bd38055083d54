/-
  Contracts of the functions of the program. Conditions: none.
-/
import Derived.Test.YtjpmmodjpaabpaaGreatT1FnBench
import Derived.Test.YtjpmmodjpaabpaaGreatProg
import Derived.KernelRfl
set_option linter.unusedVariables false
set_option linter.unusedSimpArgs false
set_option maxRecDepth 100000
open Bool renaming true→U
open Bool renaming false→W
namespace Go.Proofs.YtjpmmodjpaabpaaGreat
open Go.Ab Go.V
noncomputable section
theorem follows:Tryz.prog.follows .mixedOrders=U:=by kernel_rfl
theorem _root_.Go.V.Con.Ok.c{P:Program}{c:Con}{E:List Con}(h:c.Ok P)(k:JN P E):JN P (c::E):=⟨h,k⟩
theorem fk{E:List Con}{c:Con}{fn:Func}(hf:Tryz.prog.funcs[c.f]? =some fn)(k:JN Tryz.prog E)(pl:Plan)(e:∀x,YY Tryz.prog E fn pl c.pre c.post x=c.sem x:=by intro x;kernel_rfl)(hn:(fn.name=="runtime.NumGoroutine")=W:=by rfl):c.Ok Tryz.prog:=cL1 hf hn follows (JN.mem k) λx y h=>(e x).trans h
theorem A5:JN Tryz.prog []:=trivial
abbrev cn(f:FuncId)(a b:Sh)(s:D4 a.tys->Option (D4 b.tys)):Con:=⟨f,a,b,W,s⟩
abbrev OK(c:Con):Prop:=c.Ok Tryz.prog
abbrev _root_.Go.V.Plan.q(p:Plan):Plan:= .seq .z p
def ow1:OT:= .row 3 1 ti U
def ow2:OT:= .row 110 9 B7 W
def ow3:OT:= .row 76 12 C5 W
def ow4:OT:= .row 131 3 B9 U
def ow5:OT:= .row 72 1 B4 U
def ow6:OT:= .row 164 4 Cq W
def ow7:OT:= .row 213 4 Cb U
def ow8:OT:= .row 113 4 cJ W
def ow9:OT:= .row 5 1 tb U
def Fo:OT:= .row 317 5 C9 U
def Hy:OT:= .row 171 1 Dd U
def Ka:OT:= .row 216 5 cH U
def IB:OT:= .row 222 3 CI U
def H3:OT:= .row 253 4 CW U
def Rv:OT:= .row 72 1 B4 W
def G9:OT:= .row 131 3 B9 W
def FP:OT:= .row 76 12 C5 U
def G5:OT:= .row 110 9 B7 U
def Hr:OT:= .row 164 4 Cq U
def P0:OT:= .row 158 3 EE U
def Nr:OT:= .row 140 3 CN U
def Nm:OT:= .row 96 5 C8 U
def Re:OT:= .row 113 4 cJ U
def LR:OT:= .row 308 5 sT U
def cK1:OT:= .row 175 1 NG U
def cNb:OT:= .row 308 5 sT W
def Pj:OT:= .row 213 4 Cb W
def Pk:OT:= .row 177 4 fM U
def Pz:OT:= .row 175 1 NG W
def ob1:OT:= .box [.var (.sl CN),.var (.sl C8),.var (.sl B9),.var (.sl B9),.var ti,.var (.sl C9),.var (.sl CW),.var ti,.var (.sl ti),.row 0,.row 1,.row 2,.var ti]
def ob2:OT:= .box [.var (.sl CN),.var (.sl C8),.var (.sl B9),.var (.sl B9),.row 0,.var ti,.var (.sl CN),.var (.sl C8),.var (.sl B9),.var (.sl B9),.var ti,.var (.sl C9),.var (.sl CW),.var ti,.var (.sl ti),.var (.sl C5),.var (.sl B7),.var (.sl Cq),.var ti]
def ob3:OT:= .box [.var (.sl tb),.var ti,.var ti]
def ob4:OT:= .box [.var (.sl CN),.var (.sl C8),.row 0,.var (.sl B9),.var (.sl B9),.var ti,.var (.sl CN),.var (.sl C8),.var (.sl B9),.var (.sl B9),.var ti,.var (.sl C9),.var (.sl CW),.var ti,.var (.sl ti),.var (.sl C5),.var (.sl B7),.var (.sl Cq),.var ti]
def ob5:OT:= .box [.var (.sl CN),.var (.sl C8),.var (.sl B9),.var (.sl B9),.var ti,.var (.sl C9),.var (.sl CW),.var ti,.var (.sl ti),.row 300001,.row 300002,.row 300003,.var ti]
def ob6:OT:= .box [.row 300001]
def ob7:OT:= .box [.row 300001,.row 300002]
def ob8:OT:= .box [.var ti,.var ti,.var ti,.var (.sl Cb),.var ti,.var ti,.var ti,.var ti,.var ti,.var (.sl tb)]
def ob9:OT:= .box [.var ti,.row 300001]
def UJ:OT:= .box [.var ti,.var ti,.var ti,.row 300001]
def cKz:OT:= .box [.var ti,.var (.sl NG)]
def Z2:OT:= .box [.row 1208,.row 1209,.row 1272,.row 1273,.var ti,.row 1336,.row 1337,.var ti,.row 1400,.row 300001,.nil,.nil,.var ti]
def Zu:OT:= .box [.row 1208,.row 1209,.row 1272,.row 1273,.var ti,.row 1336,.row 1337,.var ti,.row 1400,.row 300001,.row 300002,.nil,.var ti]
def cHk:OT:= .box [.var ti,.var ti,.var ti,.var ti,.row 1144,.row 1145,.var ti,.var ti,.row 1146]
def cJy:OT:= .box [.var ti,.var ti,.var ti,.var ti,.var ti,.var (.sl Cb),.var ti,.var ti,.var ti,.var ti,.var ti,.var (.sl tb)]
def cIj:OT:= .box [.row 1160,.row 1208]
def cI7:OT:= .box [.var ti,.var ti,.var ti,.var ti,.var ti,.row 1560,.var ti,.var ti,.var ti,.var ti,.var ti,.row 1561]
def cIf:OT:= .box [.var ti,.var .bool,.var ti]
def cIn:OT:= .box [.row 1208,.row 1209,.row 1272,.row 1273,.var ti,.row 1336,.row 1337,.var ti,.row 1400,.row 300001,.row 300002,.row 300003,.var ti]
def cNa:OT:= .box [.var ti,.var ti,.var ti,.row 1192,.var ti,.var ti,.var ti,.var ti,.var ti,.row 1193]
def cNt:OT:= .box [.var ti,.var ti,.var ti,.row 1112]
def cM0:OT:= .box [.var ti,.var ti,.var ti,.var ti,.row 1112,.row 1113,.var ti,.var ti,.row 1114]
def cM8:OT:= .box [.var ti,.var ti,.var ti,.row 2584,.var ti,.var ti,.var ti,.var ti,.var ti,.row 2585]
def cN4:OT:= .box [.var ti,.var ti,.var ti,.row 3176,.var ti,.var ti,.var ti,.var ti,.var ti,.row 3177]
def cIt:OT:= .box [.var ti,.var ti,.var ti,.var ti,.var (.sl Dd),.var (.sl B4),.var ti,.var ti,.var (.sl CI)]
def cNx:OT:= .box [.var (.sl CN),.var (.sl C8),.var (.sl B9),.var (.sl B9),.var ti,.var (.sl C9),.var (.sl CW),.var ti,.var (.sl ti),.row 14,.row 1,.row 2,.var ti]
def cHl:OT:= .box [.var ti,.var ti,.var (.sl cH)]
def cJf:OT:= .box [.row 1432,.row 1433]
def cKx:OT:= .box [.row 1128,.row 1129,.row 1130,.row 1131,.var ti,.row 1132,.row 1133,.var ti,.row 1134,.row 1135,.row 1136,.row 1137,.var ti]
def cI8:OT:= .box [.var (.sl CN),.var (.sl C8),.var (.sl B9),.var (.sl B9),.row 300001,.var ti,.var (.sl CN),.var (.sl C8),.var (.sl B9),.var (.sl B9),.var ti,.var (.sl C9),.var (.sl CW),.var ti,.var (.sl ti),.var (.sl C5),.var (.sl B7),.var (.sl Cq),.var ti]
def cHc:OT:= .box [.var ti,.var ti,.var ti]
def cI0:OT:= .box [.var ti,.var ti,.var ti,.row 300001,.var ti,.var ti,.var ti,.var ti,.var ti,.row 300002]
def cKw:OT:= .box [.var ti,.var ti,.var ti,.nil]
def cNr:OT:= .box [.var ti,.var ti,.var ti,.row 1544]
def cNf:OT:= .box [.var ti,.var ti,.var ti,.var ti,.row 2312,.row 2313,.var ti,.var ti,.row 2314]
def cNn:OT:= .box [.var ti,.row 2152,.row 2153]
def cM1:OT:= .box [.var (.sl CN),.var (.sl C8),.var (.sl B9),.var (.sl B9),.var ti,.row 2152,.row 2153,.var ti,.var (.sl ti),.row 0,.row 1,.row 2,.var ti]
def cNo:OT:= .box [.var ti,.var ti,.var ti,.row 2904,.var ti,.var ti,.var ti,.var ti,.var ti,.row 2905]
def cKs:OT:= .box [.var ti,.row 300001,.var ti,.var ti,.var ti,.row 300002,.var ti,.var ti,.var ti,.var ti,.var ti,.row 300003]
def cHh:OT:= .box [.var (.sl CN),.var (.sl C8),.row 300001,.var (.sl B9),.var (.sl B9),.var ti,.var (.sl CN),.var (.sl C8),.var (.sl B9),.var (.sl B9),.var ti,.var (.sl C9),.var (.sl CW),.var ti,.var (.sl ti),.var (.sl C5),.var (.sl B7),.var (.sl Cq),.var ti]
def ag1:ST:= .agg [.var (.sl CN),.var (.sl C8)]
def ag2:ST:= .agg [.var ti,.var ti,.var (.sl cH)]
def ag3:ST:= .agg [.var ti,.var ti,.var ti,.var (.sl Cb),.var ti,.var ti,.var ti,.var ti,.var ti,.var (.sl tb)]
def ag4:ST:= .agg [.var (.sl Cb)]
def ag5:ST:= .agg [.var ti,.var ti,.var ti,.var (.sl cH)]
def ag6:ST:= .agg [.var (.sl CN),.var (.sl C8),.var (.sl B9),.var (.sl B9),.var ti,.var (.sl C9),.var (.sl CW),.var ti,.var (.sl ti),.var (.sl C5),.var (.sl B7),.var (.sl Cq),.var ti]
def ag7:ST:= .agg [.var ti,.var ti,.var ti,.var ti,.var (.sl Dd),.var (.sl B4),.var ti,.var ti,.var (.sl CI)]
def ag8:ST:= .agg [.var ti,.var ti,.var ti,.var ti]
def ag9:ST:= .agg [.var ti,.var ti,.var ti,.var ti,.var ti]
def cIm:ST:= .agg [.var (.sl B9),.var (.sl B9)]
def cM9:ST:= .agg [.var ti,.var ti,.var ti,.row 0,.var ti,.var ti,.var ti,.var ti,.var ti,.row 1]
def UL:ST:= .agg [.var ti,.var (.sl NG)]
def cN1:ST:= .agg [.var ti,.var (.sl C9),.var (.sl CW)]
def cMw:ST:= .agg [.var ti,.var ti,.var ti,.var ti,.row 0,.row 1,.var ti,.var ti,.row 2]
def cJl:ST:= .agg [.var ti,.var ti,.var ti]
def cKv:ST:= .agg [.var ti,.var ti,.var ti,.var (.sl Dd)]
def cMx:ST:= .agg [.var ti,.var ti,.var ti,.row 0]
def cM7:ST:= .agg [.row 0]
def cN5:ST:= .agg [.var ti,.var ti,.row 0]
def cNi:ST:= .agg [.var ti,.row 0,.row 1]
def cMz:ST:= .agg [.row 0,.row 1,.row 2,.row 3,.var ti,.row 4,.row 5,.var ti,.row 6,.row 7,.row 8,.row 9,.var ti]
def cNd:ST:= .agg [.row 0,.row 1]
def cM4:ST:= .agg [.var ti,.var ti,.var (.sl tb),.var ti,.var ti,.var ti,.var ti,.var ti,.var (.sl Cb),.var ti,.var ti,.var ti,.var ti,.var ti,.var (.sl tb)]
def TR:ST:= .agg [.var ti,.var ti,.var ti,.var ti,.var ti,.var (.sl Cb),.var ti,.var ti,.var ti,.var ti,.var ti,.var (.sl tb)]
def cM5:ST:= .agg [.var ti,.row 0]
def cIy:ST:= .agg [.var ti,.var ti,.var ti,.var ti,.var ti,.row 0,.var ti,.var ti,.var ti,.var ti,.var ti,.row 1]
def cKg:ST:= .agg [.var (.sl CN),.var (.sl C8),.var (.sl B9),.var (.sl B9),.var ti,.var (.sl C9),.var (.sl CW),.var ti,.var (.sl ti),.row 0,.row 1,.row 2,.var ti]
def cNy:ST:= .agg [.var ti,.var ti,.var ti,.row 3,.var ti,.var ti,.var ti,.var ti,.var ti,.row 4]
def vr1:ST:= .one (.var ti)
def vr2:ST:= .one (.var .bool)
def vr3:ST:= .one (.row 300001)
def vr4:ST:= .one (.var .str)
def vr5:ST:= .one (.row 0)
def vr6:ST:= .one (.ptr 1000000 0)
def vr7:ST:= .one (.var (.sl ti))
def vr8:ST:= .one (.var (.sl tb))
def vr9:ST:= .one (.row 6)
def Rm:ST:= .one (.row 7)
def Z0:ST:= .one (.var (.sl B4))
def cHn:ST:= .one (.row 10)
def cNm:ST:= .one (.row 1624)
def cN0:ST:= .one (.var (.sl C9))
def Pf:ST:= .one (.var (.sl fM))
def Nw:ST:= .one (.row 15)
def Zq:ST:= .one (.var (.sl cH))
def cHu:ST:= .one (.var (.sl CI))
def cNl:ST:= .one (.ptr 13 0)
def cNv:ST:= .one (.ptr 7 0)
def cM2:ST:= .one (.ptr 11 0)
def Uy:ST:= .one (.var (.sl .str))
def cNj:ST:= .one (.row 1001100)
def N6:ST:= .one (.row 17)
def cNp:ST:= .one (.row 5)
def Uf:ST:= .one (.var (.sl cJ))
def Zn:ST:= .one (.ptr 8 0)
def Rh:ST:= .one (.row 8)
def Ro:ST:= .one (.row 18)
def Rs:ST:= .one (.row 9)
def Rp:ST:= .one (.row 14)
def Ud:ST:= .one (.var (.sl Dd))
def Zv:ST:= .one (.var (.sl B9))
def Zi:ST:= .one (.var (.sl sT))
def TT:ST:= .one (.ptr 5 0)
def Uw:ST:= .one (.ptr 6 0)
def cG6:ST:= .one (.var (.sl Cq))
def Zj:ST:= .one (.row 300002)
def Z4:ST:= .one (.ptr 3 0)
def e1:Nat×ST:=(1,vr1)
def e2:Nat×ST:=(0,vr1)
def e3:Nat×ST:=(0,vr2)
def e4:Nat×ST:=(0,ag1)
def e5:Nat×ST:=(2,vr1)
def e6:Nat×ST:=(3,vr1)
def e7:Nat×ST:=(0,vr5)
def e8:Nat×ST:=(4,vr1)
def e9:Nat×ST:=(0,vr4)
def e10:Nat×ST:=(5,vr1)
def e11:Nat×ST:=(0,vr6)
def e12:Nat×ST:=(3,vr3)
def e13:Nat×ST:=(4,vr2)
def e14:Nat×ST:=(2,vr2)
def e15:Nat×ST:=(0,ag2)
def e16:Nat×ST:=(11,vr3)
def e17:Nat×ST:=(6,vr1)
def e18:Nat×ST:=(8,vr1)
def e19:Nat×ST:=(1,vr2)
def e20:Nat×ST:=(0,ag6)
def e21:Nat×ST:=(9,vr1)
def e22:Nat×ST:=(0,ag4)
def e23:Nat×ST:=(1,ag2)
def e24:Nat×ST:=(0,vr8)
def e25:Nat×ST:=(10,vr1)
def e26:Nat×ST:=(1,ag4)
def e27:Nat×ST:=(5,vr3)
def e28:Nat×ST:=(0,ag7)
def e29:Nat×ST:=(0,ag3)
def e30:Nat×ST:=(7,vr1)
def e31:Nat×ST:=(0,ag5)
def e32:Nat×ST:=(0,cM9)
def e33:Nat×ST:=(5,vr4)
def e34:Nat×ST:=(3,vr9)
def e35:Nat×ST:=(5,Rm)
def e36:Nat×ST:=(0,cN1)
def e37:Nat×ST:=(0,Z0)
def e38:Nat×ST:=(0,cMw)
def e39:Nat×ST:=(1,ag3)
def e40:Nat×ST:=(12,vr2)
def e41:Nat×ST:=(9,cNm)
def e42:Nat×ST:=(0,ag9)
def e43:Nat×ST:=(0,cN0)
def e44:Nat×ST:=(0,cIm)
def e45:Nat×ST:=(0,cMx)
def e46:Nat×ST:=(1,ag5)
def e47:Nat×ST:=(1,ag8)
def e48:Nat×ST:=(6,vr2)
def e49:Nat×ST:=(13,vr1)
def e50:Nat×ST:=(12,vr1)
def e51:Nat×ST:=(1,vr7)
def e52:Nat×ST:=(0,cM7)
def e53:Nat×ST:=(2,ag2)
def e54:Nat×ST:=(3,vr4)
def e55:Nat×ST:=(7,vr3)
def e56:Nat×ST:=(0,cKv)
def e57:Nat×ST:=(0,cN5)
def e58:Nat×ST:=(0,vr7)
def e59:Nat×ST:=(0,cHu)
def e60:Nat×ST:=(0,ag8)
def e61:Nat×ST:=(34,vr2)
def e62:Nat×ST:=(1,vr4)
def e63:Nat×ST:=(0,cNi)
def e64:Nat×ST:=(0,cMz)
def e65:Nat×ST:=(11,vr1)
def e66:Nat×ST:=(9,vr3)
def e67:Nat×ST:=(13,cNl)
def e68:Nat×ST:=(7,cNv)
def e69:Nat×ST:=(3,cHn)
def e70:Nat×ST:=(0,Zq)
def e71:Nat×ST:=(3,ag3)
def e72:Nat×ST:=(1,cIm)
def e73:Nat×ST:=(0,UL)
def e74:Nat×ST:=(37,vr2)
def e75:Nat×ST:=(5,vr7)
def e76:Nat×ST:=(11,cM2)
def e77:Nat×ST:=(0,cNd)
def e78:Nat×ST:=(1,cM4)
def e79:Nat×ST:=(1,cNj)
def e80:Nat×ST:=(28,vr2)
def e81:Nat×ST:=(14,vr1)
def e82:Nat×ST:=(16,vr2)
def e83:Nat×ST:=(23,vr2)
def e84:Nat×ST:=(0,cJl)
def e85:Nat×ST:=(1,cJl)
def e86:Nat×ST:=(0,Pf)
def e87:Nat×ST:=(15,vr1)
def e88:Nat×ST:=(21,vr2)
def e89:Nat×ST:=(31,vr2)
def e90:Nat×ST:=(29,vr2)
def e91:Nat×ST:=(3,cNp)
def e92:Nat×ST:=(7,Nw)
def e93:Nat×ST:=(7,cHn)
def e94:Nat×ST:=(7,.one (.row 11))
def e95:Nat×ST:=(7,.one (.row 29))
def o1:Nat×OT:=(1,ow2)
def o2:Nat×OT:=(0,ow3)
def o3:Nat×OT:=(2,ow6)
def o4:Nat×OT:=(1000000,ob1)
def o5:Nat×OT:=(0,ow8)
def o6:Nat×OT:=(1000000,ob2)
def o7:Nat×OT:=(300001,ow1)
def o8:Nat×OT:=(0,ow7)
def o9:Nat×OT:=(300001,Rv)
def o10:Nat×OT:=(0,Hy)
def o11:Nat×OT:=(0,ow1)
def o12:Nat×OT:=(1000000,ob3)
def o13:Nat×OT:=(1,ow9)
def o14:Nat×OT:=(1000000,ob4)
def o15:Nat×OT:=(300002,ow2)
def o16:Nat×OT:=(0,Ka)
def o17:Nat×OT:=(300001,ow3)
def o18:Nat×OT:=(300003,ow6)
def o19:Nat×OT:=(1,ow5)
def o20:Nat×OT:=(1001100,ow8)
def o21:Nat×OT:=(0,Fo)
def o22:Nat×OT:=(2,IB)
def o23:Nat×OT:=(6,ow1)
def o24:Nat×OT:=(300001,ow4)
def o25:Nat×OT:=(300001,ow7)
def o26:Nat×OT:=(1000000,ob5)
def o27:Nat×OT:=(1624,ow5)
def o28:Nat×OT:=(0,Nr)
def o29:Nat×OT:=(1,Nm)
def o30:Nat×OT:=(300001,ow5)
def o31:Nat×OT:=(7,ob7)
def o32:Nat×OT:=(3,ob6)
def o33:Nat×OT:=(15,ow5)
def o34:Nat×OT:=(0,ow4)
def o35:Nat×OT:=(1,H3)
def o36:Nat×OT:=(2,ow4)
def o37:Nat×OT:=(3,ow4)
def o38:Nat×OT:=(4,Fo)
def o39:Nat×OT:=(5,H3)
def o40:Nat×OT:=(7,FP)
def o41:Nat×OT:=(9,Hr)
def o42:Nat×OT:=(300001,P0)
def o43:Nat×OT:=(300001,Ka)
def o44:Nat×OT:=(300001,cNb)
def o45:Nat×OT:=(8,G5)
def o46:Nat×OT:=(0,ow5)
def o47:Nat×OT:=(300001,cK1)
def o48:Nat×OT:=(300001,G9)
def o49:Nat×OT:=(300002,G9)
def o50:Nat×OT:=(1001100,Re)
def o51:Nat×OT:=(7,Fo)
def o52:Nat×OT:=(10,P0)
def o53:Nat×OT:=(10,ow5)
def o54:Nat×OT:=(18,LR)
def o55:Nat×OT:=(300002,ow4)
def o56:Nat×OT:=(300001,IB)
def o57:Nat×OT:=(300002,ow5)
def o58:Nat×OT:=(1208,ow4)
def o59:Nat×OT:=(300001,Re)
def k0:Nat×ST:=(0,.keep)
def k1:Nat×ST:=(1,.keep)
def k2:Nat×ST:=(2,.keep)
def k3:Nat×ST:=(3,.keep)
def k4:Nat×ST:=(4,.keep)
def k5:Nat×ST:=(5,.keep)
def k6:Nat×ST:=(6,.keep)
def k7:Nat×ST:=(7,.keep)
def k8:Nat×ST:=(8,.keep)
def k9:Nat×ST:=(9,.keep)
def k10:Nat×ST:=(10,.keep)
def k11:Nat×ST:=(11,.keep)
def k12:Nat×ST:=(12,.keep)
def k13:Nat×ST:=(13,.keep)
def k14:Nat×ST:=(14,.keep)
def k15:Nat×ST:=(15,.keep)
def k16:Nat×ST:=(16,.keep)
def k17:Nat×ST:=(17,.keep)
def k18:Nat×ST:=(18,.keep)
def k19:Nat×ST:=(19,.keep)
def k20:Nat×ST:=(20,.keep)
def k21:Nat×ST:=(21,.keep)
def k22:Nat×ST:=(22,.keep)
def k23:Nat×ST:=(23,.keep)
def k24:Nat×ST:=(24,.keep)
def k25:Nat×ST:=(25,.keep)
def k26:Nat×ST:=(26,.keep)
def k28:Nat×ST:=(28,.keep)
def k30:Nat×ST:=(30,.keep)
def k31:Nat×ST:=(31,.keep)
def k32:Nat×ST:=(32,.keep)
def k33:Nat×ST:=(33,.keep)
def k34:Nat×ST:=(34,.keep)
def k35:Nat×ST:=(35,.keep)
def k36:Nat×ST:=(36,.keep)
def k37:Nat×ST:=(37,.keep)
def k38:Nat×ST:=(38,.keep)
def k39:Nat×ST:=(39,.keep)
def k49:Nat×ST:=(49,.keep)
def k50:Nat×ST:=(50,.keep)
def k51:Nat×ST:=(51,.keep)
def k52:Nat×ST:=(52,.keep)
def k53:Nat×ST:=(53,.keep)
def k54:Nat×ST:=(54,.keep)
def k56:Nat×ST:=(56,.keep)
def k57:Nat×ST:=(57,.keep)
def k58:Nat×ST:=(58,.keep)
def k59:Nat×ST:=(59,.keep)
def k60:Nat×ST:=(60,.keep)
def k61:Nat×ST:=(61,.keep)
def k64:Nat×ST:=(64,.keep)
def k65:Nat×ST:=(65,.keep)
def k66:Nat×ST:=(66,.keep)
def k67:Nat×ST:=(67,.keep)
def k72:Nat×ST:=(72,.keep)
def k73:Nat×ST:=(73,.keep)
def k74:Nat×ST:=(74,.keep)
def k87:Nat×ST:=(87,.keep)
def k88:Nat×ST:=(88,.keep)
def UC:Nat×ST:=(100,.keep)
def Kb:Nat×ST:=(101,.keep)
def LV:Nat×ST:=(102,.keep)
def Uj:Nat×ST:=(103,.keep)
def cK0:Nat×ST:=(106,.keep)
def cKf:Nat×ST:=(107,.keep)
def cM3:Nat×ST:=(108,.keep)
def cNc:Nat×ST:=(128,.keep)
def cNs:Nat×ST:=(129,.keep)
def Zp:Nat×ST:=(147,.keep)
def Zd:Nat×ST:=(148,.keep)
def Zg:Nat×ST:=(149,.keep)
def cHo:Nat×ST:=(150,.keep)
def cNz:Nat×ST:=(151,.keep)
def Zr:Nat×ST:=(163,.keep)
def YX:Nat×ST:=(164,.keep)
def cG8:Nat×ST:=(165,.keep)
def cNe:Nat×ST:=(169,.keep)
def cMv:Nat×ST:=(170,.keep)
def j0:Nat×OT:=(0,.keep)
def j1:Nat×OT:=(1,.keep)
def j2:Nat×OT:=(2,.keep)
def j3:Nat×OT:=(3,.keep)
def j4:Nat×OT:=(4,.keep)
def j5:Nat×OT:=(5,.keep)
def j6:Nat×OT:=(6,.keep)
def j7:Nat×OT:=(7,.keep)
def j8:Nat×OT:=(8,.keep)
def j9:Nat×OT:=(9,.keep)
def j10:Nat×OT:=(10,.keep)
def j11:Nat×OT:=(11,.keep)
def j12:Nat×OT:=(12,.keep)
def j13:Nat×OT:=(13,.keep)
def j14:Nat×OT:=(14,.keep)
def j15:Nat×OT:=(15,.keep)
def j16:Nat×OT:=(16,.keep)
def j17:Nat×OT:=(17,.keep)
def j18:Nat×OT:=(18,.keep)
def j19:Nat×OT:=(19,.keep)
def j26:Nat×OT:=(26,.keep)
def j28:Nat×OT:=(28,.keep)
def j29:Nat×OT:=(29,.keep)
def j30:Nat×OT:=(30,.keep)
def j42:Nat×OT:=(42,.keep)
def j59:Nat×OT:=(59,.keep)
def TQ:Nat×OT:=(1080,.keep)
def TI:Nat×OT:=(1081,.keep)
def cLv:Nat×OT:=(1082,.keep)
def MU:Nat×OT:=(1112,.keep)
def Y7:Nat×OT:=(1113,.keep)
def Yf:Nat×OT:=(1114,.keep)
def Im:Nat×OT:=(1128,.keep)
def QR:Nat×OT:=(1129,.keep)
def QL:Nat×OT:=(1130,.keep)
def QN:Nat×OT:=(1131,.keep)
def QE:Nat×OT:=(1132,.keep)
def QJ:Nat×OT:=(1133,.keep)
def QT:Nat×OT:=(1134,.keep)
def QS:Nat×OT:=(1135,.keep)
def Yl:Nat×OT:=(1136,.keep)
def Q9:Nat×OT:=(1137,.keep)
def Q8:Nat×OT:=(1144,.keep)
def cD9:Nat×OT:=(1145,.keep)
def cB4:Nat×OT:=(1146,.keep)
def L5:Nat×OT:=(1160,.keep)
def OS:Nat×OT:=(1176,.keep)
def YN:Nat×OT:=(1177,.keep)
def YF:Nat×OT:=(1178,.keep)
def Iq:Nat×OT:=(1192,.keep)
def cB3:Nat×OT:=(1193,.keep)
def Ej:Nat×OT:=(1208,.keep)
def LJ:Nat×OT:=(1209,.keep)
def cLo:Nat×OT:=(1224,.keep)
def cMs:Nat×OT:=(1240,.keep)
def Hc:Nat×OT:=(1272,.keep)
def Iu:Nat×OT:=(1273,.keep)
def Yr:Nat×OT:=(1288,.keep)
def OQ:Nat×OT:=(1304,.keep)
def LH:Nat×OT:=(1336,.keep)
def Lz:Nat×OT:=(1337,.keep)
def cL7:Nat×OT:=(1352,.keep)
def cLm:Nat×OT:=(1368,.keep)
def YA:Nat×OT:=(1384,.keep)
def JF:Nat×OT:=(1400,.keep)
def cMj:Nat×OT:=(1401,.keep)
def cA2:Nat×OT:=(1416,.keep)
def YM:Nat×OT:=(1432,.keep)
def Y1:Nat×OT:=(1433,.keep)
def Yy:Nat×OT:=(1448,.keep)
def cMh:Nat×OT:=(1480,.keep)
def cMp:Nat×OT:=(1528,.keep)
def cMt:Nat×OT:=(1529,.keep)
def cLq:Nat×OT:=(1530,.keep)
def cDh:Nat×OT:=(1560,.keep)
def cC6:Nat×OT:=(1561,.keep)
def cBu:Nat×OT:=(1576,.keep)
def cL2:Nat×OT:=(1592,.keep)
def cLl:Nat×OT:=(1593,.keep)
def cLt:Nat×OT:=(1608,.keep)
def cLk:Nat×OT:=(1609,.keep)
def T8:Nat×OT:=(1624,.keep)
def EG:Nat×OT:=(1672,.keep)
def DS:Nat×OT:=(1720,.keep)
def cBz:Nat×OT:=(1736,.keep)
def cMb:Nat×OT:=(1755,.keep)
def cMg:Nat×OT:=(1756,.keep)
def El:Nat×OT:=(1768,.keep)
def cMn:Nat×OT:=(1787,.keep)
def cMr:Nat×OT:=(1788,.keep)
def Ed:Nat×OT:=(1816,.keep)
def Yk:Nat×OT:=(1896,.keep)
def cA1:Nat×OT:=(2152,.keep)
def cCn:Nat×OT:=(2153,.keep)
def fR:Nat×OT:=(300001,.keep)
def Jy:Nat×OT:=(300002,.keep)
def Qi:Nat×OT:=(300003,.keep)
def aR:Nat×OT:=(1000000,.keep)
def qM:Nat×OT:=(1001100,.keep)
def sh1:Sh:=⟨[e3],[]⟩
def sh2:Sh:=⟨[e2],[]⟩
def sh3:Sh:=⟨[],[]⟩
def sh4:Sh:=⟨[e13],[]⟩
def sh5:Sh:=⟨[e9],[]⟩
def sh6:Sh:=⟨[e2,e1],[]⟩
def sh7:Sh:=⟨[e14],[]⟩
def sh8:Sh:=⟨[e22],[]⟩
def sh9:Sh:=⟨[e7],[o11]⟩
def E5:Sh:=⟨[e20],[]⟩
def ER:Sh:=⟨[e29],[]⟩
def EP:Sh:=⟨[],[o2,o1,o3,o4]⟩
def FO:Sh:=⟨[e15],[]⟩
def FR:Sh:=⟨[k1],[j1]⟩
def GC:Sh:=⟨[e24],[]⟩
def Hv:Sh:=⟨[e4,e1],[]⟩
def Hu:Sh:=⟨[e9],[o5,o6]⟩
def Iz:Sh:=⟨[e28],[]⟩
def IA:Sh:=⟨[e32],[o8,o13]⟩
def IC:Sh:=⟨[e37],[]⟩
def I5:Sh:=⟨[k1,e6],[j1]⟩
def Kc:Sh:=⟨[e38],[o10,o19,o22]⟩
def JQ:Sh:=⟨[e48],[]⟩
def LU:Sh:=⟨[e52],[o8]⟩
def LY:Sh:=⟨[e4,e1,e5],[]⟩
def LM:Sh:=⟨[e4,e26],[]⟩
def Mb:Sh:=⟨[e4,e23],[]⟩
def Mg:Sh:=⟨[e9],[o5,o14]⟩
def Nj:Sh:=⟨[e63],[o21,o35]⟩
def N4:Sh:=⟨[e58],[]⟩
def Nk:Sh:=⟨[e7],[o46]⟩
def Ns:Sh:=⟨[e31,e1],[]⟩
def Nl:Sh:=⟨[k2,k3,e10],[j2,j3]⟩
def P2:Sh:=⟨[e4],[]⟩
def Pn:Sh:=⟨[e42],[]⟩
def Ps:Sh:=⟨[e70],[]⟩
def Pg:Sh:=⟨[e7],[o34]⟩
def P4:Sh:=⟨[e45],[o10]⟩
def Pu:Sh:=⟨[e64],[o28,o29,o36,o37,o38,o39,o23,o40,o45,o41]⟩
def Pd:Sh:=⟨[e32,e19],[o8,o13]⟩
def P3:Sh:=⟨[e11,e1,e5,e71],[o4,o2,o1,o3]⟩
def Pq:Sh:=⟨[e56,e39],[]⟩
def P5:Sh:=⟨[e45],[o16]⟩
def Pe:Sh:=⟨[e3],[o2,o1,o3,o4]⟩
def Ph:Sh:=⟨[e15,e1],[]⟩
def Px:Sh:=⟨[e31,e46],[]⟩
def Pl:Sh:=⟨[e60],[]⟩
def Pv:Sh:=⟨[e57,e19],[o16]⟩
def Po:Sh:=⟨[k0,k1,e40],[]⟩
def P1:Sh:=⟨[e6],[]⟩
def Rj:Sh:=⟨[e7],[(0,ow9)]⟩
def Rq:Sh:=⟨[e31],[]⟩
def Rg:Sh:=⟨[e24,e1],[]⟩
def Ru:Sh:=⟨[e15,e23],[]⟩
def Rd:Sh:=⟨[(8,vr2)],[]⟩
def U6:Sh:=⟨[e9],[o12]⟩
def Ui:Sh:=⟨[e2,e1,e5],[]⟩
def Uo:Sh:=⟨[e84],[]⟩
def UM:Sh:=⟨[e36,e1,e5,e6],[]⟩
def U9:Sh:=⟨[e43,e1,e5,e6,e8],[]⟩
def Ul:Sh:=⟨[e36,e1],[]⟩
def Uc:Sh:=⟨[e56],[]⟩
def TS:Sh:=⟨[e57],[o16]⟩
def UF:Sh:=⟨[e7],[o21]⟩
def U8:Sh:=⟨[e7],[(0,IB)]⟩
def UE:Sh:=⟨[e4,e46],[]⟩
def Up:Sh:=⟨[e2,e51],[]⟩
def Ub:Sh:=⟨[e2,e1,e5,(3,ag9)],[]⟩
def TU:Sh:=⟨[e11,e1,(2,ag3)],[o4,o2,o1,o3]⟩
def Ut:Sh:=⟨[e11],[o4,o2,o1,o3]⟩
def Ur:Sh:=⟨[e11,e1],[o4,o2,o1,o3]⟩
def TX:Sh:=⟨[e4,e72,e5,e6],[]⟩
def Uv:Sh:=⟨[e22,e26],[]⟩
def UH:Sh:=⟨[(0,cM5)],[(0,cK1)]⟩
def U4:Sh:=⟨[e4,e47,e53,e6,e8,e10],[]⟩
def U0:Sh:=⟨[e4,e47,e53,e6,e8],[]⟩
def Ux:Sh:=⟨[e86],[]⟩
def TZ:Sh:=⟨[e73],[]⟩
def TW:Sh:=⟨[e73],[o20]⟩
def Us:Sh:=⟨[e20,(1,ag7)],[]⟩
def Ue:Sh:=⟨[k2,k3],[j2,o32,o25]⟩
def Ua:Sh:=⟨[k0,k1,e10],[]⟩
def Uz:Sh:=⟨[e12],[o7]⟩
def UI:Sh:=⟨[e10],[]⟩
def UG:Sh:=⟨[k0],[o17,o15,o18,o26]⟩
def Zw:Sh:=⟨[e11],[o12]⟩
def Zb:Sh:=⟨[e2],[o12]⟩
def Zy:Sh:=⟨[e11,e1],[o12]⟩
def YT:Sh:=⟨[e7],[(0,.row 9 1 .str U)]⟩
def Zz:Sh:=⟨[e42,e1,e5],[]⟩
def Ze:Sh:=⟨[e36,e1,e5,e6,e8],[]⟩
def YZ:Sh:=⟨[e7],[o16]⟩
def YR:Sh:=⟨[e44],[]⟩
def Zx:Sh:=⟨[e77],[o34,(1,ow4)]⟩
def Z3:Sh:=⟨[e58,e1],[]⟩
def Zl:Sh:=⟨[e29,e1],[]⟩
def Z7:Sh:=⟨[e4,e1,e5,e6,e8,(5,ag3)],[]⟩
def YU:Sh:=⟨[e52],[(0,Pj)]⟩
def YW:Sh:=⟨[e44,e1,e5],[]⟩
def Yc:Sh:=⟨[e11,e78],[o4,o2,o1,o3]⟩
def YJ:Sh:=⟨[(0,Uy)],[]⟩
def YD:Sh:=⟨[e4,e79,(2,UL)],[o20]⟩
def Yi:Sh:=⟨[e20,e1],[]⟩
def YC:Sh:=⟨[k0,k3,k4,e10],[fR]⟩
def Y9:Sh:=⟨[e12,k6,k7,e18],[o7]⟩
def Yt:Sh:=⟨[k1,k2,k3,e8],[j1,j2,o32,o25]⟩
def Yq:Sh:=⟨[e16],[o9]⟩
def YO:Sh:=⟨[k1,k2,e10],[j2]⟩
def Y2:Sh:=⟨[k3,k7,k8,e21],[j3]⟩
def Ym:Sh:=⟨[k2,k3,(22,vr2)],[j2,j3]⟩
def Y4:Sh:=⟨[e33],[]⟩
def YL:Sh:=⟨[k0,k3,e10],[j3]⟩
def cDf:Sh:=⟨[e9,(1,.one (.var tb))],[]⟩
def cA4:Sh:=⟨[e43,e1,e5,e6],[]⟩
def cAr:Sh:=⟨[e24,(1,vr8)],[]⟩
def cDs:Sh:=⟨[e28,(1,cKv)],[]⟩
def cA7:Sh:=⟨[e2,e26,e5,e6,(4,vr8)],[]⟩
def cDy:Sh:=⟨[e38,(1,cNy),e14],[o10,o19,o22,(3,ow7),(4,ow9)]⟩
def cCf:Sh:=⟨[e4,e1,e5,(3,ag9)],[]⟩
def cB8:Sh:=⟨[e4,e1,(2,ag3)],[]⟩
def cBr:Sh:=⟨[e63,e19],[o21,o35]⟩
def cAq:Sh:=⟨[(0,cG6),e1,e5],[]⟩
def cDe:Sh:=⟨[e29,e1,e5,(3,vr8)],[]⟩
def cDq:Sh:=⟨[e7,e1,e14],[o11]⟩
def cBo:Sh:=⟨[e4,e1,e5,e6,(4,ag3)],[]⟩
def cCm:Sh:=⟨[(0,TR)],[o2,o1,o3,o4]⟩
def cDx:Sh:=⟨[e28,(1,vr8)],[]⟩
def cDi:Sh:=⟨[e38,e19],[o10,o19,o22]⟩
def cCr:Sh:=⟨[e15,e23,e14,(3,ag2)],[]⟩
def cEf:Sh:=⟨[e44,e23,e5,e6,(4,ag2)],[]⟩
def cDz:Sh:=⟨[e70,(1,Zq)],[]⟩
def cCx:Sh:=⟨[e4,e72,e5,e6,e8],[]⟩
def cBg:Sh:=⟨[e59,(1,Z0),e5],[]⟩
def cDr:Sh:=⟨[e28,(1,Z0),e5],[]⟩
def cDo:Sh:=⟨[e64,e19],[o28,o29,o36,o37,o38,o39,o23,o40,o45,o41]⟩
def cA6:Sh:=⟨[(0,Uf),e1],[]⟩
def cC0:Sh:=⟨[e4,e47,e5,e6,e8,e10],[]⟩
def cD2:Sh:=⟨[e4,e23,e5,e6],[]⟩
def cB5:Sh:=⟨[e4,e1,(2,Pf),(3,ag5)],[]⟩
def cDv:Sh:=⟨[e4,(1,UL),(2,Zi)],[]⟩
def cBn:Sh:=⟨[(0,Zv),e23],[]⟩
def cDg:Sh:=⟨[e4,e79,e5],[o20]⟩
def cAo:Sh:=⟨[e11,e1],[o6,o5]⟩
def cC7:Sh:=⟨[e4,e1,(2,vr7),e71],[]⟩
def cB1:Sh:=⟨[e4,e1,(2,vr7),(3,ag4)],[]⟩
def cDd:Sh:=⟨[(0,cIy)],[o8,o13]⟩
def cBs:Sh:=⟨[(0,cKg)],[o2,o1,o3]⟩
def cBk:Sh:=⟨[e11,e62],[o14,o5]⟩
def cDt:Sh:=⟨[e27],[(300001,.row 9 1 .str U)]⟩
def cEb:Sh:=⟨[k2,k3,e74],[j2,j3]⟩
def cEc:Sh:=⟨[k0,k1,k12,e49],[]⟩
def cAv:Sh:=⟨[k1,(54,vr2)],[j1]⟩
def cA8:Sh:=⟨[k2],[(2,.box [.row 3,.row 7]),(3,Nr),(7,Nm)]⟩
def cD7:Sh:=⟨[k1,k2,e88],[j1,j2]⟩
def cBw:Sh:=⟨[k2,k3,e13],[(2,cHk),(3,cNa),Q8,cD9,cB4,Iq,cB3]⟩
def cAk:Sh:=⟨[k9,(30,vr2)],[j9]⟩
def cCa:Sh:=⟨[k2,k3,e89],[j2,j3]⟩
def cD3:Sh:=⟨[e6,k6,k7,e18],[]⟩
def cA3:Sh:=⟨[k4,k5],[j4,(5,cNt),(1112,Hy)]⟩
def cBc:Sh:=⟨[k3,k4,e82],[j3,j4]⟩
def cCq:Sh:=⟨[k4,k5],[j4,(5,cM0),MU,Y7,Yf]⟩
def cCj:Sh:=⟨[k2,k4,e88],[j2,L5]⟩
def cBm:Sh:=⟨[k3,k6,k7,k8,(24,vr2)],[j3,j6,j7,j8,OS,YN,YF]⟩
def cB2:Sh:=⟨[k3,k6,k7,k8,(42,vr2)],[j3,j6,j7,j8,OS,YN,YF]⟩
def cCd:Sh:=⟨[e1,(5,.one (.row 1112))],[(1112,ow9)]⟩
def cCz:Sh:=⟨[k0,k1,k7,(8,Zn),e21],[j0,j1,j2,j7,(8,cJy),aR]⟩
def cDn:Sh:=⟨[k0,k1,k7,k8,k9,(54,vr2)],[j0,j1,j2,j7,j8,aR]⟩
def cCl:Sh:=⟨[k0,k1,e76,e40],[j0,j1,j2,(11,cM8),(2584,ow7),(2585,ow9),aR]⟩
def cBt:Sh:=⟨[k0,k1,k7,k9,(116,vr2)],[j0,j1,j2,j7,aR]⟩
def cAp:Sh:=⟨[k0,k1,k7,e67],[j0,j1,j2,j7,(13,cN4),(3176,ow7),(3177,ow9),aR]⟩
def cBq:Sh:=⟨[],[o17,o15,o18,o26]⟩
def cDm:Sh:=⟨[k4,k5],[j1,j2,j4,j5,(14,ow3),(1000000,cNx)]⟩
def cB6:Sh:=⟨[k6,k7],[j6,(7,UJ),o43]⟩
def cBd:Sh:=⟨[k2,k3,k4,k5,k9,k10,e16],[j4,j5,El,Ed,o30]⟩
def cCy:Sh:=⟨[k2,k4,(18,vr2)],[j4]⟩
def cD8:Sh:=⟨[k3,k5,e17,k7,k8,k9],[j5,fR]⟩
def cCp:Sh:=⟨[k0,k3],[(0,Re),j3,o6]⟩
def cBl:Sh:=⟨[k4,k5],[j4,(5,ob9),o47]⟩
def cCc:Sh:=⟨[k0,k1,k4,(18,vr2)],[j4]⟩
def cC1:Sh:=⟨[k2,k3,k4,k5,e89],[j4,j5]⟩
def cB9:Sh:=⟨[k3,k4,k5,k6,k7,k8,k12,e74],[j6,j7,j8,j12]⟩
def cDu:Sh:=⟨[k3,k4,k5,k6,k7,k8,k12,e81],[j6,j7,j8,j12]⟩
def cCu:Sh:=⟨[k2,k3],[j2,(3,ob9),o47]⟩
def cC3:Sh:=⟨[k7,k9,e25],[j7,Iq]⟩
def cAh:Sh:=⟨[k3,k4,k5,k6,k7,k10,e83],[j5,j6,j7,j10]⟩
def cAw:Sh:=⟨[k3,k4,k5,k6,e68],[j3,j4,j5,j6,(7,cIj),(1160,ow4),o58]⟩
def cDb:Sh:=⟨[e66],[o44,qM]⟩
def cDw:Sh:=⟨[k6,k7],[j6,(7,cKz),o50]⟩
def cEa:Sh:=⟨[k1,k3,k6,k7,e18],[j3,j6,(7,cKz),o50]⟩
def cBi:Sh:=⟨[k2,k3,k4,k5,k8,e82],[j4,j5,j8]⟩
def cBx:Sh:=⟨[k2,k3,k4,k6,(48,vr2)],[j2,j3,j4,j6,Im,QR,QL,QN,QE,QJ,QT,QS,Yl,Q9]⟩
def cBh:Sh:=⟨[k0,k1,e8],[o17,o15,o18,o26]⟩
def cBp:Sh:=⟨[k4,k5],[j4,(5,ob5),o17,o15,o18]⟩
def cDa:Sh:=⟨[k1,k4,k5,e17],[j4,(5,ob5),o17,o15,o18]⟩
def cC9:Sh:=⟨[k2,k5,(6,vr4)],[j2,j5]⟩
def cBv:Sh:=⟨[k0,(3,Uy)],[]⟩
def cC8:Sh:=⟨[k1,e91,e8],[j1,(5,ow1)]⟩
def cEe:Sh:=⟨[k2,k3,e75,e17],[j2,j3]⟩
def cDp:Sh:=⟨[k2,k3,k5,k6],[j2,j3]⟩
def cCe:Sh:=⟨[k7,k9,e25],[j7,Ej]⟩
def cAx:Sh:=⟨[k0,k1,k2,e30],[]⟩
def cCi:Sh:=⟨[k0,k1,e10],[j0]⟩
def cAi:Sh:=⟨[k1,k2,e27,k6],[j2,o7]⟩
def cAy:Sh:=⟨[e34,k4,k5],[o23,Im]⟩
def cCs:Sh:=⟨[k0,k1,k5,k6,e68],[j0,j1,j2,j5,(7,cNr),(1544,Hy),aR]⟩
def cAm:Sh:=⟨[k0,k1,k5,e25],[j0,o1,j2,j5,aR]⟩
def cAg:Sh:=⟨[k0,k1,k5,k10],[j0,o1,j2,j5,aR]⟩
def cEg:Sh:=⟨[k0,k1,k5,k10,e76],[j0,j1,j2,j5,(11,cNf),(2312,Hy),(2313,ow5),(2314,IB),aR]⟩
def cD6:Sh:=⟨[e1,(5,vr9)],[(6,ow9)]⟩
def cC4:Sh:=⟨[k0,k1,k7,(8,Zn)],[j0,j1,j2,j7,(8,cI7),(1560,ow7),(1561,ow9),aR]⟩
def cBa:Sh:=⟨[k0,k8,k9,k10,e76,e40],[j0,j1,j2,j8,(11,cNn),cDh,cC6,(2152,Fo),(2153,H3),aR]⟩
def cCt:Sh:=⟨[k0,k8,k9,k10,k11,(83,vr2)],[j0,j1,j2,j8,j11,cDh,cC6,cA1,cCn,aR]⟩
def cEd:Sh:=⟨[],[o2,j1,j2,cA1,cCn,(1000000,cM1)]⟩
def cBe:Sh:=⟨[k0,k1,k7,e67],[j0,j1,j2,j7,(13,cNo),(2904,ow7),(2905,ow9),aR]⟩
def cB0:Sh:=⟨[k1,k2,k3,e92],[j3,o33]⟩
def cAt:Sh:=⟨[],[o2,j1,j2,o4]⟩
def LG.k:=cn 7 GC sh1 LG
def Ie.k:=cn 14 GC ⟨[(0,.one (.ptr 0 0))],[(0,ob3)]⟩ Ie
def GO.k:=cn 33 Zw Zb λ(a,b,c)=>GO (a,b,c)
def gD.k:=cn 16 Zy Zb λ(a,b,c,d)=>gD (b,c,d) a
def yH.k:=cn 18 Zy ⟨[e3],[o12]⟩ λ(a,b,c,d)=>yH (b,c,d) a
def cQ.k:=cn 34 sh2 sh5 cQ
def Ic.k:=cn 19 ⟨[e11,e51],[o12]⟩ Zb λ(a,b,c,d)=>Ic (b,c,d) a
def KI.k:=cn 32 Zw U6 λ(a,b,c)=>KI (a,b,c)
def Gb.k:=cn 35 ⟨[e11,(1,Uy)],[o12]⟩ U6 λ(a,b,c,d)=>Gb (b,c,d) a
def vQ.k:=cn 17 Zw U6 λ(a,b,c)=>vQ (a,b,c)
def wP.k:=cn 15 Zy U6 λ(a,b,c,d)=>wP (b,c,d) a
def Ks.k:=cn 8 GC ⟨[e9,e62],[]⟩ Ks
def HD.k:=cn 12 cDf YT λ(a,b)=>HD a b
def dU.k:=cn 55 sh2 sh5 dU
def wO.k:=cn 27 sh5 ⟨[e2,e19],[]⟩ wO
def aY.k:=cn 129 Ui sh1 λ(a,b,c)=>aY a b c
def KE.k:=cn 204 sh2 sh1 KE
def fT.k:=cn 114 Hv sh1 λ(a,b,c)=>fT (a,b) c
def Lb.k:=cn 205 ⟨[e4,(1,ag9)],[]⟩ sh1 λ(a,b,c,d,e,f,g)=>Lb (a,b) (c,d,e,f,g)
def iY.k:=cn 206 Zz sh1 λ(a,b,c,d,e,f,g)=>iY (a,b,c,d,e) f g
def cS.k:=cn 111 P2 sh1 λ(a,b)=>cS (a,b)
def cL.k:=cn 225 Uo sh1 λ(a,b,c)=>cL (a,b,c)
def lS.k:=cn 381 Pn sh1 λ(a,b,c,d,e)=>lS (a,b,c,d,e)
def gC.k:=cn 383 Zz sh1 λ(a,b,c,d,e,f,g)=>gC (a,b,c,d,e) f g
def nF.k:=cn 382 cA4 sh2 λ(a,b,c,d)=>nF a b c d
def jO.k:=cn 283 ⟨[e43,e1,e5],[]⟩ sh1 λ(a,b,c)=>jO a b c
def vS.k:=cn 284 UM sh2 λ(a,b,c,d,e,f)=>vS (a,b,c) d e f
def Hb.k:=cn 229 sh6 sh2 λ(a,b)=>Hb a b
def K7.k:=cn 384 U9 sh2 λ(a,b,c,d,e)=>K7 a b c d e
def nL.k:=cn 385 U9 sh2 λ(a,b,c,d,e)=>nL a b c d e
def HK.k:=cn 285 Ze sh2 λ(a,b,c,d,e,f,g)=>HK (a,b,c) d e f g
def oY.k:=cn 189 Ul sh1 λ(a,b,c,d)=>oY (a,b,c) d
def mS.k:=cn 125 Iz sh1 λ(a,b,c,d,e,f,g,h,i)=>mS (a,b,c,d,e,f,g,h,i)
def xH.k:=cn 190 Uc sh1 λ(a,b,c,d)=>xH (a,b,c,d)
def Mr.k:=cn 386 cAr sh1 λ(a,b)=>Mr a b
def qS.k:=cn 286 ⟨[(0,Ud),(1,Ud)],[]⟩ sh1 λ(a,b)=>qS a b
def oX.k:=cn 191 cDs sh1 λ(a,b,c,d,e,f,g,h,i,j,k,l,m)=>oX (a,b,c,d,e,f,g,h,i) (j,k,l,m)
def gS.k:=cn 108 E5 sh1 λ(a,b,c,d,e,f,g,h,i,j,k,l,m)=>gS ((a,b),(c,d),(e,f,g),h,i,j,k,l,m)
def eQ.k:=cn 58 P2 ⟨[e77],[o28,o29]⟩ λ(a,b)=>eQ (a,b)
def pP.k:=cn 310 Ps YZ pP
def cG.k:=cn 213 FO TS λ(a,b,c)=>cG (a,b,c)
def dY.k:=cn 118 ⟨[(0,Zv)],[]⟩ Pg dY
def mU.k:=cn 192 YR Zx λ(a,b)=>mU (a,b)
def gL.k:=cn 287 ⟨[e43],[]⟩ UF gL
def gW.k:=cn 193 ⟨[e36],[]⟩ Nj λ(a,b,c)=>gW (a,b,c)
def wC.k:=cn 194 N4 sh9 wC
def gJ.k:=cn 221 sh8 LU gJ
def fZ.k:=cn 288 GC Rj fZ
def eM.k:=cn 195 ER IA λ(a,b,c,d,e,f,g,h,i,j)=>eM (a,b,c,d,e,f,g,h,i,j)
def mX.k:=cn 289 ⟨[(0,Ud)],[]⟩ ⟨[e7],[o10]⟩ mX
def zM.k:=cn 290 IC Nk zM
def gE.k:=cn 291 ⟨[e59],[]⟩ U8 gE
def gI.k:=cn 196 Iz Kc λ(a,b,c,d,e,f,g,h,i)=>gI (a,b,c,d,e,f,g,h,i)
def tK.k:=cn 197 Uc P4 λ(a,b,c,d)=>tK (a,b,c,d)
def eY.k:=cn 109 E5 Pu λ(a,b,c,d,e,f,g,h,i,j,k,l,m)=>eY ((a,b),(c,d),(e,f,g),h,i,j,k,l,m)
def iJ.k:=cn 387 ⟨[e43,e1],[]⟩ UF λ(a,b)=>iJ a b
def Mv.k:=cn 292 Ul Nj λ(a,b,c,d)=>Mv (a,b,c) d
def fH.k:=cn 425 sh2 sh1 fH
def iX.k:=cn 328 Ns sh2 λ(a,b,c,d,e)=>iX (a,b,c,d) e
def iG.k:=cn 329 Ns sh2 λ(a,b,c,d,e)=>iG (a,b,c,d) e
def kU.k:=cn 223 sh8 ⟨[e7],[(0,P0)]⟩ kU
def Kr.k:=cn 333 sh8 sh6 Kr
def kZ.k:=cn 232 cA7 IA λ(a,b,c,d,e)=>kZ a b c d e
def fB.k:=cn 135 Iz Pd λ(a,b,c,d,e,f,g,h,i)=>fB (a,b,c,d,e,f,g,h,i)
def wD.k:=cn 388 Iz sh2 λ(a,b,c,d,e,f,g,h,i)=>wD (a,b,c,d,e,f,g,h,i)
def K2.k:=cn 293 Iz cDy λ(a,b,c,d,e,f,g,h,i)=>K2 (a,b,c,d,e,f,g,h,i)
def rC.k:=cn 200 P3 EP λ(a,b,c,d,e,f,g,h,i,j,k,l,m,n,o,p,q,r,s,t,u,v,w,x,y)=>rC ((m,n),(o,p),(q,r,s),t,u,w,x,y,v) a b (c,d,e,f,g,h,i,j,k,l)
def rR.k:=cn 202 Z3 N4 λ(a,b)=>rR a b
def xK.k:=cn 398 Hv N4 λ(a,b,c)=>xK (a,b) c
def pK.k:=cn 399 LY sh2 λ(a,b,c,d)=>pK (a,b) c d
def jE.k:=cn 201 Z3 sh1 λ(a,b)=>jE a b
def nX.k:=cn 207 sh2 sh1 nX
def xR.k:=cn 400 sh6 sh2 λ(a,b)=>xR a b
def dZ.k:=cn 295 ⟨[e4,e51,e5],[]⟩ sh2 λ(a,b,c,d)=>dZ (a,b) c d
def pQ.k:=cn 389 ⟨[e2,(1,.one (.ptr 1000001 0))],[(1000001,ob8)]⟩ ⟨[(0,cIy)],[o8,o13,(1000001,ob8)]⟩ λ(a,b,c,d,e,f,g,h,i,j,k)=>pQ a (b,c,d,e,f,g,h,i,j,k)
def dL.k:=cn 313 sh2 sh1 dL
def sA.k:=cn 478 Pn sh1 λ(a,b,c,d,e)=>sA (a,b,c,d,e)
def qX.k:=cn 494 Ps sh1 qX
def qO.k:=cn 461 sh8 sh1 qO
def HL.k:=cn 462 ER sh1 λ(a,b,c,d,e,f,g,h,i,j)=>HL (a,b,c,d,e,f,g,h,i,j)
def fY.k:=cn 391 ER sh2 λ(a,b,c,d,e,f,g,h,i,j)=>fY (a,b,c,d,e,f,g,h,i,j)
def vL.k:=cn 390 ER sh1 λ(a,b,c,d,e,f,g,h,i,j)=>vL (a,b,c,d,e,f,g,h,i,j)
def HT.k:=cn 421 ⟨[e4,(1,Zq)],[]⟩ sh1 λ(a,b,c)=>HT (a,b) c
def fD.k:=cn 402 LY sh6 λ(a,b,c,d)=>fD (a,b) c d
def zN.k:=cn 481 UE sh1 λ(a,b,c,d,e,f)=>zN (a,b) (c,d,e,f)
def IT.k:=cn 482 sh2 sh2 IT
def pB.k:=cn 430 LM sh1 λ(a,b,c)=>pB (a,b) c
def Mz.k:=cn 483 ⟨[(0,.one (.var (.sl EE)))],[]⟩ sh9 Mz
def jD.k:=cn 431 sh8 sh9 jD
def oO.k:=cn 322 LM sh1 λ(a,b,c)=>oO (a,b) c
def yD.k:=cn 486 sh6 sh2 λ(a,b)=>yD a b
def HO.k:=cn 485 sh6 sh2 λ(a,b)=>HO a b
def L8.k:=cn 484 sh6 sh2 λ(a,b)=>L8 a b
def yL.k:=cn 435 N4 sh2 yL
def kK.k:=cn 415 Up sh2 λ(a,b)=>kK a b
def HR.k:=cn 471 Ub sh2 λ(a,b,c,d,e,f,g,h)=>HR a b c (d,e,f,g,h)
def nD.k:=cn 422 cCf sh1 λ(a,b,c,d,e,f,g,h,i)=>nD (a,b) c d (e,f,g,h,i)
def lO.k:=cn 463 ⟨[e4,e39],[]⟩ Pd λ(a,b,c,d,e,f,g,h,i,j,k,l)=>lO (a,b) (c,d,e,f,g,h,i,j,k,l)
def Mt.k:=cn 495 ⟨[e42,e1],[]⟩ sh1 λ(a,b,c,d,e,f)=>Mt (a,b,c,d,e) f
def jT.k:=cn 464 Zl sh1 λ(a,b,c,d,e,f,g,h,i,j,k)=>jT (a,b,c,d,e,f,g,h,i,j) k
def pM.k:=cn 392 cB8 Zl λ(a,b,c,d,e,f,g,h,i,j,k,l,m)=>pM (a,b) c (d,e,f,g,h,i,j,k,l,m)
def kH.k:=cn 393 ER sh1 λ(a,b,c,d,e,f,g,h,i,j)=>kH (a,b,c,d,e,f,g,h,i,j)
def pI.k:=cn 394 ER sh1 λ(a,b,c,d,e,f,g,h,i,j)=>pI (a,b,c,d,e,f,g,h,i,j)
def rY.k:=cn 395 ER IA λ(a,b,c,d,e,f,g,h,i,j)=>rY (a,b,c,d,e,f,g,h,i,j)
def eL.k:=cn 412 LY sh2 λ(a,b,c,d)=>eL (a,b) c d
def oZ.k:=cn 465 sh6 sh1 λ(a,b)=>oZ a b
def vU.k:=cn 396 ⟨[e4,e85],[]⟩ sh1 λ(a,b,c,d,e)=>vU (a,b) (c,d,e)
def uU.k:=cn 397 sh6 sh1 λ(a,b)=>uU a b
def yA.k:=cn 294 Z7 ⟨[(0,TR),e1],[]⟩ λ(a,b,c,d,e,f,g,h,i,j,k,l,m,n,o,p)=>yA (a,b) c d e f (g,h,i,j,k,l,m,n,o,p)
def Kv.k:=cn 466 UM sh2 λ(a,b,c,d,e,f)=>Kv (a,b,c) d e f
def KB.k:=cn 401 Ze cBr λ(a,b,c,d,e,f,g)=>KB (a,b,c) d e f g
def qA.k:=cn 296 ⟨[e11,e1,(2,TR)],[o4,o2,o1,o3]⟩ EP λ(a,b,c,d,e,f,g,h,i,j,k,l,m,n,o,p,q,r,s,t,u,v,w,x,y,z)=>qA ((n,o),(p,q),(r,s,t),u,v,x,y,z,w) a (b,c,(d,e,f,g,h,i,j,k,l,m))
def rD.k:=cn 126 cAq sh2 λ(a,b,c)=>rD a b c
def H9.k:=cn 403 Pq sh1 λ(a,b,c,d,e,f,g,h,i,j,k,l,m,n)=>H9 (a,b,c,d) (e,f,g,h,i,j,k,l,m,n)
def uS.k:=cn 297 Pq P4 λ(a,b,c,d,e,f,g,h,i,j,k,l,m,n)=>uS (a,b,c,d) (e,f,g,h,i,j,k,l,m,n)
def vO.k:=cn 438 sh2 sh2 vO
def mY.k:=cn 439 Ns sh2 λ(a,b,c,d,e)=>mY (a,b,c,d) e
def nA.k:=cn 426 Ps YZ nA
def vK.k:=cn 331 Rq P5 λ(a,b,c,d)=>vK (a,b,c,d)
def kA.k:=cn 230 sh8 LU kA
def Lm.k:=cn 404 cDe IA λ(a,b,c,d,e,f,g,h,i,j,k,l,m)=>Lm (a,b,c,d,e,f,g,h,i,j) k l m
def IZ.k:=cn 298 Pq Pd λ(a,b,c,d,e,f,g,h,i,j,k,l,m,n)=>IZ (a,b,c,d) (e,f,g,h,i,j,k,l,m,n)
def Ky.k:=cn 405 ⟨[e28,e39],[]⟩ Kc λ(a,b,c,d,e,f,g,h,i,j,k,l,m,n,o,p,q,r,s)=>Ky (a,b,c,d,e,f,g,h,i) (j,k,l,m,n,o,p,q,r,s)
def xA.k:=cn 501 Rg ⟨[e2,e1,e14],[]⟩ λ(a,b)=>xA a b
def wX.k:=cn 496 ⟨[e24,e1,e5],[]⟩ cDq λ(a,b,c)=>wX a b c
def mB.k:=cn 467 GC ⟨[e84,e19],[]⟩ mB
def xE.k:=cn 437 ⟨[e22,e85],[]⟩ sh1 λ(a,b,c,d)=>xE a (b,c,d)
def qQ.k:=cn 468 ⟨[e59,e85],[]⟩ U8 λ(a,b,c,d)=>qQ a (b,c,d)
def lW.k:=cn 406 ⟨[e28,e39,e5],[]⟩ Kc λ(a,b,c,d,e,f,g,h,i,j,k,l,m,n,o,p,q,r,s,t)=>lW (a,b,c,d,e,f,g,h,i) (j,k,l,m,n,o,p,q,r,s) t
def kF.k:=cn 299 TU EP λ(a,b,c,d,e,f,g,h,i,j,k,l,m,n,o,p,q,r,s,t,u,v,w,x)=>kF ((l,m),(n,o),(p,q,r),s,t,v,w,x,u) a (b,c,d,e,f,g,h,i,j,k)
def Hk.k:=cn 227 sh6 sh2 λ(a,b)=>Hk a b
def kJ.k:=cn 302 ER YU λ(a,b,c,d,e,f,g,h,i,j)=>kJ (a,b,c,d,e,f,g,h,i,j)
def sW.k:=cn 502 Rg Rj λ(a,b)=>sW a b
def xM.k:=cn 497 ⟨[e24,e51],[]⟩ GC λ(a,b)=>xM a b
def xB.k:=cn 469 N4 GC xB
def lN.k:=cn 407 Uo GC λ(a,b,c)=>lN (a,b,c)
def mE.k:=cn 300 cBo IA λ(a,b,c,d,e,f,g,h,i,j,k,l,m,n,o)=>mE (a,b) c d e (f,g,h,i,j,k,l,m,n,o)
def mP.k:=cn 301 sh8 sh2 mP
def gB.k:=cn 200 P3 EP λ(a,b,c,d,e,f,g,h,i,j,k,l,m,n,o,p,q,r,s,t,u,v,w,x,y)=>gB ((m,n),(o,p),(q,r,s),t,u,w,x,y,v) a b (c,d,e,f,g,h,i,j,k,l)
def cC.k:=cn 200 P3 EP λ(a,b,c,d,e,f,g,h,i,j,k,l,m,n,o,p,q,r,s,t,u,v,w,x,y)=>cC ((m,n),(o,p),(q,r,s),t,u,w,x,y,v) a b (c,d,e,f,g,h,i,j,k,l)
def nI.k:=cn 198 Ut Pe λ(a,b,c,d,e,f,g,h,i,j,k,l,m)=>nI ((a,b),(c,d),(e,f,g),h,i,k,l,m,j)
def gR.k:=cn 199 Ur cCm λ(a,b,c,d,e,f,g,h,i,j,k,l,m,n)=>gR ((b,c),(d,e),(f,g,h),i,j,l,m,n,k) a
def KM.k:=cn 203 cDx cDi λ(a,b,c,d,e,f,g,h,i,j)=>KM (a,b,c,d,e,f,g,h,i) j
def yC.k:=cn 424 FO sh2 λ(a,b,c)=>yC (a,b,c)
def kO.k:=cn 315 ⟨[e44,e1],[]⟩ Pg λ(a,b,c)=>kO (a,b) c
def oL.k:=cn 316 Ph sh2 λ(a,b,c,d)=>oL (a,b,c) d
def La.k:=cn 473 Ps sh9 La
def K5.k:=cn 472 Up sh2 λ(a,b)=>K5 a b
def qL.k:=cn 411 Ph sh2 λ(a,b,c,d)=>qL (a,b,c) d
def gG.k:=cn 317 ⟨[e15,e1,e5],[]⟩ P5 λ(a,b,c,d,e)=>gG (a,b,c) d e
def lG.k:=cn 321 FO sh2 λ(a,b,c)=>lG (a,b,c)
def uJ.k:=cn 427 YW Pg λ(a,b,c,d)=>uJ (a,b) c d
def iH.k:=cn 480 ⟨[e15,e1,(2,.one (.ptr 1000002 0))],[(1000002,.box [.row 0]),(0,Pj)]⟩ ⟨[],[(0,Pj),(1000002,.box [.row 0])]⟩ λ(a,b,c,d,e)=>iH (a,b,c) d e
def rQ.k:=cn 428 cCr YU λ(a,b,c,d,e,f,g,h,i,j)=>rQ (a,b,c) (d,e,f) g (h,i,j)
def fA.k:=cn 318 cEf IC λ(a,b,c,d,e,f,g,h,i,j)=>fA (a,b) (c,d,e) f g (h,i,j)
def wN.k:=cn 429 Ph sh2 λ(a,b,c,d)=>wN (a,b,c) d
def tT.k:=cn 319 Ru LU λ(a,b,c,d,e,f)=>tT (a,b,c) (d,e,f)
def sK.k:=cn 320 Hv sh1 λ(a,b,c)=>sK (a,b) c
def qB.k:=cn 217 TX IC λ(a,b,c,d,e,f)=>qB (a,b) (c,d) e f
def uR.k:=cn 432 UE sh1 λ(a,b,c,d,e,f)=>uR (a,b) (c,d,e,f)
def uY.k:=cn 323 LM sh1 λ(a,b,c)=>uY (a,b) c
def jY.k:=cn 324 Ps sh2 jY
def tX.k:=cn 218 ⟨[e4,e26,e5],[]⟩ sh1 λ(a,b,c,d)=>tX (a,b) c d
def kW.k:=cn 479 cDz sh1 λ(a,b)=>kW a b
def xP.k:=cn 433 Px sh1 λ(a,b,c,d,e,f,g,h)=>xP (a,b,c,d) (e,f,g,h)
def tM.k:=cn 325 Uv sh1 λ(a,b)=>tM a b
def Ja.k:=cn 219 ⟨[e37,e26],[]⟩ sh1 λ(a,b)=>Ja a b
def iC.k:=cn 121 cCx IC λ(a,b,c,d,e,f,g)=>iC (a,b) (c,d) e f g
def M2.k:=cn 434 sh8 YZ M2
def uW.k:=cn 326 sh8 sh2 uW
def vC.k:=cn 327 sh8 sh2 vC
def xL.k:=cn 220 Uv sh1 λ(a,b)=>xL a b
def tI.k:=cn 122 IC IC tI
def jQ.k:=cn 436 ⟨[e59,e1],[]⟩ U8 λ(a,b)=>jQ a b
def KT.k:=cn 330 ⟨[e59,e26,e5],[]⟩ sh1 λ(a,b,c)=>KT a b c
def nP.k:=cn 226 cBg Nk λ(a,b,c)=>nP a b c
def tU.k:=cn 127 cDr Kc λ(a,b,c,d,e,f,g,h,i,j,k)=>tU (a,b,c,d,e,f,g,h,i) j k
def kV.k:=cn 110 Yc Pe λ(a,b,c,d,e,f,g,h,i,j,k,l,m,n,o,p,q,r,s,t,u,v,w,x,y,z,A,B)=>kV ((p,q),(r,s),(t,u,v),w,x,z,A,B,y) (a,b,c,(d,e,(f,g,h,i,j,k,l,m,n,o)))
def rV.k:=cn 56 ⟨[e20,e78],[]⟩ cDo λ(a,b,c,d,e,f,g,h,i,j,k,l,m,n,o,p,q,r,s,t,u,v,w,x,y,z,A,B)=>rV ((a,b),(c,d),(e,f,g),h,i,j,k,l,m) (n,o,p,(q,r,(s,t,u,v,w,x,y,z,A,B)))
def pN.k:=cn 57 ⟨[e3,e62],[]⟩ sh5 λ(a,b)=>pN a b
def cU.k:=cn 28 ⟨[e11,e78],[o6,o5]⟩ Hu λ(a,b,c,d,e,f,g,h,i,j,k,l,m,n,o,p,q,r,s,t,u,v,w,x,y,z,A,B,C,D,E,F,G,H)=>cU ((p,q),(r,s),H,t,((u,v),(w,x),(y,z,A),B,C,D,E,F,G)) (a,b,c,(d,e,(f,g,h,i,j,k,l,m,n,o)))
def tG.k:=cn 29 YJ ⟨[e7,e19],[o11]⟩ tG
def qY.k:=cn 112 sh3 Pl λx=>qY
def mM.k:=cn 59 ⟨[e11,(1,ag1)],[o6,o5]⟩ ⟨[e3],[o5,o6]⟩ λ(a,b,c,d,e,f,g,h,i,j,k,l,m,n,o,p,q,r,s,t,u)=>mM ((c,d),(e,f),u,g,((h,i),(j,k),(l,m,n),o,p,q,r,s,t)) (a,b)
def eK.k:=cn 30 ⟨[e11,e51,e5],[o6,o5]⟩ Hu λ(a,b,c,d,e,f,g,h,i,j,k,l,m,n,o,p,q,r,s,t,u)=>eK ((c,d),(e,f),u,g,((h,i),(j,k),(l,m,n),o,p,q,r,s,t)) a b
def pY.k:=cn 113 Hv sh5 λ(a,b,c)=>pY (a,b) c
def mL.k:=cn 60 ⟨[e11,e19,e5],[o6,o5]⟩ Hu λ(a,b,c,d,e,f,g,h,i,j,k,l,m,n,o,p,q,r,s,t,u)=>mL ((c,d),(e,f),u,g,((h,i),(j,k),(l,m,n),o,p,q,r,s,t)) a b
def pF.k:=cn 115 Pl sh1 λ(a,b,c,d)=>pF (a,b,c,d)
def jU.k:=cn 61 ⟨[e11,e51],[o6,o5]⟩ Hu λ(a,b,c,d,e,f,g,h,i,j,k,l,m,n,o,p,q,r,s,t)=>jU ((b,c),(d,e),t,f,((g,h),(i,j),(k,l,m),n,o,p,q,r,s)) a
def sO.k:=cn 211 Hv UH λ(a,b,c)=>sO (a,b) c
def kX.k:=cn 209 cA6 Pl λ(a,b)=>kX a b
def M7.k:=cn 470 Ps sh9 M7
def kC.k:=cn 408 FO sh9 λ(a,b,c)=>kC (a,b,c)
def uV.k:=cn 304 ⟨[e60,e23,e5],[]⟩ sh1 λ(a,b,c,d,e,f,g,h)=>uV (a,b,c,d) (e,f,g) h
def Kt.k:=cn 409 ⟨[e60,e1],[]⟩ sh2 λ(a,b,c,d,e)=>Kt (a,b,c,d) e
def nM.k:=cn 410 Ub Pn λ(a,b,c,d,e,f,g,h)=>nM a b c (d,e,f,g,h)
def F6.k:=cn 305 U4 TS λ(a,b,c,d,e,f,g,h,i,j,k,l)=>F6 (a,b) (c,d,e,f) (g,h,i) j k l
def pG.k:=cn 414 cC0 Pv λ(a,b,c,d,e,f,g,h,i,j)=>pG (a,b) (c,d,e,f) g h i j
def lM.k:=cn 413 ⟨[e4,e47,e5],[]⟩ sh9 λ(a,b,c,d,e,f,g)=>lM (a,b) (c,d,e,f) g
def vM.k:=cn 416 ⟨[e4,e1,e5,(3,ag2)],[]⟩ ⟨[(0,.agg [.var ti,.var ti,.var ti,.var ti,.var (.sl cH)])],[]⟩ λ(a,b,c,d,e,f,g)=>vM (a,b) c d (e,f,g)
def rM.k:=cn 311 Mb sh1 λ(a,b,c,d,e)=>rM (a,b) (c,d,e)
def nQ.k:=cn 312 Mb sh2 λ(a,b,c,d,e)=>nQ (a,b) (c,d,e)
def jW.k:=cn 306 Mb sh2 λ(a,b,c,d,e)=>jW (a,b) (c,d,e)
def nB.k:=cn 214 Mb sh1 λ(a,b,c,d,e)=>nB (a,b) (c,d,e)
def pX.k:=cn 215 FO sh1 λ(a,b,c)=>pX (a,b,c)
def mZ.k:=cn 303 cD2 sh1 λ(a,b,c,d,e,f,g)=>mZ (a,b) (c,d,e) f g
def GM.k:=cn 418 U4 Pv λ(a,b,c,d,e,f,g,h,i,j,k,l)=>GM (a,b) (c,d,e,f) (g,h,i) j k l
def lH.k:=cn 417 U0 sh9 λ(a,b,c,d,e,f,g,h,i,j,k)=>lH (a,b) (c,d,e,f) (g,h,i) j k
def oQ.k:=cn 477 Rq P5 λ(a,b,c,d)=>oQ (a,(b,c,d))
def pL.k:=cn 474 Ux ⟨[e7],[(0,Pk)]⟩ pL
def qZ.k:=cn 419 TZ UH λ(a,b)=>qZ (a,b)
def iM.k:=cn 423 Ru sh1 λ(a,b,c,d,e,f)=>iM (a,b,c) (d,e,f)
def yE.k:=cn 498 Px sh1 λ(a,b,c,d,e,f,g,h)=>yE (a,(b,c,d)) (e,(f,g,h))
def K1.k:=cn 475 ⟨[e86,e46],[]⟩ sh1 λ(a,b,c,d,e)=>K1 a (b,(c,d,e))
def rO.k:=cn 499 FO sh2 λ(a,b,c)=>rO (a,b,c)
def Kn.k:=cn 476 Px sh1 λ(a,b,c,d,e,f,g,h)=>Kn (a,(b,c,d)) (e,(f,g,h))
def sG.k:=cn 420 cB5 Ux λ(a,b,c,d,e,f,g,h)=>sG (a,b) c d (e,(f,g,h))
def jG.k:=cn 309 cDv TZ λ(a,b,c,d,e)=>jG (a,b) (c,d) e
def rE.k:=cn 208 U0 Pv λ(a,b,c,d,e,f,g,h,i,j,k)=>rE (a,b) (c,d,e,f) (g,h,i) j k
def dP.k:=cn 210 ⟨[e11,(1,ag1),e53],[(1000000,.box [.row 0,.row 1]),(0,G9),(1,G9)]⟩ ⟨[],[(0,G9),(1,G9),(1000000,.box [.row 0,.row 1])]⟩ λ(a,b,c,d,e,f,g)=>dP (f,g) (a,b) (c,d,e)
def uH.k:=cn 314 cBn sh1 λ(a,b,c,d)=>uH a (b,c,d)
def wZ.k:=cn 216 ⟨[e44,e23],[]⟩ sh1 λ(a,b,c,d,e)=>wZ (a,b) (c,d,e)
def uO.k:=cn 119 ⟨[e4,e72,e53],[]⟩ ⟨[e77],[(0,G9),(1,G9)]⟩ λ(a,b,c,d,e,f,g)=>uO (a,b) (c,d) (e,f,g)
def sV.k:=cn 120 YR sh2 λ(a,b)=>sV (a,b)
def pZ.k:=cn 307 ⟨[e4,e79,e5,e6],[o20]⟩ ⟨[(0,Zi)],[o20]⟩ λ(a,b,c,d,e)=>pZ (a,b) e c d
def pR.k:=cn 308 ⟨[e4,e79,e5,(3,Pf)],[o20]⟩ ⟨[(0,Zi)],[o20]⟩ λ(a,b,c,d,e)=>pR (a,b) e c d
def gN.k:=cn 212 YD TW λ(a,b,c,d,e)=>gN (a,b) e (c,d)
def dA.k:=cn 117 cDg TW λ(a,b,c,d)=>dA (a,b) d c
def cM.k:=cn 116 YD ⟨[e77],[(0,G9),(1,G9),o20]⟩ λ(a,b,c,d,e)=>cM (a,b) e (c,d)
def pT.k:=cn 62 ⟨[e11],[o6,o5]⟩ Hu λ(a,b,c,d,e,f,g,h,i,j,k,l,m,n,o,p,q,r,s)=>pT ((a,b),(c,d),s,e,((f,g),(h,i),(j,k,l),m,n,o,p,q,r))
def mN.k:=cn 63 ⟨[e11,e1,e5],[o6,o5]⟩ ⟨[e37],[o5,o6]⟩ λ(a,b,c,d,e,f,g,h,i,j,k,l,m,n,o,p,q,r,s,t,u)=>mN ((c,d),(e,f),u,g,((h,i),(j,k),(l,m,n),o,p,q,r,s,t)) a b
def yJ.k:=cn 222 ⟨[e4,(1,.one (.var (.sl EE)))],[]⟩ YT λ(a,b,c)=>yJ (a,b) c
def jH.k:=cn 132 ⟨[(0,Uy),e62],[]⟩ sh5 λ(a,b)=>jH a b
def xY.k:=cn 137 YJ sh5 xY
def uA.k:=cn 123 LM sh5 λ(a,b,c)=>uA (a,b) c
def tL.k:=cn 64 ⟨[e11,e1,e5,e6],[o6,o5]⟩ Hu λ(a,b,c,d,e,f,g,h,i,j,k,l,m,n,o,p,q,r,s,t,u,v)=>tL ((d,e),(f,g),v,h,((i,j),(k,l),(m,n,o),p,q,r,s,t,u)) a b c
def sR.k:=cn 224 sh2 Nj sR
def tY.k:=cn 124 TX Pu λ(a,b,c,d,e,f)=>tY (a,b) (c,d) e f
def vT.k:=cn 65 cAo Hu λ(a,b,c,d,e,f,g,h,i,j,k,l,m,n,o,p,q,r,s,t)=>vT ((b,c),(d,e),t,f,((g,h),(i,j),(k,l,m),n,o,p,q,r,s)) a
def KV.k:=cn 67 Ui Kc λ(a,b,c)=>KV a b c
def My.k:=cn 128 sh6 P4 λ(a,b)=>My a b
def wQ.k:=cn 66 Us cDo λ(a,b,c,d,e,f,g,h,i,j,k,l,m,n,o,p,q,r,s,t,u,v)=>wQ ((a,b),(c,d),(e,f,g),h,i,j,k,l,m) (n,o,p,q,r,s,t,u,v)
def jV.k:=cn 228 Ur EP λ(a,b,c,d,e,f,g,h,i,j,k,l,m,n)=>jV ((b,c),(d,e),(f,g,h),i,j,l,m,n,k) a
def nV.k:=cn 130 Ut EP λ(a,b,c,d,e,f,g,h,i,j,k,l,m)=>nV ((a,b),(c,d),(e,f,g),h,i,k,l,m,j)
def rK.k:=cn 68 Yi Pu λ(a,b,c,d,e,f,g,h,i,j,k,l,m,n)=>rK ((a,b),(c,d),(e,f,g),h,i,j,k,l,m) n
def wK.k:=cn 131 E5 sh9 λ(a,b,c,d,e,f,g,h,i,j,k,l,m)=>wK ((a,b),(c,d),(e,f,g),h,i,j,k,l,m)
def eN.k:=cn 69 ⟨[e11],[o6,o5]⟩ Hu λ(a,b,c,d,e,f,g,h,i,j,k,l,m,n,o,p,q,r,s)=>eN ((a,b),(c,d),s,e,((f,g),(h,i),(j,k,l),m,n,o,p,q,r))
def jA.k:=cn 133 E5 sh2 λ(a,b,c,d,e,f,g,h,i,j,k,l,m)=>jA ((a,b),(c,d),(e,f,g),h,i,j,k,l,m)
def Jo.k:=cn 70 E5 Pu λ(a,b,c,d,e,f,g,h,i,j,k,l,m)=>Jo ((a,b),(c,d),(e,f,g),h,i,j,k,l,m)
def mD.k:=cn 71 cAo Hu λ(a,b,c,d,e,f,g,h,i,j,k,l,m,n,o,p,q,r,s,t)=>mD ((b,c),(d,e),t,f,((g,h),(i,j),(k,l,m),n,o,p,q,r,s)) a
def IV.k:=cn 440 Z7 ⟨[(0,TR)],[]⟩ λ(a,b,c,d,e,f,g,h,i,j,k,l,m,n,o,p)=>IV (a,b) c d e f (g,h,i,j,k,l,m,n,o,p)
def zD.k:=cn 332 cC7 ⟨[(0,.agg [.var ti,.row 0,.var ti,.var ti,.var ti,.var (.sl Cb),.var ti,.var ti,.var ti,.var ti,.var ti,.var (.sl tb)])],[(0,P0)]⟩ λ(a,b,c,d,e,f,g,h,i,j,k,l,m,n)=>zD (a,b) c d (e,f,g,h,i,j,k,l,m,n)
def IP.k:=cn 231 cB1 sh1 λ(a,b,c,d,e)=>IP (a,b) c d e
def vH.k:=cn 134 Us sh2 λ(a,b,c,d,e,f,g,h,i,j,k,l,m,n,o,p,q,r,s,t,u,v)=>vH ((a,b),(c,d),(e,f,g),h,i,j,k,l,m) (n,o,p,q,r,s,t,u,v)
def pO.k:=cn 72 E5 sh1 λ(a,b,c,d,e,f,g,h,i,j,k,l,m)=>pO ((a,b),(c,d),(e,f,g),h,i,j,k,l,m)
def Jp.k:=cn 73 E5 sh1 λ(a,b,c,d,e,f,g,h,i,j,k,l,m)=>Jp ((a,b),(c,d),(e,f,g),h,i,j,k,l,m)
def jR.k:=cn 233 LY sh5 λ(a,b,c,d)=>jR (a,b) c d
def xO.k:=cn 136 Hv sh5 λ(a,b,c)=>xO (a,b) c
def mI.k:=cn 74 P2 sh5 λ(a,b)=>mI (a,b)
def oE.k:=cn 31 ⟨[e11,e62,(2,vr7)],[o6,o5]⟩ Hu λ(a,b,c,d,e,f,g,h,i,j,k,l,m,n,o,p,q,r,s,t,u)=>oE ((c,d),(e,f),u,g,((h,i),(j,k),(l,m,n),o,p,q,r,s,t)) a b
def eO.k:=cn 13 ⟨[e11,e62],[o6,o5]⟩ Hu λ(a,b,c,d,e,f,g,h,i,j,k,l,m,n,o,p,q,r,s,t)=>eO ((b,c),(d,e),t,f,((g,h),(i,j),(k,l,m),n,o,p,q,r,s)) a
def HA.k:=cn 6 sh5 sh5 HA
def Js.k:=cn 20 Rg sh2 λ(a,b)=>Js a b
def vI.k:=cn 9 GC sh5 vI
def yW.k:=cn 10 cDf YT λ(a,b)=>yW a b
def aJ.k:=cn 45 Ui sh1 λ(a,b,c)=>aJ a b c
def K4.k:=cn 85 sh2 sh1 K4
def cX.k:=cn 103 Hv sh1 λ(a,b,c)=>cX (a,b) c
def KD.k:=cn 86 ⟨[e4,(1,ag9)],[]⟩ sh1 λ(a,b,c,d,e,f,g)=>KD (a,b) (c,d,e,f,g)
def GR.k:=cn 87 Zz sh1 λ(a,b,c,d,e,f,g)=>GR (a,b,c,d,e) f g
def bY.k:=cn 44 P2 sh1 λ(a,b)=>bY (a,b)
def sP.k:=cn 141 Hv UH λ(a,b,c)=>sP (a,b) c
def nZ.k:=cn 107 sh2 sh1 nZ
def mR.k:=cn 54 Pl sh1 λ(a,b,c,d)=>mR (a,b,c,d)
def qT.k:=cn 167 sh3 Pl λx=>qT
def lA.k:=cn 139 cA6 Pl λ(a,b)=>lA a b
def nY.k:=cn 243 sh2 sh1 nY
def pH.k:=cn 340 LY sh2 λ(a,b,c,d)=>pH (a,b) c d
def eP.k:=cn 238 LY sh2 λ(a,b,c,d)=>eP (a,b) c d
def eX.k:=cn 334 FO sh9 λ(a,b,c)=>eX (a,b,c)
def Ia.k:=cn 441 sh2 sh1 Ia
def tO.k:=cn 335 sh6 sh1 λ(a,b)=>tO a b
def uC.k:=cn 235 ⟨[e60,e23,e5],[]⟩ sh1 λ(a,b,c,d,e,f,g,h)=>uC (a,b,c,d) (e,f,g) h
def Gv.k:=cn 188 sh6 sh2 λ(a,b)=>Gv a b
def tH.k:=cn 336 ⟨[e60,e1],[]⟩ sh2 λ(a,b,c,d,e)=>tH (a,b,c,d) e
def LA.k:=cn 378 sh6 sh2 λ(a,b)=>LA a b
def yI.k:=cn 278 N4 sh2 yI
def kG.k:=cn 343 Up sh2 λ(a,b)=>kG a b
def HQ.k:=cn 442 Ub sh2 λ(a,b,c,d,e,f,g,h)=>HQ a b c (d,e,f,g,h)
def iA.k:=cn 337 Ub Pn λ(a,b,c,d,e,f,g,h)=>iA a b c (d,e,f,g,h)
def pJ.k:=cn 342 cC0 Pv λ(a,b,c,d,e,f,g,h,i,j)=>pJ (a,b) (c,d,e,f) g h i j
def lV.k:=cn 341 ⟨[e4,e47,e5],[]⟩ sh9 λ(a,b,c,d,e,f,g)=>lV (a,b) (c,d,e,f) g
def dN.k:=cn 260 LY sh6 λ(a,b,c,d)=>dN (a,b) c d
def uP.k:=cn 239 ⟨[e4,(1,Uf),e5,e6],[]⟩ ⟨[e7],[(0,LR)]⟩ λ(a,b,c,d,e)=>uP (a,b) c d e
def oB.k:=cn 339 Pn sh1 λ(a,b,c,d,e)=>oB (a,b,c,d,e)
def gU.k:=cn 266 Z3 sh1 λ(a,b)=>gU a b
def rG.k:=cn 237 Mb sh1 λ(a,b,c,d,e)=>rG (a,b) (c,d,e)
def IW.k:=cn 444 Ph sh9 λ(a,b,c,d)=>IW (a,b,c) d
def yF.k:=cn 487 sh6 sh2 λ(a,b)=>yF a b
def KA.k:=cn 443 Up sh2 λ(a,b)=>KA a b
def sJ.k:=cn 338 Ph sh2 λ(a,b,c,d)=>sJ (a,b,c) d
def kY.k:=cn 348 cCf sh1 λ(a,b,c,d,e,f,g,h,i)=>kY (a,b) c d (e,f,g,h,i)
def nS.k:=cn 242 Mb sh2 λ(a,b,c,d,e)=>nS (a,b) (c,d,e)
def lY.k:=cn 174 FO sh2 λ(a,b,c)=>lY (a,b,c)
def fN.k:=cn 140 Mb sh2 λ(a,b,c,d,e)=>fN (a,b) (c,d,e)
def mT.k:=cn 144 Mb sh1 λ(a,b,c,d,e)=>mT (a,b) (c,d,e)
def mV.k:=cn 145 FO sh1 λ(a,b,c)=>mV (a,b,c)
def nE.k:=cn 234 cD2 sh1 λ(a,b,c,d,e,f,g)=>nE (a,b) (c,d,e) f g
def eB.k:=cn 147 FO TS λ(a,b,c)=>eB (a,b,c)
def HU.k:=cn 236 U4 TS λ(a,b,c,d,e,f,g,h,i,j,k,l)=>HU (a,b) (c,d,e,f) (g,h,i) j k l
def GN.k:=cn 345 U4 Pv λ(a,b,c,d,e,f,g,h,i,j,k,l)=>GN (a,b) (c,d,e,f) (g,h,i) j k l
def lK.k:=cn 344 U0 sh9 λ(a,b,c,d,e,f,g,h,i,j,k)=>lK (a,b) (c,d,e,f) (g,h,i) j k
def uQ.k:=cn 240 ⟨[e4,(1,Uf),e5,(3,Pf)],[]⟩ ⟨[e7],[(0,LR)]⟩ λ(a,b,c,d,e)=>uQ (a,b) c d e
def HG.k:=cn 445 Ux ⟨[e7],[(0,Pk)]⟩ HG
def KJ.k:=cn 346 TZ UH λ(a,b)=>KJ (a,b)
def rT.k:=cn 377 cDz sh1 λ(a,b)=>rT a b
def iT.k:=cn 349 Ru sh1 λ(a,b,c,d,e,f)=>iT (a,b,c) (d,e,f)
def M3.k:=cn 488 Px sh1 λ(a,b,c,d,e,f,g,h)=>M3 (a,(b,c,d)) (e,(f,g,h))
def K0.k:=cn 446 ⟨[e86,e46],[]⟩ sh1 λ(a,b,c,d,e)=>K0 a (b,(c,d,e))
def wM.k:=cn 489 FO sh2 λ(a,b,c)=>wM (a,b,c)
def Ko.k:=cn 447 Px sh1 λ(a,b,c,d,e,f,g,h)=>Ko (a,(b,c,d)) (e,(f,g,h))
def sB.k:=cn 347 cB5 Ux λ(a,b,c,d,e,f,g,h)=>sB (a,b) c d (e,(f,g,h))
def hH.k:=cn 241 cDv TZ λ(a,b,c,d,e)=>hH (a,b) (c,d) e
def rZ.k:=cn 138 U0 Pv λ(a,b,c,d,e,f,g,h,i,j,k)=>rZ (a,b) (c,d,e,f) (g,h,i) j k
def dM.k:=cn 75 ⟨[e4,(1,Uf),(2,UL)],[]⟩ Zx λ(a,b,c,d,e)=>dM (a,b) c (d,e)
def iF.k:=cn 143 ⟨[(0,Zv)],[]⟩ Pg iF
def Jr.k:=cn 244 cBn sh1 λ(a,b,c,d)=>Jr a (b,c,d)
def xI.k:=cn 146 ⟨[e44,e23],[]⟩ sh1 λ(a,b,c,d,e)=>xI (a,b) (c,d,e)
def oN.k:=cn 77 ⟨[e4,e72,e53],[]⟩ Zx λ(a,b,c,d,e,f,g)=>oN (a,b) (c,d) (e,f,g)
def sZ.k:=cn 78 YR sh2 λ(a,b)=>sZ (a,b)
def gQ.k:=cn 142 YD TW λ(a,b,c,d,e)=>gQ (a,b) e (c,d)
def dB.k:=cn 76 cDg TW λ(a,b,c,d)=>dB (a,b) d c
def Kw.k:=cn 36 ⟨[e11],[o14,o5]⟩ Mg λ(a,b,c,d,e,f,g,h,i,j,k,l,m,n,o,p,q,r,s)=>Kw ((a,b),s,(c,d),e,((f,g),(h,i),(j,k,l),m,n,o,p,q,r))
def mC.k:=cn 43 P2 ⟨[e77],[o28,o29]⟩ λ(a,b)=>mC (a,b)
def lP.k:=cn 153 ⟨[e36],[]⟩ Nj λ(a,b,c)=>lP (a,b,c)
def HC.k:=cn 182 Rq P5 λ(a,b,c,d)=>HC (a,b,c,d)
def lJ.k:=cn 99 sh8 LU lJ
def iQ.k:=cn 164 ER IA λ(a,b,c,d,e,f,g,h,i,j)=>iQ (a,b,c,d,e,f,g,h,i,j)
def GQ.k:=cn 154 ⟨[(0,.one (.var (.sl C5)))],[]⟩ ⟨[e7],[(0,FP)]⟩ GQ
def wL.k:=cn 280 ⟨[(0,Ud)],[]⟩ ⟨[e7],[o10]⟩ wL
def KU.k:=cn 281 IC Nk KU
def gO.k:=cn 186 Iz Kc λ(a,b,c,d,e,f,g,h,i)=>gO (a,b,c,d,e,f,g,h,i)
def uN.k:=cn 155 ⟨[(0,.one (.var (.sl B7)))],[]⟩ ⟨[e7],[(0,G5)]⟩ uN
def HE.k:=cn 249 Uc P4 λ(a,b,c,d)=>HE (a,b,c,d)
def uG.k:=cn 156 ⟨[(0,cG6)],[]⟩ ⟨[e7],[(0,Hr)]⟩ uG
def sX.k:=cn 88 E5 Pu λ(a,b,c,d,e,f,g,h,i,j,k,l,m)=>sX ((a,b),(c,d),(e,f,g),h,i,j,k,l,m)
def cN.k:=cn 185 Uo sh1 λ(a,b,c)=>cN (a,b,c)
def lU.k:=cn 352 Pn sh1 λ(a,b,c,d,e)=>lU (a,b,c,d,e)
def wV.k:=cn 353 ⟨[e43,(1,ag9)],[]⟩ UF λ(a,b,c,d,e,f)=>wV a (b,c,d,e,f)
def HY.k:=cn 355 ⟨[e42,e1,e5,e6],[]⟩ sh1 λ(a,b,c,d,e,f,g,h)=>HY (a,b,c,d,e) f g h
def nH.k:=cn 354 cA4 sh2 λ(a,b,c,d)=>nH a b c d
def jN.k:=cn 250 ⟨[e43,e1,e5],[]⟩ sh1 λ(a,b,c)=>jN a b c
def iB.k:=cn 251 U9 sh2 λ(a,b,c,d,e)=>iB a b c d e
def Fe.k:=cn 149 sh6 sh2 λ(a,b)=>Fe a b
def wE.k:=cn 252 U9 sh2 λ(a,b,c,d,e)=>wE a b c d e
def sH.k:=cn 253 ⟨[(0,.one (.var (.sl CW))),e1,e5,e6],[]⟩ sh2 λ(a,b,c,d)=>sH a b c d
def pE.k:=cn 157 Ul sh1 λ(a,b,c,d)=>pE (a,b,c) d
def KL.k:=cn 158 E5 sh1 λ(a,b,c,d,e,f,g,h,i,j,k,l,m)=>KL ((a,b),(c,d),(e,f,g),h,i,j,k,l,m)
def nC.k:=cn 102 Iz sh1 λ(a,b,c,d,e,f,g,h,i)=>nC (a,b,c,d,e,f,g,h,i)
def xG.k:=cn 159 Uc sh1 λ(a,b,c,d)=>xG (a,b,c,d)
def Ms.k:=cn 254 cAr sh1 λ(a,b)=>Ms a b
def oW.k:=cn 160 cDs sh1 λ(a,b,c,d,e,f,g,h,i,j,k,l,m)=>oW (a,b,c,d,e,f,g,h,i) (j,k,l,m)
def mW.k:=cn 104 cAq sh2 λ(a,b,c)=>mW a b c
def gT.k:=cn 89 E5 sh1 λ(a,b,c,d,e,f,g,h,i,j,k,l,m)=>gT ((a,b),(c,d),(e,f,g),h,i,j,k,l,m)
def iP.k:=cn 356 ⟨[e43,e1],[]⟩ UF λ(a,b)=>iP a b
def Mu.k:=cn 255 Ul Nj λ(a,b,c,d)=>Mu (a,b,c) d
def fG.k:=cn 279 sh2 sh1 fG
def gV.k:=cn 183 Ns sh2 λ(a,b,c,d,e)=>gV (a,b,c,d) e
def fF.k:=cn 184 Ns sh2 λ(a,b,c,d,e)=>fF (a,b,c,d) e
def gM.k:=cn 100 sh8 ⟨[e7],[(0,P0)]⟩ gM
def Kq.k:=cn 248 sh8 sh6 Kq
def kS.k:=cn 151 cA7 IA λ(a,b,c,d,e)=>kS a b c d e
def eZ.k:=cn 83 Iz Pd λ(a,b,c,d,e,f,g,h,i)=>eZ (a,b,c,d,e,f,g,h,i)
def HF.k:=cn 357 Iz Kc λ(a,b,c,d,e,f,g,h,i)=>HF (a,b,c,d,e,f,g,h,i)
def KC.k:=cn 256 Iz cDy λ(a,b,c,d,e,f,g,h,i)=>KC (a,b,c,d,e,f,g,h,i)
def vV.k:=cn 163 P3 EP λ(a,b,c,d,e,f,g,h,i,j,k,l,m,n,o,p,q,r,s,t,u,v,w,x,y)=>vV ((m,n),(o,p),(q,r,s),t,u,w,x,y,v) a b (c,d,e,f,g,h,i,j,k,l)
def Jg.k:=cn 454 ⟨[e7,e1],[(0,.row 3 1 ti W)]⟩ sh9 λ(a,b)=>Jg b a
def wW.k:=cn 365 Hv sh9 λ(a,b,c)=>wW (a,b) c
def wT.k:=cn 366 sh6 sh2 λ(a,b)=>wT a b
def dJ.k:=cn 258 ⟨[e4,e51,e5],[]⟩ sh2 λ(a,b,c,d)=>dJ (a,b) c d
def Kz.k:=cn 491 FO sh1 λ(a,b,c)=>Kz (a,b,c)
def qU.k:=cn 450 sh8 sh1 qU
def vJ.k:=cn 358 ER sh1 λ(a,b,c,d,e,f,g,h,i,j)=>vJ (a,b,c,d,e,f,g,h,i,j)
def Kx.k:=cn 460 Rq sh9 λ(a,b,c,d)=>Kx (a,b,c,d)
def zQ.k:=cn 374 UE sh1 λ(a,b,c,d,e,f)=>zQ (a,b) (c,d,e,f)
def IN.k:=cn 375 sh2 sh2 IN
def oT.k:=cn 274 LM sh1 λ(a,b,c)=>oT (a,b) c
def jC.k:=cn 275 sh8 sh9 jC
def oU.k:=cn 175 LM sh1 λ(a,b,c)=>oU (a,b) c
def gA.k:=cn 359 ER sh2 λ(a,b,c,d,e,f,g,h,i,j)=>gA (a,b,c,d,e,f,g,h,i,j)
def Fz.k:=cn 360 ⟨[e2,e39],[]⟩ cDd λ(a,b,c,d,e,f,g,h,i,j,k)=>Fz a (b,c,d,e,f,g,h,i,j,k)
def HM.k:=cn 490 sh6 sh2 λ(a,b)=>HM a b
def lE.k:=cn 451 ⟨[e4,e39],[]⟩ Pd λ(a,b,c,d,e,f,g,h,i,j,k,l)=>lE (a,b) (c,d,e,f,g,h,i,j,k,l)
def rN.k:=cn 177 ⟨[e42,e1],[]⟩ sh1 λ(a,b,c,d,e,f)=>rN (a,b,c,d,e) f
def nR.k:=cn 452 Zl sh1 λ(a,b,c,d,e,f,g,h,i,j,k)=>nR (a,b,c,d,e,f,g,h,i,j) k
def uZ.k:=cn 361 cB8 ⟨[e32,e1],[o8,o13]⟩ λ(a,b,c,d,e,f,g,h,i,j,k,l,m)=>uZ (a,b) c (d,e,f,g,h,i,j,k,l,m)
def rI.k:=cn 363 ER sh1 λ(a,b,c,d,e,f,g,h,i,j)=>rI (a,b,c,d,e,f,g,h,i,j)
def kL.k:=cn 362 ER IA λ(a,b,c,d,e,f,g,h,i,j)=>kL (a,b,c,d,e,f,g,h,i,j)
def oR.k:=cn 453 sh6 sh1 λ(a,b)=>oR a b
def vR.k:=cn 364 ⟨[e4,e85],[]⟩ sh1 λ(a,b,c,d,e)=>vR (a,b) (c,d,e)
def nO.k:=cn 257 Z7 cDd λ(a,b,c,d,e,f,g,h,i,j,k,l,m,n,o,p)=>nO (a,b) c d e f (g,h,i,j,k,l,m,n,o,p)
def HN.k:=cn 455 Pq sh1 λ(a,b,c,d,e,f,g,h,i,j,k,l,m,n)=>HN (a,b,c,d) (e,f,g,h,i,j,k,l,m,n)
def uM.k:=cn 367 Pq P4 λ(a,b,c,d,e,f,g,h,i,j,k,l,m,n)=>uM (a,b,c,d) (e,f,g,h,i,j,k,l,m,n)
def sF.k:=cn 448 sh2 sh2 sF
def kT.k:=cn 449 Ns sh2 λ(a,b,c,d,e)=>kT (a,b,c,d) e
def vN.k:=cn 351 Rq P5 λ(a,b,c,d)=>vN (a,b,c,d)
def jX.k:=cn 247 sh8 LU jX
def Lp.k:=cn 456 cDe IA λ(a,b,c,d,e,f,g,h,i,j,k,l,m)=>Lp (a,b,c,d,e,f,g,h,i,j) k l m
def Jc.k:=cn 368 Pq Pd λ(a,b,c,d,e,f,g,h,i,j,k,l,m,n)=>Jc (a,b,c,d) (e,f,g,h,i,j,k,l,m,n)
def wI.k:=cn 369 ⟨[e28,e39],[]⟩ Kc λ(a,b,c,d,e,f,g,h,i,j,k,l,m,n,o,p,q,r,s)=>wI (a,b,c,d,e,f,g,h,i) (j,k,l,m,n,o,p,q,r,s)
def xD.k:=cn 500 Rg ⟨[e2,e1,e14],[]⟩ λ(a,b)=>xD a b
def xF.k:=cn 493 ⟨[e24,e1,e5],[]⟩ cDq λ(a,b,c)=>xF a b c
def lR.k:=cn 458 GC ⟨[e84,e19],[]⟩ lR
def xQ.k:=cn 380 ⟨[e22,e85],[]⟩ sh1 λ(a,b,c,d)=>xQ a (b,c,d)
def qR.k:=cn 459 ⟨[e59,e85],[]⟩ ⟨[e59],[]⟩ λ(a,b,c,d)=>qR a (b,c,d)
def lZ.k:=cn 373 ⟨[e28,e39,e5],[]⟩ ⟨[(0,.agg [.var ti,.var ti,.var ti,.var ti,.row 0,.row 1,.var ti,.var ti,.var (.sl CI)])],[o10,o19]⟩ λ(a,b,c,d,e,f,g,h,i,j,k,l,m,n,o,p,q,r,s,t)=>lZ (a,b,c,d,e,f,g,h,i) (j,k,l,m,n,o,p,q,r,s) t
def sN.k:=cn 265 TU EP λ(a,b,c,d,e,f,g,h,i,j,k,l,m,n,o,p,q,r,s,t,u,v,w,x)=>sN ((l,m),(n,o),(p,q,r),s,t,v,w,x,u) a (b,c,d,e,f,g,h,i,j,k)
def zO.k:=cn 259 TU EP λ(a,b,c,d,e,f,g,h,i,j,k,l,m,n,o,p,q,r,s,t,u,v,w,x)=>zO ((l,m),(n,o),(p,q,r),s,t,v,w,x,u) a (b,c,d,e,f,g,h,i,j,k)
def wG.k:=cn 370 UM sh2 λ(a,b,c,d,e,f)=>wG (a,b,c) d e f
def IY.k:=cn 371 UM Nj λ(a,b,c,d,e,f)=>IY (a,b,c) d e f
def zK.k:=cn 261 Ze cBr λ(a,b,c,d,e,f,g)=>zK (a,b,c) d e f g
def HJ.k:=cn 263 ER sh2 λ(a,b,c,d,e,f,g,h,i,j)=>HJ (a,b,c,d,e,f,g,h,i,j)
def kI.k:=cn 264 ER YU λ(a,b,c,d,e,f,g,h,i,j)=>kI (a,b,c,d,e,f,g,h,i,j)
def sS.k:=cn 492 Rg Rj λ(a,b)=>sS a b
def wU.k:=cn 457 N4 Rj wU
def mA.k:=cn 372 Uo Rj λ(a,b,c)=>mA (a,b,c)
def jB.k:=cn 262 cBo IA λ(a,b,c,d,e,f,g,h,i,j,k,l,m,n,o)=>jB (a,b) c d e (f,g,h,i,j,k,l,m,n,o)
def jZ.k:=cn 163 P3 EP λ(a,b,c,d,e,f,g,h,i,j,k,l,m,n,o,p,q,r,s,t,u,v,w,x,y)=>jZ ((m,n),(o,p),(q,r,s),t,u,w,x,y,v) a b (c,d,e,f,g,h,i,j,k,l)
def nJ.k:=cn 259 TU EP λ(a,b,c,d,e,f,g,h,i,j,k,l,m,n,o,p,q,r,s,t,u,v,w,x)=>nJ ((l,m),(n,o),(p,q,r),s,t,v,w,x,u) a (b,c,d,e,f,g,h,i,j,k)
def fQ.k:=cn 163 P3 EP λ(a,b,c,d,e,f,g,h,i,j,k,l,m,n,o,p,q,r,s,t,u,v,w,x,y)=>fQ ((m,n),(o,p),(q,r,s),t,u,w,x,y,v) a b (c,d,e,f,g,h,i,j,k,l)
def Je.k:=cn 161 Ut Pe λ(a,b,c,d,e,f,g,h,i,j,k,l,m)=>Je ((a,b),(c,d),(e,f,g),h,i,k,l,m,j)
def sQ.k:=cn 162 Ur cCm λ(a,b,c,d,e,f,g,h,i,j,k,l,m,n)=>sQ ((b,c),(d,e),(f,g,h),i,j,l,m,n,k) a
def KQ.k:=cn 165 ⟨[e11,e1,e14],[o4,o2,o1,o3]⟩ Pe λ(a,b,c,d,e,f,g,h,i,j,k,l,m,n,o)=>KQ ((c,d),(e,f),(g,h,i),j,k,m,n,o,l) a b
def KO.k:=cn 267 cDx cDi λ(a,b,c,d,e,f,g,h,i,j)=>KO (a,b,c,d,e,f,g,h,i) j
def xZ.k:=cn 270 FO sh2 λ(a,b,c)=>xZ (a,b,c)
def eR.k:=cn 171 ⟨[e44,e1],[]⟩ Pg λ(a,b,c)=>eR (a,b) c
def tN.k:=cn 268 Ph sh2 λ(a,b,c,d)=>tN (a,b,c) d
def eH.k:=cn 269 ⟨[e15,e1,e5],[]⟩ P5 λ(a,b,c,d,e)=>eH (a,b,c) d e
def pC.k:=cn 272 YW Pg λ(a,b,c,d)=>pC (a,b) c d
def rP.k:=cn 273 cCr LU λ(a,b,c,d,e,f,g,h,i,j)=>rP (a,b,c) (d,e,f) g (h,i,j)
def iI.k:=cn 173 cEf Nk λ(a,b,c,d,e,f,g,h,i,j)=>iI (a,b) (c,d,e) f g (h,i,j)
def yX.k:=cn 170 YW Nk λ(a,b,c,d)=>yX (a,b) c d
def KN.k:=cn 271 Ru LU λ(a,b,c,d,e,f)=>KN (a,b,c) (d,e,f)
def vA.k:=cn 172 Ru LU λ(a,b,c,d,e,f)=>vA (a,b,c) (d,e,f)
def qD.k:=cn 95 TX Nk λ(a,b,c,d,e,f)=>qD (a,b) (c,d) e f
def KR.k:=cn 376 Ns sh2 λ(a,b,c,d,e)=>KR (a,b,c,d) e
def tP.k:=cn 276 UE sh1 λ(a,b,c,d,e,f)=>tP (a,b) (c,d,e,f)
def uT.k:=cn 176 LM sh1 λ(a,b,c)=>uT (a,b) c
def tR.k:=cn 96 ⟨[e4,e26,e5],[]⟩ sh1 λ(a,b,c,d)=>tR (a,b) c d
def xC.k:=cn 277 Px sh1 λ(a,b,c,d,e,f,g,h)=>xC (a,b,c,d) (e,f,g,h)
def uK.k:=cn 178 Uv sh1 λ(a,b)=>uK a b
def Jd.k:=cn 97 ⟨[e37,e26],[]⟩ sh1 λ(a,b)=>Jd a b
def fO.k:=cn 49 cCx IC λ(a,b,c,d,e,f,g)=>fO (a,b) (c,d) e f g
def rH.k:=cn 179 sh8 sh2 rH
def pD.k:=cn 180 sh8 sh2 pD
def tV.k:=cn 181 sh8 sh2 tV
def xN.k:=cn 98 Uv sh1 λ(a,b)=>xN a b
def tJ.k:=cn 50 IC IC tJ
def jP.k:=cn 379 ⟨[e59,e1],[]⟩ U8 λ(a,b)=>jP a b
def IX.k:=cn 282 ⟨[e59,e26,e5],[]⟩ sh1 λ(a,b,c)=>IX a b c
def nU.k:=cn 187 cBg Nk λ(a,b,c)=>nU a b c
def uE.k:=cn 105 cDr ⟨[(0,.agg [.var ti,.var ti,.var ti,.var ti,.row 0,.var (.sl B4),.var ti,.var ti,.row 1])],[o10,(1,IB)]⟩ λ(a,b,c,d,e,f,g,h,i,j,k)=>uE (a,b,c,d,e,f,g,h,i) j k
def KK.k:=cn 166 Yc Pe λ(a,b,c,d,e,f,g,h,i,j,k,l,m,n,o,p,q,r,s,t,u,v,w,x,y,z,A,B)=>KK ((p,q),(r,s),(t,u,v),w,x,z,A,B,y) (a,b,c,(d,e,(f,g,h,i,j,k,l,m,n,o)))
def qC.k:=cn 90 Yc Pe λ(a,b,c,d,e,f,g,h,i,j,k,l,m,n,o,p,q,r,s,t,u,v,w,x,y,z,A,B)=>qC ((p,q),(r,s),(t,u,v),w,x,z,A,B,y) (a,b,c,(d,e,(f,g,h,i,j,k,l,m,n,o)))
def rL.k:=cn 46 ⟨[e20,e78],[]⟩ ⟨[(0,cKg),e19],[o2,o1,o3]⟩ λ(a,b,c,d,e,f,g,h,i,j,k,l,m,n,o,p,q,r,s,t,u,v,w,x,y,z,A,B)=>rL ((a,b),(c,d),(e,f,g),h,i,j,k,l,m) (n,o,p,(q,r,(s,t,u,v,w,x,y,z,A,B)))
def Fy.k:=cn 47 sh1 sh5 Fy
def sD.k:=cn 25 ⟨[e11,e78],[o14,o5]⟩ Mg λ(a,b,c,d,e,f,g,h,i,j,k,l,m,n,o,p,q,r,s,t,u,v,w,x,y,z,A,B,C,D,E,F,G,H)=>sD ((p,q),H,(r,s),t,((u,v),(w,x),(y,z,A),B,C,D,E,F,G)) (a,b,c,(d,e,(f,g,h,i,j,k,l,m,n,o)))
def iZ.k:=cn 80 E5 sh2 λ(a,b,c,d,e,f,g,h,i,j,k,l,m)=>iZ ((a,b),(c,d),(e,f,g),h,i,j,k,l,m)
def Jq.k:=cn 245 Ur EP λ(a,b,c,d,e,f,g,h,i,j,k,l,m,n)=>Jq ((b,c),(d,e),(f,g,h),i,j,l,m,n,k) a
def zG.k:=cn 148 Ut EP λ(a,b,c,d,e,f,g,h,i,j,k,l,m)=>zG ((a,b),(c,d),(e,f,g),h,i,k,l,m,j)
def rX.k:=cn 79 Yi cBs λ(a,b,c,d,e,f,g,h,i,j,k,l,m,n)=>rX ((a,b),(c,d),(e,f,g),h,i,j,k,l,m) n
def Jn.k:=cn 37 E5 cBs λ(a,b,c,d,e,f,g,h,i,j,k,l,m)=>Jn ((a,b),(c,d),(e,f,g),h,i,j,k,l,m)
def K3.k:=cn 81 E5 sh9 λ(a,b,c,d,e,f,g,h,i,j,k,l,m)=>K3 ((a,b),(c,d),(e,f,g),h,i,j,k,l,m)
def jI.k:=cn 38 E5 sh5 λ(a,b,c,d,e,f,g,h,i,j,k,l,m)=>jI ((a,b),(c,d),(e,f,g),h,i,j,k,l,m)
def yY.k:=cn 350 cC7 ⟨[(0,.agg [.var ti,.row 0,.var ti,.var ti,.var ti,.row 1,.var ti,.var ti,.var ti,.var ti,.var ti,.row 2])],[(0,P0),(1,ow7),(2,ow9)]⟩ λ(a,b,c,d,e,f,g,h,i,j,k,l,m,n)=>yY (a,b) c d (e,f,g,h,i,j,k,l,m,n)
def IS.k:=cn 246 cB1 sh1 λ(a,b,c,d,e)=>IS (a,b) c d e
def Jf.k:=cn 150 ⟨[e20,e26,e5],[]⟩ sh1 λ(a,b,c,d,e,f,g,h,i,j,k,l,m,n,o)=>Jf ((a,b),(c,d),(e,f,g),h,i,j,k,l,m) n o
def vP.k:=cn 82 Us sh2 λ(a,b,c,d,e,f,g,h,i,j,k,l,m,n,o,p,q,r,s,t,u,v)=>vP ((a,b),(c,d),(e,f,g),h,i,j,k,l,m) (n,o,p,q,r,s,t,u,v)
def pU.k:=cn 40 E5 sh1 λ(a,b,c,d,e,f,g,h,i,j,k,l,m)=>pU ((a,b),(c,d),(e,f,g),h,i,j,k,l,m)
def Jj.k:=cn 39 sh1 sh5 Jj
def Jt.k:=cn 41 E5 sh1 λ(a,b,c,d,e,f,g,h,i,j,k,l,m)=>Jt ((a,b),(c,d),(e,f,g),h,i,j,k,l,m)
def qG.k:=cn 101 Hv sh5 λ(a,b,c)=>qG (a,b) c
def jS.k:=cn 152 LY sh5 λ(a,b,c,d)=>jS (a,b) c d
def xJ.k:=cn 84 Hv sh5 λ(a,b,c)=>xJ (a,b) c
def mG.k:=cn 42 P2 sh5 λ(a,b)=>mG (a,b)
def zL.k:=cn 21 cBk Mg λ(a,b,c,d,e,f,g,h,i,j,k,l,m,n,o,p,q,r,s,t)=>zL ((b,c),t,(d,e),f,((g,h),(i,j),(k,l,m),n,o,p,q,r,s)) a
def wH.k:=cn 24 sh5 ⟨[e2,e19],[]⟩ wH
def HI.k:=cn 22 YJ ⟨[e7,e19],[o11]⟩ HI
def HH.k:=cn 23 ⟨[e11,e51,(2,vr4)],[o14,o5]⟩ Mg λ(a,b,c,d,e,f,g,h,i,j,k,l,m,n,o,p,q,r,s,t,u)=>HH ((c,d),u,(e,f),g,((h,i),(j,k),(l,m,n),o,p,q,r,s,t)) a b
def K6.k:=cn 91 ⟨[e11,e1,e14],[o14,o5]⟩ Mg λ(a,b,c,d,e,f,g,h,i,j,k,l,m,n,o,p,q,r,s,t,u)=>K6 ((c,d),u,(e,f),g,((h,i),(j,k),(l,m,n),o,p,q,r,s,t)) a b
def sU.k:=cn 168 sh2 Nj sU
def rW.k:=cn 92 TX Pu λ(a,b,c,d,e,f)=>rW (a,b) (c,d) e f
def Jl.k:=cn 93 Yi sh5 λ(a,b,c,d,e,f,g,h,i,j,k,l,m,n)=>Jl ((a,b),(c,d),(e,f,g),h,i,j,k,l,m) n
def cI.k:=cn 169 sh2 sh5 cI
def KG.k:=cn 94 sh5 sh2 KG
def Le.k:=cn 48 ⟨[e11,e62,e5],[o14,o5]⟩ Mg λ(a,b,c,d,e,f,g,h,i,j,k,l,m,n,o,p,q,r,s,t,u)=>Le ((c,d),u,(e,f),g,((h,i),(j,k),(l,m,n),o,p,q,r,s,t)) a b
def uI.k:=cn 51 LM sh5 λ(a,b,c)=>uI (a,b) c
def KF.k:=cn 53 Ui Kc λ(a,b,c)=>KF a b c
def Mx.k:=cn 106 sh6 P4 λ(a,b)=>Mx a b
def wY.k:=cn 52 Us ⟨[e64,e19],[o28,o29,o36,o37,o38,o39,o23,o40,(8,ow2),o41]⟩ λ(a,b,c,d,e,f,g,h,i,j,k,l,m,n,o,p,q,r,s,t,u,v)=>wY ((a,b),(c,d),(e,f,g),h,i,j,k,l,m) (n,o,p,q,r,s,t,u,v)
def oK.k:=cn 26 ⟨[e11,e62,(2,vr7)],[o14,o5]⟩ Mg λ(a,b,c,d,e,f,g,h,i,j,k,l,m,n,o,p,q,r,s,t,u)=>oK ((c,d),u,(e,f),g,((h,i),(j,k),(l,m,n),o,p,q,r,s,t)) a b
def qV.k:=cn 11 cBk Mg λ(a,b,c,d,e,f,g,h,i,j,k,l,m,n,o,p,q,r,s,t)=>qV ((b,c),t,(d,e),f,((g,h),(i,j),(k,l,m),n,o,p,q,r,s)) a
def zP.k:=cn 5 sh5 sh5 zP
def l_FnBench.k:=cn 4 GC sh1 l_FnBench
end

end Go.Proofs.YtjpmmodjpaabpaaGreat
