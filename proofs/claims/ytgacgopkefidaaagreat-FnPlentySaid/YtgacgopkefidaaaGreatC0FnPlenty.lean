/-
  Contracts of the functions of the program. Conditions: none.
-/
import Derived.Test.YtgacgopkefidaaaGreatT0FnPlenty
import Derived.Test.YtgacgopkefidaaaGreatProg
import Derived.KernelRfl
set_option linter.unusedVariables false
set_option linter.unusedSimpArgs false
set_option maxRecDepth 100000
namespace Go.Proofs.YtgacgopkefidaaaGreat
open Go.Ab Go.V
noncomputable section
theorem follows:Tryz.prog.follows .mixedOrders=true:=by kernel_rfl
theorem _root_.Go.V.Con.Ok.c {P:Program} {c:Con} {E:List Con} (h:c.Ok P) (k:AllOk P E):AllOk P (c::E):=⟨h,k⟩
theorem fk {E:List Con} {c:Con} {fn:Func} (hf:Tryz.prog.funcs[c.f]? =some fn) (k:AllOk Tryz.prog E) (pl:Plan) (e: ∀ x,evFn Tryz.prog E fn pl c.pre c.post x=c.sem x:=by intro x;kernel_rfl) (hn:(fn.name=="runtime.NumGoroutine")=false:=by rfl):c.Ok Tryz.prog:=fn_ok hf hn follows (AllOk.mem k) fun x y h=>(e x).trans h
theorem nok:AllOk Tryz.prog []:=trivial
def ow1:OT:= .row 104 9 tFl false
def ow2:OT:= .row 75 1 tPt true
def ow3:OT:= .row 3 1 ti true
def ow4:OT:= .row 79 12 tFy false
def ow5:OT:= .row 94 3 tSg true
def ow6:OT:= .row 208 4 tPp true
def ow7:OT:= .row 156 4 tIb false
def ow8:OT:= .row 5 1 tb true
def ow9:OT:= .row 65 5 tRs true
def ow10:OT:= .row 128 3 tAS true
def ow11:OT:= .row 50 5 tLk true
def ow12:OT:= .row 150 1 tMs true
def ow13:OT:= .row 138 5 tHop true
def ow14:OT:= .row 53 4 tUs true
def ow15:OT:= .row 87 3 tRv true
def ow16:OT:= .row 79 12 tFy true
def ow17:OT:= .row 156 4 tIb true
def ow18:OT:= .row 162 3 tStep true
def ow19:OT:= .row 104 9 tFl true
def ow20:OT:= .row 75 1 tPt false
def ow21:OT:= .row 81 15 tEvent false
def ow22:OT:= .row 208 4 tPp false
def ob1:OT:= .box [.var (.sl tb),.var ti,.var ti]
def ob2:OT:= .box [.var (.sl tAS),.var (.sl tLk),.var (.sl tSg),.var (.sl tSg),.var ti,.var (.sl tRs),.var (.sl tUs),.var ti,.var (.sl ti),.row 0,.row 1,.row 2,.var ti]
def ob3:OT:= .box [.row 300001]
def ob4:OT:= .box [.var (.sl tAS),.var (.sl tLk),.var (.sl tSg),.var (.sl tSg),.var ti,.var (.sl tRs),.var (.sl tUs),.var ti,.var (.sl ti),.row 300001,.row 300002,.row 300003,.var ti]
def ob5:OT:= .box [.row 300001,.row 300003]
def ob6:OT:= .box [.var (.sl tAS),.var (.sl tLk)]
def ob7:OT:= .box [.var ti,.var ti,.var ti,.row 300001]
def ob8:OT:= .box [.var ti,.var ti,.row 300003]
def ob9:OT:= .box [.row 300005]
def ob10:OT:= .box [.row 300001,.nil]
def ob11:OT:= .box [.var ti,.var ti,.row 300004]
def ob12:OT:= .box [.var ti,.var ti,.row 300001]
def ob13:OT:= .box [.row 1160,.row 1208]
def ob14:OT:= .box [.var ti,.var ti,.var ti,.nil]
def ob15:OT:= .box [.var ti,.var ti,.var ti]
def ob16:OT:= .box [.row 300001,.row 300002]
def ob17:OT:= .box [.row 300007,.row 300008,.row 300009,.row 300010,.var ti,.row 300006,.row 300011,.var ti,.row 300012,.row 300013,.row 300014,.row 300015,.var ti]
def ob18:OT:= .box [.var ti,.var ti,.var ti,.var ti,.row 300003,.row 300004,.var ti,.var ti,.row 300005]
def ob19:OT:= .box [.var (.sl tPp)]
def ob20:OT:= .box [.var ti,.var ti,.var ti,.var (.sl tPp),.var ti,.var ti,.var ti,.var ti,.var ti,.row 1161]
def ob21:OT:= .box [.var ti,.var ti,.var ti,.row 300001,.var ti,.var ti,.var ti,.var ti,.var ti,.row 300002]
def ob22:OT:= .box [.var ti,.var ti,.var ti,.row 1544]
def ob23:OT:= .box [.var ti,.var ti,.var ti,.var ti,.row 2312,.row 2313,.var ti,.var ti,.row 2314]
def ob24:OT:= .box [.var ti,.var ti,.var ti,.var (.sl tPp),.var ti,.var ti,.var ti,.var ti,.var ti,.var (.sl tb)]
def ob25:OT:= .box [.var ti,.var ti,.var ti,.var ti,.var ti,.row 1560,.var ti,.var ti,.var ti,.var ti,.var ti,.row 1561]
def ob26:OT:= .box [.var ti,.row 2152,.row 2153]
def ob27:OT:= .box [.var (.sl tAS),.var (.sl tLk),.var (.sl tSg),.var (.sl tSg),.var ti,.row 2152,.row 2153,.var ti,.var (.sl ti),.row 0,.row 1,.row 2,.var ti]
def ob28:OT:= .box [.var ti,.var ti,.var ti,.row 2904,.var ti,.var ti,.var ti,.var ti,.var ti,.row 2905]
def ob29:OT:= .box [.var ti,.var ti,.nil,.var ti,.var ti,.var ti,.var ti,.var ti,.var (.sl tPp),.var ti,.var ti,.var ti,.var ti,.var ti,.row 300001]
def ag1:ST:= .agg [.var (.sl tAS),.var (.sl tLk)]
def ag2:ST:= .agg [.var ti,.var ti,.var (.sl tHop)]
def ag3:ST:= .agg [.var ti,.var ti,.var ti,.var (.sl tPp),.var ti,.var ti,.var ti,.var ti,.var ti,.var (.sl tb)]
def ag4:ST:= .agg [.var (.sl tPp)]
def ag5:ST:= .agg [.var ti,.var ti,.var ti,.var ti,.var ti]
def ag6:ST:= .agg [.var ti,.var ti,.var ti,.var (.sl tHop)]
def ag7:ST:= .agg [.var (.sl tSg),.var (.sl tSg)]
def ag8:ST:= .agg [.var ti,.var ti,.var ti,.var ti,.var (.sl tMs),.var (.sl tPt),.var ti,.var ti,.var (.sl tRv)]
def ag9:ST:= .agg [.var ti,.var ti,.var ti,.row 0,.var ti,.var ti,.var ti,.var ti,.var ti,.row 1]
def ag10:ST:= .agg [.var ti,.var (.sl tRs),.var (.sl tUs)]
def ag11:ST:= .agg [.var ti,.var ti,.var ti]
def ag12:ST:= .agg [.var ti,.var ti,.var ti,.var ti,.row 0,.row 1,.var ti,.var ti,.row 2]
def ag13:ST:= .agg [.var ti,.var ti,.var ti,.row 0]
def ag14:ST:= .agg [.row 0]
def ag15:ST:= .agg [.var ti,.row 0,.row 1]
def ag16:ST:= .agg [.row 0,.row 1,.row 2,.row 3,.var ti,.row 4,.row 5,.var ti,.row 6,.row 7,.row 8,.row 9,.var ti]
def ag17:ST:= .agg [.var ti,.var ti,.var ti,.var (.sl tMs)]
def ag18:ST:= .agg [.var (.sl tAS),.var (.sl tLk),.var (.sl tSg),.var (.sl tSg),.var ti,.var (.sl tRs),.var (.sl tUs),.var ti,.var (.sl ti),.var (.sl tFy),.var (.sl tFl),.var (.sl tIb),.var ti]
def ag19:ST:= .agg [.row 0,.row 1]
def ag20:ST:= .agg [.var ti,.var ti,.row 0]
def ag21:ST:= .agg [.var ti,.var ti,.var (.sl tb),.var ti,.var ti,.var ti,.var ti,.var ti,.var (.sl tPp),.var ti,.var ti,.var ti,.var ti,.var ti,.var (.sl tb)]
def ag22:ST:= .agg [.var ti,.var ti,.var ti,.var ti,.var ti,.row 0,.var ti,.var ti,.var ti,.var ti,.var ti,.row 1]
def ag23:ST:= .agg [.var (.sl tAS),.var (.sl tLk),.var (.sl tSg),.var (.sl tSg),.var ti,.var (.sl tRs),.var (.sl tUs),.var ti,.var (.sl ti),.row 1001109,.row 1001110,.row 1001111,.var ti]
def ag24:ST:= .agg [.var (.sl tAS),.var (.sl tLk),.var (.sl tSg),.var (.sl tSg),.var ti,.var (.sl tRs),.var (.sl tUs),.var ti,.var (.sl ti),.row 0,.row 1,.row 2,.var ti]
def vr1:ST:= .one (.var ti)
def vr2:ST:= .one (.var .bool)
def vr3:ST:= .one (.row 0)
def vr4:ST:= .one (.ptr 1000000 0)
def vr5:ST:= .one (.row 7)
def vr6:ST:= .one (.row 6)
def vr7:ST:= .one (.var (.sl ti))
def vr8:ST:= .one (.var (.sl tb))
def vr9:ST:= .one (.row 10)
def vr10:ST:= .one (.row 1624)
def vr11:ST:= .one (.var (.sl tRs))
def vr12:ST:= .one (.row 300001)
def vr13:ST:= .one (.row 15)
def vr14:ST:= .one (.var (.sl tPt))
def vr15:ST:= .one (.var (.sl tRv))
def vr16:ST:= .one (.row 5)
def vr17:ST:= .one (.ptr 7 0)
def vr18:ST:= .one (.row 14)
def vr19:ST:= .one (.ptr 11 0)
def vr20:ST:= .one (.row 16)
def vr21:ST:= .one (.row 127)
def vr22:ST:= .one (.var (.sl tSg))
def e1:Nat×ST:=(1,vr1)
def e2:Nat×ST:=(0,vr1)
def e3:Nat×ST:=(0,vr2)
def e4:Nat×ST:=(2,vr1)
def e5:Nat×ST:=(3,vr1)
def e6:Nat×ST:=(0,ag1)
def e7:Nat×ST:=(0,vr3)
def e8:Nat×ST:=(5,vr1)
def e9:Nat×ST:=(0,vr4)
def e10:Nat×ST:=(4,vr1)
def e11:Nat×ST:=(6,vr1)
def e12:Nat×ST:=(4,vr2)
def e13:Nat×ST:=(3,vr6)
def e14:Nat×ST:=(5,vr5)
def e15:Nat×ST:=(0,ag2)
def e16:Nat×ST:=(0,ag4)
def e17:Nat×ST:=(2,vr2)
def e18:Nat×ST:=(7,vr1)
def e19:Nat×ST:=(9,vr1)
def e20:Nat×ST:=(9,vr10)
def e21:Nat×ST:=(1,ag2)
def e22:Nat×ST:=(0,vr11)
def e23:Nat×ST:=(8,vr1)
def e24:Nat×ST:=(0,vr8)
def e25:Nat×ST:=(0,ag3)
def e26:Nat×ST:=(1,ag4)
def e27:Nat×ST:=(0,ag8)
def e28:Nat×ST:=(1,vr2)
def e29:Nat×ST:=(0,ag10)
def e30:Nat×ST:=(0,ag9)
def e31:Nat×ST:=(7,vr9)
def e32:Nat×ST:=(0,ag5)
def e33:Nat×ST:=(0,ag6)
def e34:Nat×ST:=(1,ag3)
def e35:Nat×ST:=(13,vr1)
def e36:Nat×ST:=(0,vr7)
def e37:Nat×ST:=(10,vr1)
def e38:Nat×ST:=(5,vr7)
def e39:Nat×ST:=(0,ag12)
def e40:Nat×ST:=(0,ag13)
def e41:Nat×ST:=(3,vr16)
def e42:Nat×ST:=(12,vr2)
def e43:Nat×ST:=(7,vr17)
def e44:Nat×ST:=(34,vr2)
def e45:Nat×ST:=(7,vr13)
def e46:Nat×ST:=(7,.one (.row 18))
def e47:Nat×ST:=(7,.one (.row 9))
def e48:Nat×ST:=(7,.one (.row 29))
def e49:Nat×ST:=(0,.one (.var (.sl tIb)))
def o1:Nat×OT:=(1000000,ob1)
def o2:Nat×OT:=(1,ow1)
def o3:Nat×OT:=(0,ow4)
def o4:Nat×OT:=(1000000,ob2)
def o5:Nat×OT:=(2,ow7)
def o6:Nat×OT:=(0,ow6)
def o7:Nat×OT:=(1,ow8)
def o8:Nat×OT:=(1624,ow2)
def o9:Nat×OT:=(0,ow12)
def o10:Nat×OT:=(300001,ow10)
def o11:Nat×OT:=(300001,ow6)
def o12:Nat×OT:=(15,ow2)
def o13:Nat×OT:=(0,ow3)
def o14:Nat×OT:=(0,ow9)
def o15:Nat×OT:=(6,ow3)
def o16:Nat×OT:=(300003,ow11)
def o17:Nat×OT:=(300002,ow1)
def o18:Nat×OT:=(3,ob5)
def o19:Nat×OT:=(300001,ow4)
def o20:Nat×OT:=(300003,ow7)
def o21:Nat×OT:=(0,ow10)
def o22:Nat×OT:=(1,ow11)
def o23:Nat×OT:=(1,ow2)
def o24:Nat×OT:=(0,ow8)
def o25:Nat×OT:=(3,ob3)
def o26:Nat×OT:=(0,ow13)
def o27:Nat×OT:=(2,ow15)
def o28:Nat×OT:=(300001,ow13)
def o29:Nat×OT:=(10,ow18)
def o30:Nat×OT:=(10,ow2)
def o31:Nat×OT:=(1000000,ob4)
def o32:Nat×OT:=(1001109,ow4)
def o33:Nat×OT:=(1001110,ow1)
def o34:Nat×OT:=(1001111,ow7)
def o35:Nat×OT:=(300001,ow3)
def o36:Nat×OT:=(300003,ow13)
def o37:Nat×OT:=(0,.row 128 3 tAS false)
def o38:Nat×OT:=(1,.row 50 5 tLk false)
def k0:Nat×ST:=(0,.keep)
def k1:Nat×ST:=(1,.keep)
def k2:Nat×ST:=(2,.keep)
def k3:Nat×ST:=(3,.keep)
def k4:Nat×ST:=(4,.keep)
def k5:Nat×ST:=(5,.keep)
def k6:Nat×ST:=(6,.keep)
def k7:Nat×ST:=(7,.keep)
def k8:Nat×ST:=(8,.keep)
def k9:Nat×ST:=(9,.keep)
def k10:Nat×ST:=(10,.keep)
def k11:Nat×ST:=(11,.keep)
def k12:Nat×ST:=(12,.keep)
def k13:Nat×ST:=(13,.keep)
def k14:Nat×ST:=(14,.keep)
def k15:Nat×ST:=(15,.keep)
def k16:Nat×ST:=(16,.keep)
def k17:Nat×ST:=(17,.keep)
def k18:Nat×ST:=(18,.keep)
def k21:Nat×ST:=(21,.keep)
def k22:Nat×ST:=(22,.keep)
def k23:Nat×ST:=(23,.keep)
def k37:Nat×ST:=(37,.keep)
def k38:Nat×ST:=(38,.keep)
def k39:Nat×ST:=(39,.keep)
def j0:Nat×OT:=(0,.keep)
def j1:Nat×OT:=(1,.keep)
def j2:Nat×OT:=(2,.keep)
def j3:Nat×OT:=(3,.keep)
def j4:Nat×OT:=(4,.keep)
def j5:Nat×OT:=(5,.keep)
def j6:Nat×OT:=(6,.keep)
def j7:Nat×OT:=(7,.keep)
def j8:Nat×OT:=(8,.keep)
def j9:Nat×OT:=(9,.keep)
def j10:Nat×OT:=(10,.keep)
def j11:Nat×OT:=(11,.keep)
def j12:Nat×OT:=(12,.keep)
def j14:Nat×OT:=(14,.keep)
def j15:Nat×OT:=(15,.keep)
def j16:Nat×OT:=(16,.keep)
def j26:Nat×OT:=(26,.keep)
def j29:Nat×OT:=(29,.keep)
def j1080:Nat×OT:=(1080,.keep)
def j1081:Nat×OT:=(1081,.keep)
def j1082:Nat×OT:=(1082,.keep)
def j1112:Nat×OT:=(1112,.keep)
def j1113:Nat×OT:=(1113,.keep)
def j1114:Nat×OT:=(1114,.keep)
def j1128:Nat×OT:=(1128,.keep)
def j1129:Nat×OT:=(1129,.keep)
def j1130:Nat×OT:=(1130,.keep)
def j1131:Nat×OT:=(1131,.keep)
def j1132:Nat×OT:=(1132,.keep)
def j1133:Nat×OT:=(1133,.keep)
def j1134:Nat×OT:=(1134,.keep)
def j1135:Nat×OT:=(1135,.keep)
def j1136:Nat×OT:=(1136,.keep)
def j1137:Nat×OT:=(1137,.keep)
def j1144:Nat×OT:=(1144,.keep)
def j1145:Nat×OT:=(1145,.keep)
def j1146:Nat×OT:=(1146,.keep)
def j1160:Nat×OT:=(1160,.keep)
def j1161:Nat×OT:=(1161,.keep)
def j1162:Nat×OT:=(1162,.keep)
def j1176:Nat×OT:=(1176,.keep)
def j1177:Nat×OT:=(1177,.keep)
def j1178:Nat×OT:=(1178,.keep)
def j1192:Nat×OT:=(1192,.keep)
def j1193:Nat×OT:=(1193,.keep)
def j1208:Nat×OT:=(1208,.keep)
def j1209:Nat×OT:=(1209,.keep)
def j1210:Nat×OT:=(1210,.keep)
def j1211:Nat×OT:=(1211,.keep)
def j1212:Nat×OT:=(1212,.keep)
def j1213:Nat×OT:=(1213,.keep)
def j1214:Nat×OT:=(1214,.keep)
def j1215:Nat×OT:=(1215,.keep)
def j1216:Nat×OT:=(1216,.keep)
def j1217:Nat×OT:=(1217,.keep)
def j1288:Nat×OT:=(1288,.keep)
def j1304:Nat×OT:=(1304,.keep)
def j1320:Nat×OT:=(1320,.keep)
def j1368:Nat×OT:=(1368,.keep)
def j1400:Nat×OT:=(1400,.keep)
def j1528:Nat×OT:=(1528,.keep)
def j1529:Nat×OT:=(1529,.keep)
def j1530:Nat×OT:=(1530,.keep)
def j1560:Nat×OT:=(1560,.keep)
def j1561:Nat×OT:=(1561,.keep)
def j1592:Nat×OT:=(1592,.keep)
def j1593:Nat×OT:=(1593,.keep)
def j1624:Nat×OT:=(1624,.keep)
def j1672:Nat×OT:=(1672,.keep)
def j1720:Nat×OT:=(1720,.keep)
def j1736:Nat×OT:=(1736,.keep)
def j1787:Nat×OT:=(1787,.keep)
def j1788:Nat×OT:=(1788,.keep)
def j1944:Nat×OT:=(1944,.keep)
def j2152:Nat×OT:=(2152,.keep)
def j2153:Nat×OT:=(2153,.keep)
def j2312:Nat×OT:=(2312,.keep)
def j2313:Nat×OT:=(2313,.keep)
def j2314:Nat×OT:=(2314,.keep)
def j2315:Nat×OT:=(2315,.keep)
def j2316:Nat×OT:=(2316,.keep)
def j2317:Nat×OT:=(2317,.keep)
def j2318:Nat×OT:=(2318,.keep)
def j2319:Nat×OT:=(2319,.keep)
def j2320:Nat×OT:=(2320,.keep)
def j2321:Nat×OT:=(2321,.keep)
def j300001:Nat×OT:=(300001,.keep)
def j300002:Nat×OT:=(300002,.keep)
def j300003:Nat×OT:=(300003,.keep)
def j300004:Nat×OT:=(300004,.keep)
def j300005:Nat×OT:=(300005,.keep)
def j300006:Nat×OT:=(300006,.keep)
def j300007:Nat×OT:=(300007,.keep)
def j300008:Nat×OT:=(300008,.keep)
def j300009:Nat×OT:=(300009,.keep)
def j300010:Nat×OT:=(300010,.keep)
def j300011:Nat×OT:=(300011,.keep)
def j300012:Nat×OT:=(300012,.keep)
def j300013:Nat×OT:=(300013,.keep)
def j300014:Nat×OT:=(300014,.keep)
def j300015:Nat×OT:=(300015,.keep)
def j1000000:Nat×OT:=(1000000,.keep)
def j1001109:Nat×OT:=(1001109,.keep)
def j1001110:Nat×OT:=(1001110,.keep)
def j1001111:Nat×OT:=(1001111,.keep)
def sh1:Sh:=⟨[e3],[]⟩
def sh2:Sh:=⟨[e2],[]⟩
def sh3:Sh:=⟨[],[]⟩
def sh4:Sh:=⟨[e12],[]⟩
def sh5:Sh:=⟨[e2,e1],[]⟩
def sh6:Sh:=⟨[e16],[]⟩
def sh7:Sh:=⟨[e17],[]⟩
def sh8:Sh:=⟨[e9],[o1]⟩
def sh9:Sh:=⟨[e7],[o13]⟩
def sh10:Sh:=⟨[e25],[]⟩
def sh11:Sh:=⟨[e15],[]⟩
def sh12:Sh:=⟨[],[o3,o2,o5,o4]⟩
def sh13:Sh:=⟨[e24],[]⟩
def sh14:Sh:=⟨[e9,e1],[o1]⟩
def sh15:Sh:=⟨[e36],[]⟩
def sh16:Sh:=⟨[e6,e21],[]⟩
def sh17:Sh:=⟨[(0,ag14)],[o6]⟩
def sh18:Sh:=⟨[e7],[(0,ow2)]⟩
def sh19:Sh:=⟨[e27],[]⟩
def sh20:Sh:=⟨[e30],[o6,o7]⟩
def sh21:Sh:=⟨[(6,vr2)],[]⟩
def sh22:Sh:=⟨[k2,k3,e8],[j2,j3]⟩
def sh23:Sh:=⟨[k1,e5],[j1]⟩
def sh24:Sh:=⟨[e2],[o1]⟩
def sh25:Sh:=⟨[e6,e1,e4],[]⟩
def sh26:Sh:=⟨[e32],[]⟩
def sh27:Sh:=⟨[(0,ag15)],[o14,(1,ow14)]⟩
def sh28:Sh:=⟨[e39],[o9,o23,o27]⟩
def sh29:Sh:=⟨[(0,vr14)],[]⟩
def sh30:Sh:=⟨[e33,e1],[]⟩
def sh31:Sh:=⟨[e22,e1,e4,e5,e10],[]⟩
def sh32:Sh:=⟨[e3],[o3,o2,o5,o4]⟩
def sh33:Sh:=⟨[k0,k1,e8],[]⟩
def sh34:Sh:=⟨[e24,e1],[]⟩
def sh35:Sh:=⟨[e6,e1],[]⟩
def sh36:Sh:=⟨[e2,e1,e4],[]⟩
def sh37:Sh:=⟨[e15,e1],[]⟩
def sh38:Sh:=⟨[e7],[(0,ow5)]⟩
def sh39:Sh:=⟨[e15,e21],[]⟩
def sh40:Sh:=⟨[e33],[]⟩
def sh41:Sh:=⟨[e40],[o26]⟩
def sh42:Sh:=⟨[(0,ag11)],[]⟩
def sh43:Sh:=⟨[e40],[o9]⟩
def sh44:Sh:=⟨[e6,e26],[]⟩
def sh45:Sh:=⟨[e30,e28],[o6,o7]⟩
def sh46:Sh:=⟨[e9,e1,e4,(3,ag3)],[o4,o3,o2,o5]⟩
def sh47:Sh:=⟨[(0,ag17),e34],[]⟩
def sh48:Sh:=⟨[e9,e1,(2,ag3)],[o4,o3,o2,o5]⟩
def sh49:Sh:=⟨[e29,e1,e4,e5],[]⟩
def sh50:Sh:=⟨[e7],[o24]⟩
def sh51:Sh:=⟨[k0,k1,e42],[]⟩
def sh52:Sh:=⟨[k1],[j1]⟩
def sh53:Sh:=⟨[e2,e1,e4,(3,ag5)],[]⟩
def sh54:Sh:=⟨[e6,(1,ag7),e4,e5],[]⟩
def sh55:Sh:=⟨[(0,ag16)],[o21,o22,(2,ow5),(3,ow5),(4,ow9),(5,ow14),o15,(7,ow16),(8,ow19),(9,ow17)]⟩
def sh56:Sh:=⟨[(0,ag7),e1,e4],[]⟩
def sh57:Sh:=⟨[e22,e1,e4,e5],[]⟩
def sh58:Sh:=⟨[(0,ag22)],[o6,o7]⟩
def sh59:Sh:=⟨[e29,e1,e4,e5,e10],[]⟩
def sh60:Sh:=⟨[e9,(1,ag21)],[o4,o3,o2,o5]⟩
def sh61:Sh:=⟨[e9,(1,ag23)],[o1,o32,o33,o34]⟩
def sh62:Sh:=⟨[k1,k2,(5,vr12),k6],[j2,o35]⟩
def sh63:Sh:=⟨[k0,k2,k3,k4,k8],[j2,o18,o10,o16,o1]⟩
def sh64:Sh:=⟨[k1,k2,k3,e18],[j3]⟩
def sh65:Sh:=⟨[k1,e41,e10],[j1,(5,ow3)]⟩
def sh66:Sh:=⟨[k2,k3,e38,e11],[j2,j3]⟩
def sh67:Sh:=⟨[k2,k3,k5,k6],[j2,j3]⟩
def sh68:Sh:=⟨[k2,k3],[j2,o25,o11]⟩
def sh69:Sh:=⟨[k1,k2,k3,e10],[j1,j2,o25,o11]⟩
def sh70:Sh:=⟨[k1,k2,k3,e45],[j3,o12]⟩
def sh71:Sh:=⟨[e13,k4,k5],[o15,j1128]⟩
def sh72:Sh:=⟨[k0,k3,k4,e8],[j300001]⟩
def sh73:Sh:=⟨[k0,k1,k5,k6,e43],[j0,j1,j2,j5,(7,ob22),(1544,ow12),j1000000]⟩
def sh74:Sh:=⟨[k0,k1,k5,e37],[j0,o2,j2,j5,j1000000]⟩
def sh75:Sh:=⟨[k0,k1,k5,k10],[j0,o2,j2,j5,j1000000]⟩
def sh76:Sh:=⟨[k0,k1,k5,k10,(11,vr19)],[j0,j1,j2,j5,(11,ob23),(2312,ow12),(2313,ow2),(2314,ow15),j1000000]⟩
def sh77:Sh:=⟨[e1,(5,vr6)],[(6,ow8)]⟩
def sh78:Sh:=⟨[k0,k1,k7,(8,.one (.ptr 8 0))],[j0,j1,j2,j7,(8,ob25),(1560,ow6),(1561,ow8),j1000000]⟩
def sh79:Sh:=⟨[k0],[o19,o17,o20,o31]⟩
def sh80:Sh:=⟨[k0,k8,k9,k10,(11,vr19),e42],[j0,j1,j2,j8,(11,ob26),j1560,j1561,(2152,ow9),(2153,ow14),j1000000]⟩
def sh81:Sh:=⟨[k0,k8,k9,k10,k11,(83,vr2)],[j0,j1,j2,j8,j11,j1560,j1561,j2152,j2153,j1000000]⟩
def sh82:Sh:=⟨[],[o3,j1,j2,j2152,j2153,(1000000,ob27)]⟩
def sh83:Sh:=⟨[k0,k1,k7,(13,.one (.ptr 13 0))],[j0,j1,j2,j7,(13,ob28),(2904,ow6),(2905,ow8),j1000000]⟩
def sh84:Sh:=⟨[],[o3,j1,j2,o4]⟩
def l_big.con:Con:=⟨4,sh13,sh1,false,fun x=>l_big x⟩
def s_l1New.con:Con:=⟨9,sh13,⟨[(0,.one (.ptr 0 0))],[(0,ob1)]⟩,false,fun x=>s_l1New x⟩
def s_l1Size.con:Con:=⟨11,sh34,sh2,false,fun x=>s_l1Size x.1 x.2⟩
def s_l1Byte.con:Con:=⟨51,sh8,sh24,false,fun x=>s_l1Byte (x.1,x.2.1,x.2.2)⟩
def s_l1Below.con:Con:=⟨26,sh14,sh24,false,fun x=>s_l1Below (x.2.1,x.2.2.1,x.2.2.2) x.1⟩
def s_l5Put'r.con:Con:=⟨157,⟨[e7,e1],[(0,.row 3 1 ti false)]⟩,sh9,false,fun x=>s_l5Put'r x.2 x.1⟩
def s_Interfaces.con:Con:=⟨101,sh35,sh9,false,fun x=>s_Interfaces (x.1,x.2.1) x.2.2⟩
def s_l5Add.con:Con:=⟨61,⟨[e9,e1,e4,e5],[(1000000,.box [.row 0,.row 1]),o37,o38]⟩,⟨[],[o37,o38,(1000000,.box [.row 0,.row 1])]⟩,false,fun x=>s_l5Add (x.2.2.2.1,x.2.2.2.2) x.1 x.2.1 x.2.2.1⟩
def s_l1Once.con:Con:=⟨32,sh14,⟨[e3],[o1]⟩,false,fun x=>s_l1Once (x.2.1,x.2.2.1,x.2.2.2) x.1⟩
def s_l1In.con:Con:=⟨53,sh36,sh1,false,fun x=>s_l1In x.1 x.2.1 x.2.2⟩
def s_l5Realm.con:Con:=⟨59,sh35,sh1,false,fun x=>s_l5Realm (x.1,x.2.1) x.2.2⟩
def s_l5LinkOk.con:Con:=⟨62,⟨[e6,(1,ag5)],[]⟩,sh1,false,fun x=>s_l5LinkOk (x.1,x.2.1) (x.2.2.1,x.2.2.2.1,x.2.2.2.2.1,x.2.2.2.2.2.1,x.2.2.2.2.2.2)⟩
def s_l5Draw.con:Con:=⟨31,sh8,⟨[(0,ag19)],[o21,o22,o1]⟩,false,fun x=>s_l5Draw (x.1,x.2.1,x.2.2)⟩
def s_l5Ends.con:Con:=⟨113,⟨[e32,e1,e4],[]⟩,sh1,false,fun x=>s_l5Ends (x.1,x.2.1,x.2.2.1,x.2.2.2.1,x.2.2.2.2.1) x.2.2.2.2.2.1 x.2.2.2.2.2.2⟩
def s_LinkIndex.con:Con:=⟨111,sh25,sh2,false,fun x=>s_LinkIndex (x.1,x.2.1) x.2.2.1 x.2.2.2⟩
def s_InterfaceKind.con:Con:=⟨107,sh25,sh2,false,fun x=>s_InterfaceKind (x.1,x.2.1) x.2.2.1 x.2.2.2⟩
def s_InterfacesOfKind.con:Con:=⟨70,sh25,sh9,false,fun x=>s_InterfacesOfKind (x.1,x.2.1) x.2.2.1 x.2.2.2⟩
def s_RemoteEnd.con:Con:=⟨71,sh25,sh5,false,fun x=>s_RemoteEnd (x.1,x.2.1) x.2.2.1 x.2.2.2⟩
def s_SegmentASes.con:Con:=⟨73,sh11,sh9,false,fun x=>s_SegmentASes (x.1,x.2.1,x.2.2)⟩
def s_l9Has.con:Con:=⟨72,⟨[e36,e1],[]⟩,sh1,false,fun x=>s_l9Has x.1 x.2⟩
def s_l9Seals.con:Con:=⟨110,sh37,sh9,false,fun x=>s_l9Seals (x.1,x.2.1,x.2.2.1) x.2.2.2⟩
def s_l3Ok.con:Con:=⟨104,sh2,sh1,false,fun x=>s_l3Ok x⟩
def s_AddMod.con:Con:=⟨162,sh5,sh2,false,fun x=>s_AddMod x.1 x.2⟩
def s_ChainAdd.con:Con:=⟨109,⟨[e2,(1,vr7)],[]⟩,sh2,false,fun x=>s_ChainAdd x.1 x.2⟩
def s_BetaAt.con:Con:=⟨69,sh37,sh2,false,fun x=>s_BetaAt (x.1,x.2.1,x.2.2.1) x.2.2.2⟩
def s_Mod.con:Con:=⟨214,sh5,sh2,false,fun x=>s_Mod x.1 x.2⟩
def s_Digest.con:Con:=⟨194,sh15,sh2,false,fun x=>s_Digest x⟩
def s_ComputeMAC.con:Con:=⟨161,⟨[e2,(1,vr7)],[]⟩,sh2,false,fun x=>s_ComputeMAC x.1 x.2⟩
def s_HopMAC.con:Con:=⟨108,sh53,sh2,false,fun x=>s_HopMAC x.1 x.2.1 x.2.2.1 (x.2.2.2.1,x.2.2.2.2.1,x.2.2.2.2.2.1,x.2.2.2.2.2.2.1,x.2.2.2.2.2.2.2)⟩
def s_AuthenticateHop.con:Con:=⟨68,sh53,sh26,false,fun x=>s_AuthenticateHop x.1 x.2.1 x.2.2.1 (x.2.2.2.1,x.2.2.2.2.1,x.2.2.2.2.2.1,x.2.2.2.2.2.2.1,x.2.2.2.2.2.2.2)⟩
def s_l9Grow.con:Con:=⟨35,⟨[e9,(1,ag1),e4],[o1]⟩,⟨[(0,ag20)],[o26,o1]⟩,false,fun x=>s_l9Grow (x.2.2.2.1,x.2.2.2.2.1,x.2.2.2.2.2) (x.1,x.2.1) x.2.2.1⟩
def s_l9Copy.con:Con:=⟨67,sh11,⟨[(0,ag20)],[o26]⟩,false,fun x=>s_l9Copy (x.1,x.2.1,x.2.2)⟩
def s_l37Long.con:Con:=⟨34,sh16,⟨[(0,ag20)],[o26]⟩,false,fun x=>s_l37Long (x.1,x.2.1) (x.2.2.1,x.2.2.2.1,x.2.2.2.2)⟩
def s_l16All.con:Con:=⟨46,⟨[(0,vr22)],[]⟩,sh38,false,fun x=>s_l16All x⟩
def s_ValidHop.con:Con:=⟨158,sh26,sh1,false,fun x=>s_ValidHop (x.1,x.2.1,x.2.2.1,x.2.2.2.1,x.2.2.2.2)⟩
def s_WellFormed.con:Con:=⟨102,sh16,sh1,false,fun x=>s_WellFormed (x.1,x.2.1) (x.2.2.1,x.2.2.2.1,x.2.2.2.2)⟩
def s_VerifyHop.con:Con:=⟨159,⟨[e6,e1,e4,(3,ag5)],[]⟩,sh1,false,fun x=>s_VerifyHop (x.1,x.2.1) x.2.2.1 x.2.2.2.1 (x.2.2.2.2.1,x.2.2.2.2.2.1,x.2.2.2.2.2.2.1,x.2.2.2.2.2.2.2.1,x.2.2.2.2.2.2.2.2)⟩
def s_FirstInvalidHop.con:Con:=⟨103,sh16,sh2,false,fun x=>s_FirstInvalidHop (x.1,x.2.1) (x.2.2.1,x.2.2.2.1,x.2.2.2.2)⟩
def s_FirstAS.con:Con:=⟨106,sh11,sh2,false,fun x=>s_FirstAS (x.1,x.2.1,x.2.2)⟩
def s_SegmentKind.con:Con:=⟨66,sh16,sh2,false,fun x=>s_SegmentKind (x.1,x.2.1) (x.2.2.1,x.2.2.2.1,x.2.2.2.2)⟩
def s_ValidSegment.con:Con:=⟨63,sh16,sh1,false,fun x=>s_ValidSegment (x.1,x.2.1) (x.2.2.1,x.2.2.2.1,x.2.2.2.2)⟩
def s_IsTerminated.con:Con:=⟨64,sh11,sh1,false,fun x=>s_IsTerminated (x.1,x.2.1,x.2.2)⟩
def s_l9SameHops.con:Con:=⟨193,⟨[(0,.one (.var (.sl tHop))),(1,.one (.var (.sl tHop)))],[]⟩,sh1,false,fun x=>s_l9SameHops x.1 x.2⟩
def s_EqualSegments.con:Con:=⟨160,sh39,sh1,false,fun x=>s_EqualSegments (x.1,x.2.1,x.2.2.1) (x.2.2.2.1,x.2.2.2.2.1,x.2.2.2.2.2)⟩
def s_l16Has.con:Con:=⟨105,⟨[(0,vr22),e21],[]⟩,sh1,false,fun x=>s_l16Has x.1 (x.2.1,x.2.2.1,x.2.2.2)⟩
def s_HasSegment.con:Con:=⟨65,⟨[(0,ag7),e21],[]⟩,sh1,false,fun x=>s_HasSegment (x.1,x.2.1) (x.2.2.1,x.2.2.2.1,x.2.2.2.2)⟩
def s_AddSegment.con:Con:=⟨33,⟨[e6,(1,ag7),(2,ag2)],[]⟩,⟨[(0,ag19)],[(0,ow5),(1,ow5)]⟩,false,fun x=>s_AddSegment (x.1,x.2.1) (x.2.2.1,x.2.2.2.1) (x.2.2.2.2.1,x.2.2.2.2.2.1,x.2.2.2.2.2.2)⟩
def s_ValidKey.con:Con:=⟨112,sh2,sh1,false,fun x=>s_ValidKey x⟩
def s_ValidTopology.con:Con:=⟨74,⟨[e6],[]⟩,sh1,false,fun x=>s_ValidTopology (x.1,x.2)⟩
def s_l37Topo.con:Con:=⟨45,⟨[e6],[]⟩,⟨[(0,ag19)],[o21,o22]⟩,false,fun x=>s_l37Topo (x.1,x.2)⟩
def s_NewScheduler.con:Con:=⟨75,sh2,sh27,false,fun x=>s_NewScheduler x⟩
def s_NewNetwork.con:Con:=⟨36,sh54,sh55,false,fun x=>s_NewNetwork (x.1,x.2.1) (x.2.2.1,x.2.2.2.1) x.2.2.2.2.1 x.2.2.2.2.2⟩
def s_LastAS.con:Con:=⟨76,sh11,sh2,false,fun x=>s_LastAS (x.1,x.2.1,x.2.2)⟩
def s_l23Ends.con:Con:=⟨37,⟨[e9,(1,ag7)],[o1]⟩,⟨[e2,e1],[o1]⟩,false,fun x=>s_l23Ends (x.2.2.1,x.2.2.2.1,x.2.2.2.2) (x.1,x.2.1)⟩
def s_l1Int.con:Con:=⟨39,⟨[e9,(1,vr7)],[o1]⟩,sh24,false,fun x=>s_l1Int (x.2.1,x.2.2.1,x.2.2.2) x.1⟩
def s_NewFlow.con:Con:=⟨38,sh36,sh28,false,fun x=>s_NewFlow x.1 x.2.1 x.2.2⟩
def s_l1Bytes.con:Con:=⟨41,sh14,⟨[e7],[o24,o1]⟩,false,fun x=>s_l1Bytes (x.2.1,x.2.2.1,x.2.2.2) x.1⟩
def s_l35Texts.con:Con:=⟨114,⟨[(0,.one (.var (.sl tMs)))],[]⟩,⟨[e7],[o9]⟩,false,fun x=>s_l35Texts x⟩
def s_l21Copy.con:Con:=⟨155,sh40,sh41,false,fun x=>s_l21Copy (x.1,x.2.1,x.2.2.1,x.2.2.2)⟩
def s_l22Copy.con:Con:=⟨100,sh6,sh17,false,fun x=>s_l22Copy x⟩
def s_l24Copy.con:Con:=⟨115,sh29,sh18,false,fun x=>s_l24Copy x⟩
def s_l35Copy.con:Con:=⟨77,sh19,sh28,false,fun x=>s_l35Copy (x.1,x.2.1,x.2.2.1,x.2.2.2.1,x.2.2.2.2.1,x.2.2.2.2.2.1,x.2.2.2.2.2.2.1,x.2.2.2.2.2.2.2.1,x.2.2.2.2.2.2.2.2)⟩
def s_Max.con:Con:=⟨116,sh5,sh2,false,fun x=>s_Max x.1 x.2⟩
def s_ValidRevocation.con:Con:=⟨117,sh42,sh1,false,fun x=>s_ValidRevocation (x.1,x.2.1,x.2.2)⟩
def s_ValidFlow.con:Con:=⟨78,sh19,sh1,false,fun x=>s_ValidFlow (x.1,x.2.1,x.2.2.1,x.2.2.2.1,x.2.2.2.2.1,x.2.2.2.2.2.1,x.2.2.2.2.2.2.1,x.2.2.2.2.2.2.2.1,x.2.2.2.2.2.2.2.2)⟩
def s_Enqueue.con:Con:=⟨40,⟨[e27,(1,vr8)],[]⟩,⟨[e39,e28],[o9,o23,o27]⟩,false,fun x=>s_Enqueue (x.1,x.2.1,x.2.2.1,x.2.2.2.1,x.2.2.2.2.1,x.2.2.2.2.2.1,x.2.2.2.2.2.2.1,x.2.2.2.2.2.2.2.1,x.2.2.2.2.2.2.2.2.1) x.2.2.2.2.2.2.2.2.2⟩
def s_l34Copy.con:Con:=⟨47,⟨[e29],[]⟩,sh27,false,fun x=>s_l34Copy (x.1,x.2.1,x.2.2)⟩
def s_l26Copy.con:Con:=⟨57,sh10,sh20,false,fun x=>s_l26Copy (x.1,x.2.1,x.2.2.1,x.2.2.2.1,x.2.2.2.2.1,x.2.2.2.2.2.1,x.2.2.2.2.2.2.1,x.2.2.2.2.2.2.2.1,x.2.2.2.2.2.2.2.2.1,x.2.2.2.2.2.2.2.2.2)⟩
def s_l37Fly.con:Con:=⟨48,⟨[(0,.one (.var (.sl tFy)))],[]⟩,⟨[e7],[(0,ow16)]⟩,false,fun x=>s_l37Fly x⟩
def s_l37Flows.con:Con:=⟨49,⟨[(0,.one (.var (.sl tFl)))],[]⟩,⟨[e7],[(0,ow19)]⟩,false,fun x=>s_l37Flows x⟩
def s_l36Copy.con:Con:=⟨85,⟨[(0,ag17)],[]⟩,sh43,false,fun x=>s_l36Copy (x.1,x.2.1,x.2.2.1,x.2.2.2)⟩
def s_l37Boxes.con:Con:=⟨50,⟨[e49],[]⟩,⟨[e7],[(0,ow17)]⟩,false,fun x=>s_l37Boxes x⟩
def s_l37Copy.con:Con:=⟨25,⟨[(0,ag18)],[]⟩,sh55,false,fun x=>s_l37Copy ((x.1,x.2.1),(x.2.2.1,x.2.2.2.1),(x.2.2.2.2.1,x.2.2.2.2.2.1,x.2.2.2.2.2.2.1),x.2.2.2.2.2.2.2.1,x.2.2.2.2.2.2.2.2.1,x.2.2.2.2.2.2.2.2.2.1,x.2.2.2.2.2.2.2.2.2.2.1,x.2.2.2.2.2.2.2.2.2.2.2.1,x.2.2.2.2.2.2.2.2.2.2.2.2)⟩
def s_FindInbox.con:Con:=⟨79,⟨[e49,e1,e4],[]⟩,sh2,false,fun x=>s_FindInbox x.1 x.2.1 x.2.2⟩
def s_DownSegments.con:Con:=⟨166,⟨[(0,ag7),e1],[]⟩,sh38,false,fun x=>s_DownSegments (x.1,x.2.1) x.2.2⟩
def s_l23Index.con:Con:=⟨199,sh37,sh2,false,fun x=>s_l23Index (x.1,x.2.1,x.2.2.1) x.2.2.2⟩
def s_IsReversed.con:Con:=⟨178,sh2,sh1,false,fun x=>s_IsReversed x⟩
def s_MakePart.con:Con:=⟨200,⟨[e15,e1,e4],[]⟩,sh41,false,fun x=>s_MakePart (x.1,x.2.1,x.2.2.1) x.2.2.2.1 x.2.2.2.2⟩
def s_l16Between.con:Con:=⟨202,sh56,sh38,false,fun x=>s_l16Between (x.1,x.2.1) x.2.2.1 x.2.2.2⟩
def s_JoinThree.con:Con:=⟨203,⟨[e15,e21,e17,(3,ag2)],[]⟩,sh17,false,fun x=>s_JoinThree (x.1,x.2.1,x.2.2.1) (x.2.2.2.1,x.2.2.2.2.1,x.2.2.2.2.2.1) x.2.2.2.2.2.2.1 (x.2.2.2.2.2.2.2.1,x.2.2.2.2.2.2.2.2.1,x.2.2.2.2.2.2.2.2.2)⟩
def s_l23Cores.con:Con:=⟨168,⟨[(0,ag7),e21,e4,e5,(4,ag2)],[]⟩,sh18,false,fun x=>s_l23Cores (x.1,x.2.1) (x.2.2.1,x.2.2.2.1,x.2.2.2.2.1) x.2.2.2.2.2.1 x.2.2.2.2.2.2.1 (x.2.2.2.2.2.2.2.1,x.2.2.2.2.2.2.2.2.1,x.2.2.2.2.2.2.2.2.2)⟩
def s_l23Alone.con:Con:=⟨165,sh56,sh18,false,fun x=>s_l23Alone (x.1,x.2.1) x.2.2.1 x.2.2.2⟩
def s_l22Meet.con:Con:=⟨201,sh39,sh17,false,fun x=>s_l22Meet (x.1,x.2.1,x.2.2.1) (x.2.2.2.1,x.2.2.2.2.1,x.2.2.2.2.2)⟩
def s_JoinUpDown.con:Con:=⟨167,sh39,sh17,false,fun x=>s_JoinUpDown (x.1,x.2.1,x.2.2.1) (x.2.2.2.1,x.2.2.2.2.1,x.2.2.2.2.2)⟩
def s_CombinePaths.con:Con:=⟨120,sh54,sh18,false,fun x=>s_CombinePaths (x.1,x.2.1) (x.2.2.1,x.2.2.2.1) x.2.2.2.2.1 x.2.2.2.2.2⟩
def s_l21Realms.con:Con:=⟨216,sh40,sh9,false,fun x=>s_l21Realms (x.1,x.2.1,x.2.2.1,x.2.2.2)⟩
def s_PartEgress.con:Con:=⟨141,sh30,sh2,false,fun x=>s_PartEgress (x.1,x.2.1,x.2.2.1,x.2.2.2.1) x.2.2.2.2⟩
def s_PartIngress.con:Con:=⟨137,sh30,sh2,false,fun x=>s_PartIngress (x.1,x.2.1,x.2.2.1,x.2.2.2.1) x.2.2.2.2⟩
def s_ValidPart.con:Con:=⟨207,⟨[e6,(1,ag6)],[]⟩,sh1,false,fun x=>s_ValidPart (x.1,x.2.1) (x.2.2.1,x.2.2.2.1,x.2.2.2.2.1,x.2.2.2.2.2)⟩
def s_l22Rank.con:Con:=⟨208,sh2,sh2,false,fun x=>s_l22Rank x⟩
def s_WellFormedPath.con:Con:=⟨176,sh44,sh1,false,fun x=>s_WellFormedPath (x.1,x.2.1) x.2.2⟩
def s_PathSteps.con:Con:=⟨97,sh6,⟨[e7],[(0,ow18)]⟩,false,fun x=>s_PathSteps x⟩
def s_InterfacesUsed.con:Con:=⟨177,sh6,sh9,false,fun x=>s_InterfacesUsed x⟩
def s_SimplePath.con:Con:=⟨134,sh44,sh1,false,fun x=>s_SimplePath (x.1,x.2.1) x.2.2⟩
def s_SubMod.con:Con:=⟨209,sh5,sh2,false,fun x=>s_SubMod x.1 x.2⟩
def s_BetaAfter.con:Con:=⟨211,sh30,sh2,false,fun x=>s_BetaAfter (x.1,x.2.1,x.2.2.1,x.2.2.2.1) x.2.2.2.2⟩
def s_l21Beta.con:Con:=⟨215,sh30,sh2,false,fun x=>s_l21Beta (x.1,x.2.1,x.2.2.1,x.2.2.2.1) x.2.2.2.2⟩
def s_VerifyPart.con:Con:=⟨204,⟨[e6,(1,ag6)],[]⟩,sh1,false,fun x=>s_VerifyPart (x.1,x.2.1) (x.2.2.1,x.2.2.2.1,x.2.2.2.2.1,x.2.2.2.2.2)⟩
def s_VerifyPath.con:Con:=⟨169,sh44,sh1,false,fun x=>s_VerifyPath (x.1,x.2.1) x.2.2⟩
def s_HopValidAt.con:Con:=⟨170,⟨[e32,e1],[]⟩,sh1,false,fun x=>s_HopValidAt (x.1,x.2.1,x.2.2.1,x.2.2.2.1,x.2.2.2.2.1) x.2.2.2.2.2⟩
def s_PathUsable.con:Con:=⟨121,⟨[e6,e26,e4],[]⟩,sh1,false,fun x=>s_PathUsable (x.1,x.2.1) x.2.2.1 x.2.2.2⟩
def s_EqualParts.con:Con:=⟨205,⟨[e33,(1,ag6)],[]⟩,sh1,false,fun x=>s_EqualParts (x.1,x.2.1,x.2.2.1,x.2.2.2.1) (x.2.2.2.2.1,x.2.2.2.2.2.1,x.2.2.2.2.2.2.1,x.2.2.2.2.2.2.2)⟩
def s_EqualPaths.con:Con:=⟨171,⟨[e16,e26],[]⟩,sh1,false,fun x=>s_EqualPaths x.1 x.2⟩
def s_HasPath.con:Con:=⟨122,⟨[(0,vr14),e26],[]⟩,sh1,false,fun x=>s_HasPath x.1 x.2⟩
def s_FindPaths.con:Con:=⟨81,⟨[e6,(1,ag7),e4,e5,e10],[]⟩,sh29,false,fun x=>s_FindPaths (x.1,x.2.1) (x.2.2.1,x.2.2.2.1) x.2.2.2.2.1 x.2.2.2.2.2.1 x.2.2.2.2.2.2⟩
def s_PathLength.con:Con:=⟨196,sh6,sh2,false,fun x=>s_PathLength x⟩
def s_PathExpiry.con:Con:=⟨197,sh6,sh2,false,fun x=>s_PathExpiry x⟩
def s_PathDigest.con:Con:=⟨198,sh6,sh2,false,fun x=>s_PathDigest x⟩
def s_BetterPath.con:Con:=⟨164,⟨[e16,e26],[]⟩,sh1,false,fun x=>s_BetterPath x.1 x.2⟩
def s_SortPaths.con:Con:=⟨119,sh29,sh29,false,fun x=>s_SortPaths x⟩
def s_ActiveRevocations.con:Con:=⟨195,⟨[(0,vr15),e1],[]⟩,⟨[e7],[(0,ow15)]⟩,false,fun x=>s_ActiveRevocations x.1 x.2⟩
def s_Affects.con:Con:=⟨191,⟨[e16,(1,ag11)],[]⟩,sh1,false,fun x=>s_Affects x.1 (x.2.1,x.2.2.1,x.2.2.2)⟩
def s_Revoked.con:Con:=⟨163,⟨[(0,vr15),e26,e4],[]⟩,sh1,false,fun x=>s_Revoked x.1 x.2.1 x.2.2⟩
def s_PreferUnrevoked.con:Con:=⟨118,⟨[(0,vr15),(1,vr14),e4],[]⟩,sh18,false,fun x=>s_PreferUnrevoked x.1 x.2.1 x.2.2⟩
def s_Min.con:Con:=⟨43,sh5,sh2,false,fun x=>s_Min x.1 x.2⟩
def s_SetPaths.con:Con:=⟨80,⟨[e27,(1,vr14),e4],[]⟩,⟨[(0,.agg [.var ti,.var ti,.var ti,.var ti,.row 0,.var (.sl tPt),.var ti,.var ti,.row 1])],[o9,(1,ow15)]⟩,false,fun x=>s_SetPaths (x.1,x.2.1,x.2.2.1,x.2.2.2.1,x.2.2.2.2.1,x.2.2.2.2.2.1,x.2.2.2.2.2.2.1,x.2.2.2.2.2.2.2.1,x.2.2.2.2.2.2.2.2.1) x.2.2.2.2.2.2.2.2.2.1 x.2.2.2.2.2.2.2.2.2.2⟩
def s_NewInbox.con:Con:=⟨82,sh5,sh43,false,fun x=>s_NewInbox x.1 x.2⟩
def s_AddFlow.con:Con:=⟨42,⟨[(0,ag18),(1,ag8)],[]⟩,⟨[(0,ag16),e28],[o21,o22,(2,ow5),(3,ow5),(4,ow9),(5,ow14),o15,(7,ow16),(8,ow1),(9,ow17)]⟩,false,fun x=>s_AddFlow ((x.1,x.2.1),(x.2.2.1,x.2.2.2.1),(x.2.2.2.2.1,x.2.2.2.2.2.1,x.2.2.2.2.2.2.1),x.2.2.2.2.2.2.2.1,x.2.2.2.2.2.2.2.2.1,x.2.2.2.2.2.2.2.2.2.1,x.2.2.2.2.2.2.2.2.2.2.1,x.2.2.2.2.2.2.2.2.2.2.2.1,x.2.2.2.2.2.2.2.2.2.2.2.2.1) (x.2.2.2.2.2.2.2.2.2.2.2.2.2.1,x.2.2.2.2.2.2.2.2.2.2.2.2.2.2.1,x.2.2.2.2.2.2.2.2.2.2.2.2.2.2.2.1,x.2.2.2.2.2.2.2.2.2.2.2.2.2.2.2.2.1,x.2.2.2.2.2.2.2.2.2.2.2.2.2.2.2.2.2.1,x.2.2.2.2.2.2.2.2.2.2.2.2.2.2.2.2.2.2.1,x.2.2.2.2.2.2.2.2.2.2.2.2.2.2.2.2.2.2.2.1,x.2.2.2.2.2.2.2.2.2.2.2.2.2.2.2.2.2.2.2.2.1,x.2.2.2.2.2.2.2.2.2.2.2.2.2.2.2.2.2.2.2.2.2)⟩
def s_EgressSteps.con:Con:=⟨83,sh6,⟨[e7],[(0,ow18)]⟩,false,fun x=>s_EgressSteps x⟩
def s_l32Without.con:Con:=⟨123,⟨[e22,(1,ag5)],[]⟩,⟨[e7],[o14]⟩,false,fun x=>s_l32Without x.1 (x.2.1,x.2.2.1,x.2.2.2.1,x.2.2.2.2.1,x.2.2.2.2.2)⟩
def s_ValidReservation.con:Con:=⟨124,sh26,sh1,false,fun x=>s_ValidReservation (x.1,x.2.1,x.2.2.1,x.2.2.2.1,x.2.2.2.2)⟩
def s_l32At.con:Con:=⟨172,⟨[e32,e1,e4,e5],[]⟩,sh1,false,fun x=>s_l32At (x.1,x.2.1,x.2.2.1,x.2.2.2.1,x.2.2.2.2.1) x.2.2.2.2.2.1 x.2.2.2.2.2.2.1 x.2.2.2.2.2.2.2⟩
def s_ReservedRate.con:Con:=⟨125,sh57,sh2,false,fun x=>s_ReservedRate x.1 x.2.1 x.2.2.1 x.2.2.2⟩
def s_Admit.con:Con:=⟨84,⟨[e22,(1,ag5),e4,e5],[]⟩,⟨[e7,e28],[o14]⟩,false,fun x=>s_Admit x.1 (x.2.1,x.2.2.1,x.2.2.2.1,x.2.2.2.2.1,x.2.2.2.2.2.1) x.2.2.2.2.2.2.1 x.2.2.2.2.2.2.2⟩
def s_ReservePath.con:Con:=⟨44,⟨[e22,e1,(2,ag4),e5,e10,e8,e11],[]⟩,⟨[e7,e28],[o14]⟩,false,fun x=>s_ReservePath x.1 x.2.1 x.2.2.1 x.2.2.2.1 x.2.2.2.2.1 x.2.2.2.2.2.1 x.2.2.2.2.2.2⟩
def s_l37New.con:Con:=⟨24,sh8,⟨[(0,ag16)],[o21,o22,(2,ow5),(3,ow5),(4,ow9),(5,ow14),o15,(7,ow16),(8,ow1),(9,ow17),o1]⟩,false,fun x=>s_l37New (x.1,x.2.1,x.2.2)⟩
def s_l22Draw.con:Con:=⟨173,sh8,⟨[e6,(1,ag14)],[o6,o1]⟩,false,fun x=>s_l22Draw (x.1,x.2.1,x.2.2)⟩
def s_Endpoints.con:Con:=⟨187,sh6,sh5,false,fun x=>s_Endpoints x⟩
def s_NewPacket.con:Con:=⟨152,⟨[e2,e26,e4,e5,(4,vr8)],[]⟩,sh20,false,fun x=>s_NewPacket x.1 x.2.1 x.2.2.1 x.2.2.2.1 x.2.2.2.2⟩
def s_l26Draw.con:Con:=⟨126,sh8,⟨[e6,(1,ag9)],[o6,o7,o1]⟩,false,fun x=>s_l26Draw (x.1,x.2.1,x.2.2)⟩
def s_l3Word.con:Con:=⟨87,sh8,sh24,false,fun x=>s_l3Word (x.1,x.2.1,x.2.2)⟩
def s_l22Any.con:Con:=⟨127,sh8,⟨[(0,.agg [.any,.any]),e26],[o1]⟩,false,fun x=>s_l22Any (x.1,x.2.1,x.2.2)⟩
def s_l26Any.con:Con:=⟨86,sh8,⟨[e6,(1,.agg [.var ti,.var ti,.var ti,.var (.sl tPp),.var ti,.var ti,.var ti,.var ti,.var ti,.row 0])],[o24,o1]⟩,false,fun x=>s_l26Any (x.1,x.2.1,x.2.2)⟩
def s_Encodable.con:Con:=⟨206,sh11,sh1,false,fun x=>s_Encodable (x.1,x.2.1,x.2.2)⟩
def s_EncodablePath.con:Con:=⟨174,sh6,sh1,false,fun x=>s_EncodablePath x⟩
def s_ValidPacket.con:Con:=⟨128,sh10,sh1,false,fun x=>s_ValidPacket (x.1,x.2.1,x.2.2.1,x.2.2.2.1,x.2.2.2.2.1,x.2.2.2.2.2.1,x.2.2.2.2.2.2.1,x.2.2.2.2.2.2.2.1,x.2.2.2.2.2.2.2.2.1,x.2.2.2.2.2.2.2.2.2)⟩
def s_l38Flowing.con:Con:=⟨129,⟨[(0,ag18),e1,e4],[]⟩,sh1,false,fun x=>s_l38Flowing ((x.1,x.2.1),(x.2.2.1,x.2.2.2.1),(x.2.2.2.2.1,x.2.2.2.2.2.1,x.2.2.2.2.2.2.1),x.2.2.2.2.2.2.2.1,x.2.2.2.2.2.2.2.2.1,x.2.2.2.2.2.2.2.2.2.1,x.2.2.2.2.2.2.2.2.2.2.1,x.2.2.2.2.2.2.2.2.2.2.2.1,x.2.2.2.2.2.2.2.2.2.2.2.2.1) x.2.2.2.2.2.2.2.2.2.2.2.2.2.1 x.2.2.2.2.2.2.2.2.2.2.2.2.2.2⟩
def s_EqualBytes.con:Con:=⟨175,⟨[e24,(1,vr8)],[]⟩,sh1,false,fun x=>s_EqualBytes x.1 x.2⟩
def s_EqualPackets.con:Con:=⟨130,⟨[e25,e34],[]⟩,sh1,false,fun x=>s_EqualPackets (x.1,x.2.1,x.2.2.1,x.2.2.2.1,x.2.2.2.2.1,x.2.2.2.2.2.1,x.2.2.2.2.2.2.1,x.2.2.2.2.2.2.2.1,x.2.2.2.2.2.2.2.2.1,x.2.2.2.2.2.2.2.2.2.1) (x.2.2.2.2.2.2.2.2.2.2.1,x.2.2.2.2.2.2.2.2.2.2.2.1,x.2.2.2.2.2.2.2.2.2.2.2.2.1,x.2.2.2.2.2.2.2.2.2.2.2.2.2.1,x.2.2.2.2.2.2.2.2.2.2.2.2.2.2.1,x.2.2.2.2.2.2.2.2.2.2.2.2.2.2.2.1,x.2.2.2.2.2.2.2.2.2.2.2.2.2.2.2.2.1,x.2.2.2.2.2.2.2.2.2.2.2.2.2.2.2.2.2.1,x.2.2.2.2.2.2.2.2.2.2.2.2.2.2.2.2.2.2.1,x.2.2.2.2.2.2.2.2.2.2.2.2.2.2.2.2.2.2.2)⟩
def s_Harmless.con:Con:=⟨88,⟨[(0,ag18),(1,ag21)],[]⟩,sh1,false,fun x=>s_Harmless ((x.1,x.2.1),(x.2.2.1,x.2.2.2.1),(x.2.2.2.2.1,x.2.2.2.2.2.1,x.2.2.2.2.2.2.1),x.2.2.2.2.2.2.2.1,x.2.2.2.2.2.2.2.2.1,x.2.2.2.2.2.2.2.2.2.1,x.2.2.2.2.2.2.2.2.2.2.1,x.2.2.2.2.2.2.2.2.2.2.2.1,x.2.2.2.2.2.2.2.2.2.2.2.2.1) (x.2.2.2.2.2.2.2.2.2.2.2.2.2.1,x.2.2.2.2.2.2.2.2.2.2.2.2.2.2.1,x.2.2.2.2.2.2.2.2.2.2.2.2.2.2.2.1,(x.2.2.2.2.2.2.2.2.2.2.2.2.2.2.2.2.1,x.2.2.2.2.2.2.2.2.2.2.2.2.2.2.2.2.2.1,(x.2.2.2.2.2.2.2.2.2.2.2.2.2.2.2.2.2.2.1,x.2.2.2.2.2.2.2.2.2.2.2.2.2.2.2.2.2.2.2.1,x.2.2.2.2.2.2.2.2.2.2.2.2.2.2.2.2.2.2.2.2.1,x.2.2.2.2.2.2.2.2.2.2.2.2.2.2.2.2.2.2.2.2.2.1,x.2.2.2.2.2.2.2.2.2.2.2.2.2.2.2.2.2.2.2.2.2.2.1,x.2.2.2.2.2.2.2.2.2.2.2.2.2.2.2.2.2.2.2.2.2.2.2.1,x.2.2.2.2.2.2.2.2.2.2.2.2.2.2.2.2.2.2.2.2.2.2.2.2.1,x.2.2.2.2.2.2.2.2.2.2.2.2.2.2.2.2.2.2.2.2.2.2.2.2.2.1,x.2.2.2.2.2.2.2.2.2.2.2.2.2.2.2.2.2.2.2.2.2.2.2.2.2.2.1,x.2.2.2.2.2.2.2.2.2.2.2.2.2.2.2.2.2.2.2.2.2.2.2.2.2.2.2)))⟩
def s_ActiveReservations.con:Con:=⟨131,⟨[e22,e1],[]⟩,⟨[e7],[o14]⟩,false,fun x=>s_ActiveReservations x.1 x.2⟩
def s_BeginTick.con:Con:=⟨89,⟨[e29,e1],[]⟩,sh27,false,fun x=>s_BeginTick (x.1,x.2.1,x.2.2.1) x.2.2.2⟩
def s_NextTransmission.con:Con:=⟨132,sh19,sh45,false,fun x=>s_NextTransmission (x.1,x.2.1,x.2.2.1,x.2.2.2.1,x.2.2.2.2.1,x.2.2.2.2.2.1,x.2.2.2.2.2.2.1,x.2.2.2.2.2.2.2.1,x.2.2.2.2.2.2.2.2)⟩
def s_l35Turn.con:Con:=⟨133,sh19,sh28,false,fun x=>s_l35Turn (x.1,x.2.1,x.2.2.1,x.2.2.2.1,x.2.2.2.2.1,x.2.2.2.2.2.1,x.2.2.2.2.2.2.1,x.2.2.2.2.2.2.2.1,x.2.2.2.2.2.2.2.2)⟩
def s_TickFlow.con:Con:=⟨90,sh19,⟨[e39,(1,.agg [.var ti,.var ti,.var ti,.row 3,.var ti,.var ti,.var ti,.var ti,.var ti,.row 4]),e17],[o9,o23,o27,(3,ow6),(4,ow8)]⟩,false,fun x=>s_TickFlow (x.1,x.2.1,x.2.2.1,x.2.2.2.1,x.2.2.2.2.1,x.2.2.2.2.2.1,x.2.2.2.2.2.2.1,x.2.2.2.2.2.2.2.1,x.2.2.2.2.2.2.2.2)⟩
def s_l37Arrive'0.con:Con:=⟨56,sh46,sh12,false,fun x=>s_l37Arrive'0 ((x.2.2.2.2.2.2.2.2.2.2.2.2.1,x.2.2.2.2.2.2.2.2.2.2.2.2.2.1),(x.2.2.2.2.2.2.2.2.2.2.2.2.2.2.1,x.2.2.2.2.2.2.2.2.2.2.2.2.2.2.2.1),(x.2.2.2.2.2.2.2.2.2.2.2.2.2.2.2.2.1,x.2.2.2.2.2.2.2.2.2.2.2.2.2.2.2.2.2.1,x.2.2.2.2.2.2.2.2.2.2.2.2.2.2.2.2.2.2.1),x.2.2.2.2.2.2.2.2.2.2.2.2.2.2.2.2.2.2.2.1,x.2.2.2.2.2.2.2.2.2.2.2.2.2.2.2.2.2.2.2.2.1,x.2.2.2.2.2.2.2.2.2.2.2.2.2.2.2.2.2.2.2.2.2.2.1,x.2.2.2.2.2.2.2.2.2.2.2.2.2.2.2.2.2.2.2.2.2.2.2.1,x.2.2.2.2.2.2.2.2.2.2.2.2.2.2.2.2.2.2.2.2.2.2.2.2,x.2.2.2.2.2.2.2.2.2.2.2.2.2.2.2.2.2.2.2.2.2.1) x.1 x.2.1 (x.2.2.1,x.2.2.2.1,x.2.2.2.2.1,x.2.2.2.2.2.1,x.2.2.2.2.2.2.1,x.2.2.2.2.2.2.2.1,x.2.2.2.2.2.2.2.2.1,x.2.2.2.2.2.2.2.2.2.1,x.2.2.2.2.2.2.2.2.2.2.1,x.2.2.2.2.2.2.2.2.2.2.2.1)⟩
def s_ValidSet.con:Con:=⟨182,sh2,sh1,false,fun x=>s_ValidSet x⟩
def s_l4One.con:Con:=⟨183,sh2,sh1,false,fun x=>s_l4One x⟩
def s_AddElement.con:Con:=⟨144,sh5,sh2,false,fun x=>s_AddElement x.1 x.2⟩
def s_FailedInterfaces.con:Con:=⟨92,⟨[e6,(1,vr7),e4],[]⟩,sh2,false,fun x=>s_FailedInterfaces (x.1,x.2.1) x.2.2.1 x.2.2.2⟩
def s_CurrentAS.con:Con:=⟨135,sh10,sh2,false,fun x=>s_CurrentAS (x.1,x.2.1,x.2.2.1,x.2.2.2.1,x.2.2.2.2.1,x.2.2.2.2.2.1,x.2.2.2.2.2.2.1,x.2.2.2.2.2.2.2.1,x.2.2.2.2.2.2.2.2.1,x.2.2.2.2.2.2.2.2.2)⟩
def s_l28No.con:Con:=⟨136,⟨[e2,e34],[]⟩,sh58,false,fun x=>s_l28No x.1 (x.2.1,x.2.2.1,x.2.2.2.1,x.2.2.2.2.1,x.2.2.2.2.2.1,x.2.2.2.2.2.2.1,x.2.2.2.2.2.2.2.1,x.2.2.2.2.2.2.2.2.1,x.2.2.2.2.2.2.2.2.2.1,x.2.2.2.2.2.2.2.2.2.2)⟩
def s_VerifyCurrentHop.con:Con:=⟨179,⟨[e6,e34],[]⟩,sh45,false,fun x=>s_VerifyCurrentHop (x.1,x.2.1) (x.2.2.1,x.2.2.2.1,x.2.2.2.2.1,x.2.2.2.2.2.1,x.2.2.2.2.2.2.1,x.2.2.2.2.2.2.2.1,x.2.2.2.2.2.2.2.2.1,x.2.2.2.2.2.2.2.2.2.1,x.2.2.2.2.2.2.2.2.2.2.1,x.2.2.2.2.2.2.2.2.2.2.2)⟩
def s_CurrentHopValid.con:Con:=⟨180,⟨[e25,e1],[]⟩,sh1,false,fun x=>s_CurrentHopValid (x.1,x.2.1,x.2.2.1,x.2.2.2.1,x.2.2.2.2.1,x.2.2.2.2.2.1,x.2.2.2.2.2.2.1,x.2.2.2.2.2.2.2.1,x.2.2.2.2.2.2.2.2.1,x.2.2.2.2.2.2.2.2.2.1) x.2.2.2.2.2.2.2.2.2.2⟩
def s_l28Check.con:Con:=⟨138,⟨[e6,e1,(2,ag3)],[]⟩,⟨[e30,e1],[o6,o7]⟩,false,fun x=>s_l28Check (x.1,x.2.1) x.2.2.1 (x.2.2.2.1,x.2.2.2.2.1,x.2.2.2.2.2.1,x.2.2.2.2.2.2.1,x.2.2.2.2.2.2.2.1,x.2.2.2.2.2.2.2.2.1,x.2.2.2.2.2.2.2.2.2.1,x.2.2.2.2.2.2.2.2.2.2.1,x.2.2.2.2.2.2.2.2.2.2.2.1,x.2.2.2.2.2.2.2.2.2.2.2.2)⟩
def s_AtLastHop.con:Con:=⟨140,sh10,sh1,false,fun x=>s_AtLastHop (x.1,x.2.1,x.2.2.1,x.2.2.2.1,x.2.2.2.2.1,x.2.2.2.2.2.1,x.2.2.2.2.2.2.1,x.2.2.2.2.2.2.2.1,x.2.2.2.2.2.2.2.2.1,x.2.2.2.2.2.2.2.2.2)⟩
def s_AdvanceHop.con:Con:=⟨139,sh10,sh20,false,fun x=>s_AdvanceHop (x.1,x.2.1,x.2.2.1,x.2.2.2.1,x.2.2.2.2.1,x.2.2.2.2.2.1,x.2.2.2.2.2.2.1,x.2.2.2.2.2.2.2.1,x.2.2.2.2.2.2.2.2.1,x.2.2.2.2.2.2.2.2.2)⟩
def s_TransitAllowed.con:Con:=⟨181,sh5,sh1,false,fun x=>s_TransitAllowed x.1 x.2⟩
def s_StepAllowed.con:Con:=⟨142,⟨[e6,(1,ag11)],[]⟩,sh1,false,fun x=>s_StepAllowed (x.1,x.2.1) (x.2.2.1,x.2.2.2.1,x.2.2.2.2)⟩
def s_Contains.con:Con:=⟨143,sh5,sh1,false,fun x=>s_Contains x.1 x.2⟩
def s_Forward.con:Con:=⟨91,⟨[e6,e1,e4,e5,e10,(5,ag3)],[]⟩,sh58,false,fun x=>s_Forward (x.1,x.2.1) x.2.2.1 x.2.2.2.1 x.2.2.2.2.1 x.2.2.2.2.2.1 (x.2.2.2.2.2.2.1,x.2.2.2.2.2.2.2.1,x.2.2.2.2.2.2.2.2.1,x.2.2.2.2.2.2.2.2.2.1,x.2.2.2.2.2.2.2.2.2.2.1,x.2.2.2.2.2.2.2.2.2.2.2.1,x.2.2.2.2.2.2.2.2.2.2.2.2.1,x.2.2.2.2.2.2.2.2.2.2.2.2.2.1,x.2.2.2.2.2.2.2.2.2.2.2.2.2.2.1,x.2.2.2.2.2.2.2.2.2.2.2.2.2.2.2)⟩
def s_l36For.con:Con:=⟨184,sh47,sh1,false,fun x=>s_l36For (x.1,x.2.1,x.2.2.1,x.2.2.2.1) (x.2.2.2.2.1,x.2.2.2.2.2.1,x.2.2.2.2.2.2.1,x.2.2.2.2.2.2.2.1,x.2.2.2.2.2.2.2.2.1,x.2.2.2.2.2.2.2.2.2.1,x.2.2.2.2.2.2.2.2.2.2.1,x.2.2.2.2.2.2.2.2.2.2.2.1,x.2.2.2.2.2.2.2.2.2.2.2.2.1,x.2.2.2.2.2.2.2.2.2.2.2.2.2)⟩
def s_HandleData.con:Con:=⟨145,sh47,sh43,false,fun x=>s_HandleData (x.1,x.2.1,x.2.2.1,x.2.2.2.1) (x.2.2.2.2.1,x.2.2.2.2.2.1,x.2.2.2.2.2.2.1,x.2.2.2.2.2.2.2.1,x.2.2.2.2.2.2.2.2.1,x.2.2.2.2.2.2.2.2.2.1,x.2.2.2.2.2.2.2.2.2.2.1,x.2.2.2.2.2.2.2.2.2.2.2.1,x.2.2.2.2.2.2.2.2.2.2.2.2.1,x.2.2.2.2.2.2.2.2.2.2.2.2.2)⟩
def s_ReverseKind.con:Con:=⟨210,sh2,sh2,false,fun x=>s_ReverseKind x⟩
def s_ReversePart.con:Con:=⟨188,sh40,sh41,false,fun x=>s_ReversePart (x.1,x.2.1,x.2.2.1,x.2.2.2)⟩
def s_ReversePath.con:Con:=⟨153,sh6,sh17,false,fun x=>s_ReversePath x⟩
def s_Reply.con:Con:=⟨185,⟨[e25,e1,e4,(3,vr8)],[]⟩,sh20,false,fun x=>s_Reply (x.1,x.2.1,x.2.2.1,x.2.2.2.1,x.2.2.2.2.1,x.2.2.2.2.2.1,x.2.2.2.2.2.2.1,x.2.2.2.2.2.2.2.1,x.2.2.2.2.2.2.2.2.1,x.2.2.2.2.2.2.2.2.2.1) x.2.2.2.2.2.2.2.2.2.2.1 x.2.2.2.2.2.2.2.2.2.2.2.1 x.2.2.2.2.2.2.2.2.2.2.2.2⟩
def s_MakeAck.con:Con:=⟨146,sh47,sh45,false,fun x=>s_MakeAck (x.1,x.2.1,x.2.2.1,x.2.2.2.1) (x.2.2.2.2.1,x.2.2.2.2.2.1,x.2.2.2.2.2.2.1,x.2.2.2.2.2.2.2.1,x.2.2.2.2.2.2.2.2.1,x.2.2.2.2.2.2.2.2.2.1,x.2.2.2.2.2.2.2.2.2.2.1,x.2.2.2.2.2.2.2.2.2.2.2.1,x.2.2.2.2.2.2.2.2.2.2.2.2.1,x.2.2.2.2.2.2.2.2.2.2.2.2.2)⟩
def s_HandleAck.con:Con:=⟨147,⟨[e27,e34],[]⟩,sh28,false,fun x=>s_HandleAck (x.1,x.2.1,x.2.2.1,x.2.2.2.1,x.2.2.2.2.1,x.2.2.2.2.2.1,x.2.2.2.2.2.2.1,x.2.2.2.2.2.2.2.1,x.2.2.2.2.2.2.2.2.1) (x.2.2.2.2.2.2.2.2.2.1,x.2.2.2.2.2.2.2.2.2.2.1,x.2.2.2.2.2.2.2.2.2.2.2.1,x.2.2.2.2.2.2.2.2.2.2.2.2.1,x.2.2.2.2.2.2.2.2.2.2.2.2.2.1,x.2.2.2.2.2.2.2.2.2.2.2.2.2.2.1,x.2.2.2.2.2.2.2.2.2.2.2.2.2.2.2.1,x.2.2.2.2.2.2.2.2.2.2.2.2.2.2.2.2.1,x.2.2.2.2.2.2.2.2.2.2.2.2.2.2.2.2.2.1,x.2.2.2.2.2.2.2.2.2.2.2.2.2.2.2.2.2.2)⟩
def s_ReadVarint.con:Con:=⟨217,sh34,⟨[e2,e1,e17],[]⟩,false,fun x=>s_ReadVarint x.1 x.2⟩
def s_DecodeInts.con:Con:=⟨213,⟨[e24,e1,e4],[]⟩,⟨[e7,e1,e17],[o13]⟩,false,fun x=>s_DecodeInts x.1 x.2.1 x.2.2⟩
def s_DecodeRevocation.con:Con:=⟨190,sh13,⟨[(0,ag11),e28],[]⟩,false,fun x=>s_DecodeRevocation x⟩
def s_AddRevocation.con:Con:=⟨192,⟨[(0,vr15),(1,ag11)],[]⟩,⟨[(0,vr15)],[]⟩,false,fun x=>s_AddRevocation x.1 (x.2.1,x.2.2.1,x.2.2.2)⟩
def s_HandleRevocation.con:Con:=⟨156,⟨[e27,e34,e4],[]⟩,⟨[(0,.agg [.var ti,.var ti,.var ti,.var ti,.row 0,.row 1,.var ti,.var ti,.var (.sl tRv)])],[o9,o23]⟩,false,fun x=>s_HandleRevocation (x.1,x.2.1,x.2.2.1,x.2.2.2.1,x.2.2.2.2.1,x.2.2.2.2.2.1,x.2.2.2.2.2.2.1,x.2.2.2.2.2.2.2.1,x.2.2.2.2.2.2.2.2.1) (x.2.2.2.2.2.2.2.2.2.1,x.2.2.2.2.2.2.2.2.2.2.1,x.2.2.2.2.2.2.2.2.2.2.2.1,x.2.2.2.2.2.2.2.2.2.2.2.2.1,x.2.2.2.2.2.2.2.2.2.2.2.2.2.1,x.2.2.2.2.2.2.2.2.2.2.2.2.2.2.1,x.2.2.2.2.2.2.2.2.2.2.2.2.2.2.2.1,x.2.2.2.2.2.2.2.2.2.2.2.2.2.2.2.2.1,x.2.2.2.2.2.2.2.2.2.2.2.2.2.2.2.2.2.1,x.2.2.2.2.2.2.2.2.2.2.2.2.2.2.2.2.2.2.1) x.2.2.2.2.2.2.2.2.2.2.2.2.2.2.2.2.2.2.2⟩
def s_l37Tell.con:Con:=⟨99,sh48,sh12,false,fun x=>s_l37Tell ((x.2.2.2.2.2.2.2.2.2.2.2.1,x.2.2.2.2.2.2.2.2.2.2.2.2.1),(x.2.2.2.2.2.2.2.2.2.2.2.2.2.1,x.2.2.2.2.2.2.2.2.2.2.2.2.2.2.1),(x.2.2.2.2.2.2.2.2.2.2.2.2.2.2.2.1,x.2.2.2.2.2.2.2.2.2.2.2.2.2.2.2.2.1,x.2.2.2.2.2.2.2.2.2.2.2.2.2.2.2.2.2.1),x.2.2.2.2.2.2.2.2.2.2.2.2.2.2.2.2.2.2.1,x.2.2.2.2.2.2.2.2.2.2.2.2.2.2.2.2.2.2.2.1,x.2.2.2.2.2.2.2.2.2.2.2.2.2.2.2.2.2.2.2.2.2.1,x.2.2.2.2.2.2.2.2.2.2.2.2.2.2.2.2.2.2.2.2.2.2.1,x.2.2.2.2.2.2.2.2.2.2.2.2.2.2.2.2.2.2.2.2.2.2.2,x.2.2.2.2.2.2.2.2.2.2.2.2.2.2.2.2.2.2.2.2.1) x.1 (x.2.1,x.2.2.1,x.2.2.2.1,x.2.2.2.2.1,x.2.2.2.2.2.1,x.2.2.2.2.2.2.1,x.2.2.2.2.2.2.2.1,x.2.2.2.2.2.2.2.2.1,x.2.2.2.2.2.2.2.2.2.1,x.2.2.2.2.2.2.2.2.2.2.1)⟩
def s_l37Home'1.con:Con:=⟨93,sh48,sh12,false,fun x=>s_l37Home'1 ((x.2.2.2.2.2.2.2.2.2.2.2.1,x.2.2.2.2.2.2.2.2.2.2.2.2.1),(x.2.2.2.2.2.2.2.2.2.2.2.2.2.1,x.2.2.2.2.2.2.2.2.2.2.2.2.2.2.1),(x.2.2.2.2.2.2.2.2.2.2.2.2.2.2.2.1,x.2.2.2.2.2.2.2.2.2.2.2.2.2.2.2.2.1,x.2.2.2.2.2.2.2.2.2.2.2.2.2.2.2.2.2.1),x.2.2.2.2.2.2.2.2.2.2.2.2.2.2.2.2.2.2.1,x.2.2.2.2.2.2.2.2.2.2.2.2.2.2.2.2.2.2.2.1,x.2.2.2.2.2.2.2.2.2.2.2.2.2.2.2.2.2.2.2.2.2.1,x.2.2.2.2.2.2.2.2.2.2.2.2.2.2.2.2.2.2.2.2.2.2.1,x.2.2.2.2.2.2.2.2.2.2.2.2.2.2.2.2.2.2.2.2.2.2.2,x.2.2.2.2.2.2.2.2.2.2.2.2.2.2.2.2.2.2.2.2.1) x.1 (x.2.1,x.2.2.1,x.2.2.2.1,x.2.2.2.2.1,x.2.2.2.2.2.1,x.2.2.2.2.2.2.1,x.2.2.2.2.2.2.2.1,x.2.2.2.2.2.2.2.2.1,x.2.2.2.2.2.2.2.2.2.1,x.2.2.2.2.2.2.2.2.2.2.1)⟩
def s_l34Place.con:Con:=⟨186,⟨[(0,.one (.var (.sl tUs))),e1,e4,e5],[]⟩,sh2,false,fun x=>s_l34Place x.1 x.2.1 x.2.2.1 x.2.2.2⟩
def s_UsedCount.con:Con:=⟨148,sh49,sh2,false,fun x=>s_UsedCount (x.1,x.2.1,x.2.2.1) x.2.2.2.1 x.2.2.2.2.1 x.2.2.2.2.2⟩
def s_ReservationRate.con:Con:=⟨149,sh31,sh2,false,fun x=>s_ReservationRate x.1 x.2.1 x.2.2.1 x.2.2.2.1 x.2.2.2.2⟩
def s_l34More.con:Con:=⟨150,sh49,sh27,false,fun x=>s_l34More (x.1,x.2.1,x.2.2.1) x.2.2.2.1 x.2.2.2.2.1 x.2.2.2.2.2⟩
def s_FreeRate.con:Con:=⟨151,sh31,sh2,false,fun x=>s_FreeRate x.1 x.2.1 x.2.2.1 x.2.2.2.1 x.2.2.2.2⟩
def s_Transmit.con:Con:=⟨94,sh59,⟨[(0,ag15),e28],[o14,(1,ow14)]⟩,false,fun x=>s_Transmit (x.1,x.2.1,x.2.2.1) x.2.2.2.1 x.2.2.2.2.1 x.2.2.2.2.2.1 x.2.2.2.2.2.2⟩
def s_l37Door.con:Con:=⟨96,sh10,sh2,false,fun x=>s_l37Door (x.1,x.2.1,x.2.2.1,x.2.2.2.1,x.2.2.2.2.1,x.2.2.2.2.2.1,x.2.2.2.2.2.2.1,x.2.2.2.2.2.2.2.1,x.2.2.2.2.2.2.2.2.1,x.2.2.2.2.2.2.2.2.2)⟩
def s_TruncatePath.con:Con:=⟨98,sh10,sh6,false,fun x=>s_TruncatePath (x.1,x.2.1,x.2.2.1,x.2.2.2.1,x.2.2.2.2.1,x.2.2.2.2.2.1,x.2.2.2.2.2.2.1,x.2.2.2.2.2.2.2.1,x.2.2.2.2.2.2.2.2.1,x.2.2.2.2.2.2.2.2.2)⟩
def s_AppendVarint.con:Con:=⟨212,sh34,sh50,false,fun x=>s_AppendVarint x.1 x.2⟩
def s_EncodeInts.con:Con:=⟨189,sh15,sh50,false,fun x=>s_EncodeInts x⟩
def s_EncodeRevocation.con:Con:=⟨154,sh42,sh50,false,fun x=>s_EncodeRevocation (x.1,x.2.1,x.2.2)⟩
def s_MakeRevocation.con:Con:=⟨95,⟨[e6,e1,e4,e5,(4,ag3)],[]⟩,sh20,false,fun x=>s_MakeRevocation (x.1,x.2.1) x.2.2.1 x.2.2.2.1 x.2.2.2.2.1 (x.2.2.2.2.2.1,x.2.2.2.2.2.2.1,x.2.2.2.2.2.2.2.1,x.2.2.2.2.2.2.2.2.1,x.2.2.2.2.2.2.2.2.2.1,x.2.2.2.2.2.2.2.2.2.2.1,x.2.2.2.2.2.2.2.2.2.2.2.1,x.2.2.2.2.2.2.2.2.2.2.2.2.1,x.2.2.2.2.2.2.2.2.2.2.2.2.2.1,x.2.2.2.2.2.2.2.2.2.2.2.2.2.2)⟩
def s_l37Arrive'1.con:Con:=⟨56,sh46,sh12,false,fun x=>s_l37Arrive'1 ((x.2.2.2.2.2.2.2.2.2.2.2.2.1,x.2.2.2.2.2.2.2.2.2.2.2.2.2.1),(x.2.2.2.2.2.2.2.2.2.2.2.2.2.2.1,x.2.2.2.2.2.2.2.2.2.2.2.2.2.2.2.1),(x.2.2.2.2.2.2.2.2.2.2.2.2.2.2.2.2.1,x.2.2.2.2.2.2.2.2.2.2.2.2.2.2.2.2.2.1,x.2.2.2.2.2.2.2.2.2.2.2.2.2.2.2.2.2.2.1),x.2.2.2.2.2.2.2.2.2.2.2.2.2.2.2.2.2.2.2.1,x.2.2.2.2.2.2.2.2.2.2.2.2.2.2.2.2.2.2.2.2.1,x.2.2.2.2.2.2.2.2.2.2.2.2.2.2.2.2.2.2.2.2.2.2.1,x.2.2.2.2.2.2.2.2.2.2.2.2.2.2.2.2.2.2.2.2.2.2.2.1,x.2.2.2.2.2.2.2.2.2.2.2.2.2.2.2.2.2.2.2.2.2.2.2.2,x.2.2.2.2.2.2.2.2.2.2.2.2.2.2.2.2.2.2.2.2.2.1) x.1 x.2.1 (x.2.2.1,x.2.2.2.1,x.2.2.2.2.1,x.2.2.2.2.2.1,x.2.2.2.2.2.2.1,x.2.2.2.2.2.2.2.1,x.2.2.2.2.2.2.2.2.1,x.2.2.2.2.2.2.2.2.2.1,x.2.2.2.2.2.2.2.2.2.2.1,x.2.2.2.2.2.2.2.2.2.2.2.1)⟩
def s_l37Home.con:Con:=⟨93,sh48,sh12,false,fun x=>s_l37Home ((x.2.2.2.2.2.2.2.2.2.2.2.1,x.2.2.2.2.2.2.2.2.2.2.2.2.1),(x.2.2.2.2.2.2.2.2.2.2.2.2.2.1,x.2.2.2.2.2.2.2.2.2.2.2.2.2.2.1),(x.2.2.2.2.2.2.2.2.2.2.2.2.2.2.2.1,x.2.2.2.2.2.2.2.2.2.2.2.2.2.2.2.2.1,x.2.2.2.2.2.2.2.2.2.2.2.2.2.2.2.2.2.1),x.2.2.2.2.2.2.2.2.2.2.2.2.2.2.2.2.2.2.1,x.2.2.2.2.2.2.2.2.2.2.2.2.2.2.2.2.2.2.2.1,x.2.2.2.2.2.2.2.2.2.2.2.2.2.2.2.2.2.2.2.2.2.1,x.2.2.2.2.2.2.2.2.2.2.2.2.2.2.2.2.2.2.2.2.2.2.1,x.2.2.2.2.2.2.2.2.2.2.2.2.2.2.2.2.2.2.2.2.2.2.2,x.2.2.2.2.2.2.2.2.2.2.2.2.2.2.2.2.2.2.2.2.1) x.1 (x.2.1,x.2.2.1,x.2.2.2.1,x.2.2.2.2.1,x.2.2.2.2.2.1,x.2.2.2.2.2.2.1,x.2.2.2.2.2.2.2.1,x.2.2.2.2.2.2.2.2.1,x.2.2.2.2.2.2.2.2.2.1,x.2.2.2.2.2.2.2.2.2.2.1)⟩
def s_l37Arrive.con:Con:=⟨56,sh46,sh12,false,fun x=>s_l37Arrive ((x.2.2.2.2.2.2.2.2.2.2.2.2.1,x.2.2.2.2.2.2.2.2.2.2.2.2.2.1),(x.2.2.2.2.2.2.2.2.2.2.2.2.2.2.1,x.2.2.2.2.2.2.2.2.2.2.2.2.2.2.2.1),(x.2.2.2.2.2.2.2.2.2.2.2.2.2.2.2.2.1,x.2.2.2.2.2.2.2.2.2.2.2.2.2.2.2.2.2.1,x.2.2.2.2.2.2.2.2.2.2.2.2.2.2.2.2.2.2.1),x.2.2.2.2.2.2.2.2.2.2.2.2.2.2.2.2.2.2.2.1,x.2.2.2.2.2.2.2.2.2.2.2.2.2.2.2.2.2.2.2.2.1,x.2.2.2.2.2.2.2.2.2.2.2.2.2.2.2.2.2.2.2.2.2.2.1,x.2.2.2.2.2.2.2.2.2.2.2.2.2.2.2.2.2.2.2.2.2.2.2.1,x.2.2.2.2.2.2.2.2.2.2.2.2.2.2.2.2.2.2.2.2.2.2.2.2,x.2.2.2.2.2.2.2.2.2.2.2.2.2.2.2.2.2.2.2.2.2.1) x.1 x.2.1 (x.2.2.1,x.2.2.2.1,x.2.2.2.2.1,x.2.2.2.2.2.1,x.2.2.2.2.2.2.1,x.2.2.2.2.2.2.2.1,x.2.2.2.2.2.2.2.2.1,x.2.2.2.2.2.2.2.2.2.1,x.2.2.2.2.2.2.2.2.2.2.1,x.2.2.2.2.2.2.2.2.2.2.2.1)⟩
def s_l38Tick.con:Con:=⟨54,⟨[e9],[o4,o3,o2,o5]⟩,sh32,false,fun x=>s_l38Tick ((x.1,x.2.1),(x.2.2.1,x.2.2.2.1),(x.2.2.2.2.1,x.2.2.2.2.2.1,x.2.2.2.2.2.2.1),x.2.2.2.2.2.2.2.1,x.2.2.2.2.2.2.2.2.1,x.2.2.2.2.2.2.2.2.2.2.1,x.2.2.2.2.2.2.2.2.2.2.2.1,x.2.2.2.2.2.2.2.2.2.2.2.2,x.2.2.2.2.2.2.2.2.2.1)⟩
def s_l38Gone.con:Con:=⟨55,⟨[e9,e1],[o4,o3,o2,o5]⟩,⟨[(0,.agg [.var ti,.var ti,.var ti,.var ti,.var ti,.var (.sl tPp),.var ti,.var ti,.var ti,.var ti,.var ti,.var (.sl tb)])],[o3,o2,o5,o4]⟩,false,fun x=>s_l38Gone ((x.2.1,x.2.2.1),(x.2.2.2.1,x.2.2.2.2.1),(x.2.2.2.2.2.1,x.2.2.2.2.2.2.1,x.2.2.2.2.2.2.2.1),x.2.2.2.2.2.2.2.2.1,x.2.2.2.2.2.2.2.2.2.1,x.2.2.2.2.2.2.2.2.2.2.2.1,x.2.2.2.2.2.2.2.2.2.2.2.2.1,x.2.2.2.2.2.2.2.2.2.2.2.2.2,x.2.2.2.2.2.2.2.2.2.2.1) x.1⟩
def s_l38Link.con:Con:=⟨58,⟨[e9,e1,e17],[o4,o3,o2,o5]⟩,sh32,false,fun x=>s_l38Link ((x.2.2.1,x.2.2.2.1),(x.2.2.2.2.1,x.2.2.2.2.2.1),(x.2.2.2.2.2.2.1,x.2.2.2.2.2.2.2.1,x.2.2.2.2.2.2.2.2.1),x.2.2.2.2.2.2.2.2.2.1,x.2.2.2.2.2.2.2.2.2.2.1,x.2.2.2.2.2.2.2.2.2.2.2.2.1,x.2.2.2.2.2.2.2.2.2.2.2.2.2.1,x.2.2.2.2.2.2.2.2.2.2.2.2.2.2,x.2.2.2.2.2.2.2.2.2.2.2.1) x.1 x.2.1⟩
def s_l38Flow.con:Con:=⟨60,sh60,sh32,false,fun x=>s_l38Flow ((x.2.2.2.2.2.2.2.2.2.2.2.2.2.2.2.1,x.2.2.2.2.2.2.2.2.2.2.2.2.2.2.2.2.1),(x.2.2.2.2.2.2.2.2.2.2.2.2.2.2.2.2.2.1,x.2.2.2.2.2.2.2.2.2.2.2.2.2.2.2.2.2.2.1),(x.2.2.2.2.2.2.2.2.2.2.2.2.2.2.2.2.2.2.2.1,x.2.2.2.2.2.2.2.2.2.2.2.2.2.2.2.2.2.2.2.2.1,x.2.2.2.2.2.2.2.2.2.2.2.2.2.2.2.2.2.2.2.2.2.1),x.2.2.2.2.2.2.2.2.2.2.2.2.2.2.2.2.2.2.2.2.2.2.1,x.2.2.2.2.2.2.2.2.2.2.2.2.2.2.2.2.2.2.2.2.2.2.2.1,x.2.2.2.2.2.2.2.2.2.2.2.2.2.2.2.2.2.2.2.2.2.2.2.2.2.1,x.2.2.2.2.2.2.2.2.2.2.2.2.2.2.2.2.2.2.2.2.2.2.2.2.2.2.1,x.2.2.2.2.2.2.2.2.2.2.2.2.2.2.2.2.2.2.2.2.2.2.2.2.2.2.2,x.2.2.2.2.2.2.2.2.2.2.2.2.2.2.2.2.2.2.2.2.2.2.2.2.1) (x.1,x.2.1,x.2.2.1,(x.2.2.2.1,x.2.2.2.2.1,(x.2.2.2.2.2.1,x.2.2.2.2.2.2.1,x.2.2.2.2.2.2.2.1,x.2.2.2.2.2.2.2.2.1,x.2.2.2.2.2.2.2.2.2.1,x.2.2.2.2.2.2.2.2.2.2.1,x.2.2.2.2.2.2.2.2.2.2.2.1,x.2.2.2.2.2.2.2.2.2.2.2.2.1,x.2.2.2.2.2.2.2.2.2.2.2.2.2.1,x.2.2.2.2.2.2.2.2.2.2.2.2.2.2.1)))⟩
def s_l38Do.con:Con:=⟨28,sh60,sh32,false,fun x=>s_l38Do ((x.2.2.2.2.2.2.2.2.2.2.2.2.2.2.2.1,x.2.2.2.2.2.2.2.2.2.2.2.2.2.2.2.2.1),(x.2.2.2.2.2.2.2.2.2.2.2.2.2.2.2.2.2.1,x.2.2.2.2.2.2.2.2.2.2.2.2.2.2.2.2.2.2.1),(x.2.2.2.2.2.2.2.2.2.2.2.2.2.2.2.2.2.2.2.1,x.2.2.2.2.2.2.2.2.2.2.2.2.2.2.2.2.2.2.2.2.1,x.2.2.2.2.2.2.2.2.2.2.2.2.2.2.2.2.2.2.2.2.2.1),x.2.2.2.2.2.2.2.2.2.2.2.2.2.2.2.2.2.2.2.2.2.2.1,x.2.2.2.2.2.2.2.2.2.2.2.2.2.2.2.2.2.2.2.2.2.2.2.1,x.2.2.2.2.2.2.2.2.2.2.2.2.2.2.2.2.2.2.2.2.2.2.2.2.2.1,x.2.2.2.2.2.2.2.2.2.2.2.2.2.2.2.2.2.2.2.2.2.2.2.2.2.2.1,x.2.2.2.2.2.2.2.2.2.2.2.2.2.2.2.2.2.2.2.2.2.2.2.2.2.2.2,x.2.2.2.2.2.2.2.2.2.2.2.2.2.2.2.2.2.2.2.2.2.2.2.2.1) (x.1,x.2.1,x.2.2.1,(x.2.2.2.1,x.2.2.2.2.1,(x.2.2.2.2.2.1,x.2.2.2.2.2.2.1,x.2.2.2.2.2.2.2.1,x.2.2.2.2.2.2.2.2.1,x.2.2.2.2.2.2.2.2.2.1,x.2.2.2.2.2.2.2.2.2.2.1,x.2.2.2.2.2.2.2.2.2.2.2.1,x.2.2.2.2.2.2.2.2.2.2.2.2.1,x.2.2.2.2.2.2.2.2.2.2.2.2.2.1,x.2.2.2.2.2.2.2.2.2.2.2.2.2.2.1)))⟩
def s_l38Forge'r.con:Con:=⟨52,sh61,⟨[(0,.agg [.var ti,.var ti,.row 1,.var ti,.var ti,.var ti,.var ti,.var ti,.var (.sl tPp),.var ti,.var ti,.var ti,.var ti,.var ti,.row 0])],[o24,o7,o1,o32,o33,o34]⟩,false,fun x=>s_l38Forge'r (x.2.2.2.2.2.2.2.2.2.2.1,x.2.2.2.2.2.2.2.2.2.2.2.1,x.2.2.2.2.2.2.2.2.2.2.2.2.1) ((x.1,x.2.1),(x.2.2.1,x.2.2.2.1),(x.2.2.2.2.1,x.2.2.2.2.2.1,x.2.2.2.2.2.2.1),x.2.2.2.2.2.2.2.1,x.2.2.2.2.2.2.2.2.1,x.2.2.2.2.2.2.2.2.2.2.2.2.2.1,x.2.2.2.2.2.2.2.2.2.2.2.2.2.2.1,x.2.2.2.2.2.2.2.2.2.2.2.2.2.2.2,x.2.2.2.2.2.2.2.2.2.1)⟩
def s_l38Next'r.con:Con:=⟨27,sh61,⟨[(0,.agg [.var ti,.var ti,.row 0,.var ti,.var ti,.var ti,.var ti,.var ti,.var (.sl tPp),.var ti,.var ti,.var ti,.var ti,.var ti,.row 1])],[o24,o7,o1,o32,o33,o34]⟩,false,fun x=>s_l38Next'r (x.2.2.2.2.2.2.2.2.2.2.1,x.2.2.2.2.2.2.2.2.2.2.2.1,x.2.2.2.2.2.2.2.2.2.2.2.2.1) ((x.1,x.2.1),(x.2.2.1,x.2.2.2.1),(x.2.2.2.2.1,x.2.2.2.2.2.1,x.2.2.2.2.2.2.1),x.2.2.2.2.2.2.2.1,x.2.2.2.2.2.2.2.2.1,x.2.2.2.2.2.2.2.2.2.2.2.2.2.1,x.2.2.2.2.2.2.2.2.2.2.2.2.2.2.1,x.2.2.2.2.2.2.2.2.2.2.2.2.2.2.2,x.2.2.2.2.2.2.2.2.2.1)⟩
def s_l38Run.con:Con:=⟨17,sh14,⟨[(0,ag16),(1,.one (.var (.sl tEvent))),(2,.agg [.var (.sl tAS),.var (.sl tLk),.var (.sl tSg),.var (.sl tSg),.var ti,.var (.sl tRs),.var (.sl tUs),.var ti,.var (.sl ti),.row 10,.row 11,.row 12,.var ti])],[o21,o22,(2,ow5),(3,ow5),(4,ow9),(5,ow14),o15,(7,ow16),(8,ow1),(9,ow17),(10,ow4),(11,ow1),(12,ow7),o1]⟩,false,fun x=>s_l38Run (x.2.1,x.2.2.1,x.2.2.2) x.1⟩
def s_l38World.con:Con:=⟨10,sh14,⟨[(0,ag24)],[o3,o2,o5,o1]⟩,false,fun x=>s_l38World (x.2.1,x.2.2.1,x.2.2.2) x.1⟩
def s_DrawNetwork.con:Con:=⟨5,sh13,⟨[(0,ag24)],[o3,o2,o5]⟩,false,fun x=>s_DrawNetwork x⟩
def i_copyInts.con:Con:=⟨18,sh15,sh9,false,fun x=>i_copyInts x⟩
def i_insertInt.con:Con:=⟨12,⟨[e36,e1],[]⟩,sh15,false,fun x=>i_insertInt x.1 x.2⟩
def i_Interfaces.con:Con:=⟨6,sh35,sh15,false,fun x=>i_Interfaces (x.1,x.2.1) x.2.2⟩
def i_SentCount.con:Con:=⟨7,⟨[e29,e1,e4],[]⟩,sh2,false,fun x=>i_SentCount (x.1,x.2.1,x.2.2.1) x.2.2.2.1 x.2.2.2.2⟩
def i_IR.con:Con:=⟨13,sh36,sh1,false,fun x=>i_IR x.1 x.2.1 x.2.2⟩
def i_ValidRevocation.con:Con:=⟨29,sh42,sh1,false,fun x=>i_ValidRevocation (x.1,x.2.1,x.2.2)⟩
def i_ValidReservation.con:Con:=⟨19,sh26,sh1,false,fun x=>i_ValidReservation (x.1,x.2.1,x.2.2.1,x.2.2.2.1,x.2.2.2.2)⟩
def i_Reservation_at.con:Con:=⟨21,⟨[e32,e1,e4],[]⟩,sh1,false,fun x=>i_Reservation_at (x.1,x.2.1,x.2.2.1,x.2.2.2.1,x.2.2.2.2.1) x.2.2.2.2.2.1 x.2.2.2.2.2.2⟩
def i_ReservedRate.con:Con:=⟨20,sh57,sh2,false,fun x=>i_ReservedRate x.1 x.2.1 x.2.2.1 x.2.2.2⟩
def i_ValidReservations.con:Con:=⟨14,⟨[e22,e1,e4],[]⟩,sh1,false,fun x=>i_ValidReservations x.1 x.2.1 x.2.2⟩
def i_usageAt.con:Con:=⟨15,sh49,sh2,false,fun x=>i_usageAt (x.1,x.2.1,x.2.2.1) x.2.2.2.1 x.2.2.2.2.1 x.2.2.2.2.2⟩
def i_Max.con:Con:=⟨30,sh5,sh2,false,fun x=>i_Max x.1 x.2⟩
def i_FreeRate.con:Con:=⟨22,sh31,sh2,false,fun x=>i_FreeRate x.1 x.2.1 x.2.2.1 x.2.2.2.1 x.2.2.2.2⟩
def i_ReservationRate.con:Con:=⟨23,sh31,sh2,false,fun x=>i_ReservationRate x.1 x.2.1 x.2.2.1 x.2.2.2.1 x.2.2.2.2⟩
def i_rateOf.con:Con:=⟨16,sh59,sh2,false,fun x=>i_rateOf (x.1,x.2.1,x.2.2.1) x.2.2.2.1 x.2.2.2.2.1 x.2.2.2.2.2.1 x.2.2.2.2.2.2⟩
def i_ValidScheduler.con:Con:=⟨8,⟨[e29,e1],[]⟩,sh1,false,fun x=>i_ValidScheduler (x.1,x.2.1,x.2.2.1) x.2.2.2⟩
def l_FnPlenty.con:Con:=⟨3,sh13,sh1,false,fun x=>l_FnPlenty x⟩
end

end Go.Proofs.YtgacgopkefidaaaGreat
