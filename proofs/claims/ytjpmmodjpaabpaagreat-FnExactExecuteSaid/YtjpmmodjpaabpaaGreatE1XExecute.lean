/-
  The functions of the program compute what their definitions say. Conditions: none.
-/
import Derived.Test.YtjpmmodjpaabpaaGreatE0XExecute
set_option linter.unusedVariables false
set_option linter.unusedSimpArgs false
set_option maxRecDepth 100000
set_option linter.defProp false
namespace Go.Proofs.YtjpmmodjpaabpaaGreat
open Go.Ab Go.V
open Tryz
def wT.o:OK wT.k:=fk func216 (uE.o.c nok) (.q (.cut sh4 .z .z))
def uL.o:OK uL.k:=fk func119 (dY.o.c (mZ.o.c (pT.o.c (wT.o.c (cG.o.c (dO.o.c nok)))))) (.q (.cut cCl .z (.cut ⟨[k6,k7],[j6,o29,o51,o52]⟩ (.cut ⟨[k3,k5,k6,k7,(27,vr2)],[j3,j5,j6,j7,aOp,aCg]⟩ .z .z) .z)))
def sR.o:OK sR.k:=fk func120 nok .z
def pV.o:OK pV.k:=fk func307 (cR.o.c (kU.o.c (lH.o.c (kH.o.c (pC.o.c (vI.o.c nok)))))) (.q (.q (.q (.q (.cut bZr (.q (.block (.loop ⟨[k2,k3,k4,e67,k10,k24,k25,(26,vr1)],[j4,j10,bPg,o43,qI]⟩ (.q (.q (.cut ⟨[k2,k3,k4,e67,k10,k24,k25,k26],[j4,j10,bPg,o43,qI]⟩ (.block (.q (.cut ⟨[k2,k3,k4,k9,k10,k12,e63,(14,vr2),k24,k25,k26],[j4,j10,(13,.box [.var ti,.var ti,.row 1736]),bPg,(1736,aR4),fR,qI]⟩ .z .z))) .z)))))) .z)))))
def pN.o:OK pN.k:=fk func308 (cR.o.c (kU.o.c (lC.o.c (aAs.o.c (vI.o.c nok))))) (.q (.q (.q (.q (.cut bZr (.q (.block (.loop ⟨[k2,k4,e67,k10,k23,k24,(25,vr1)],[j4,j10,o43,qI]⟩ (.q (.q (.cut ⟨[k2,k4,e67,k10,k23,k24,k25],[j4,j10,o43,qI]⟩ (.block (.q (.q (.block (.loop ⟨[k2,k4,e67,k10,k12,k23,k24,k25,k36,k37,(38,vr1)],[j4,j10,j12,cAb,o43,qI]⟩ .z))))) .z)))))) .z)))))
def gK.o:OK gK.k:=fk func212 (pV.o.c (pN.o.c (jD.o.c nok))) (.q (.q (.cut ⟨[k3,k5,k6,e53],[j3,j5,j6,o43,o47]⟩ (.q (.block (.loop ⟨[k1,k3,k5,k6,e53,k11,k12,e50],[j3,j5,j6,o43,o47]⟩ .z))) .z)))
def cZ.o:OK cZ.k:=fk func117 (sK.o.c (gK.o.c nok)) (.q (.q (.cut bZk (.q (.block (.loop bZt .z))) .z)))
def cM.o:OK cM.k:=fk func116 (kU.o.c (rA.o.c (dO.o.c nok))) (.q (.q (.cut ⟨[k6,k7],[j6,o29,o51,o52,qI]⟩ (.q (.block (.loop ⟨[k1,k3,k6,k7,k15,k16,(17,vr1)],[j3,j6,o29,o51,o52,qI]⟩ (.q (.q (.cut ⟨[k1,k3,k6,k7,k15,k16,k17],[j3,j6,o29,o51,o52,qI]⟩ (.block (.q (.q (.block (.loop ⟨[k1,k3,k6,k7,k8,k15,k16,k17,k23,k24,(25,vr1)],[j3,j6,o29,o51,o52,qI]⟩ (.q (.q (.cut ⟨[k1,k3,k6,k7,k8,k15,k16,k17,k23,k24,k25],[j3,j6,o29,o51,o52,qI]⟩ (.block (.q (.cut ⟨[k1,k3,k6,k7,k8,(12,.one (.ptr 12 0)),(13,vr2),k15,k16,k17,k23,k24,k25],[j3,j6,j7,(12,.box [.var ti,.var ti,.row 1624]),(1624,aR4),fR,aGt,qI]⟩ .z .z))) .z)))))))) .z)))))) .z)))
def pP.o:OK pP.k:=fk func62 (cZ.o.c (cM.o.c (dY.o.c (uL.o.c (sR.o.c (dT.o.c nok)))))) (.q (.cut ⟨[k0,(3,bWd)],[(0,bG4),(3,cHk),(1432,aLa),(1433,aLa),aQ]⟩ .z (.cut ⟨[k0],[j0,o6]⟩ (.q (.block (.loop ⟨[k0,k33,k34,(35,vr1)],[j0,cKw,o6]⟩ .z))) .z)))
def mK.o:OK mK.k:=fk func63 (hZ.o.c nok) .z
def yC.o:OK yC.k:=fk func222 (dT.o.c (pU.o.c nok)) (.q (.q (.cut cCv (.q (.block (.loop ⟨[k2,e26,k8,k9,e24],[j2,(300001,.row 9 1 .str true)]⟩ .z))) .z)))
def jE.o:OK jE.k:=fk func132 nok (.q (.q (.cut bPe (.q (.block (.loop ⟨[k1,e34,k8,k9,e24],[]⟩ (.q (.q (.seq (.block (.q (.cut ⟨[k1,e34,k7,k8,k9,k10],[]⟩ .z .z))) .z)))))) .z)))
def xS.o:OK xS.k:=fk func137 (jE.o.c nok) .z
def tX.o:OK tX.k:=fk func123 (kR.o.c (yC.o.c (xS.o.c nok))) .z
def tI.o:OK tI.k:=fk func64 (mK.o.c (tF.o.c (tX.o.c nok))) .z
def sN.o:OK sN.k:=fk func224 (aY.o.c nok) (.q (.cut ⟨[e2,k2],[j2]⟩ .z .z))
def tV.o:OK tV.k:=fk func124 (cR.o.c (aY.o.c (eO.o.c (mS.o.c (sN.o.c nok))))) (.q (.seq (.cut cBp .z .z) .z))
def vO.o:OK vO.k:=fk func65 (tV.o.c (gP.o.c (pJ.o.c nok))) .z
def aD4.o:OK aD4.k:=fk func67 nok .z
def aEb.o:OK aEb.k:=fk func128 nok .z
def wK.o:OK wK.k:=fk func66 (eX.o.c (mQ.o.c (fT.o.c (qZ.o.c (hZ.o.c (tR.o.c (aEb.o.c nok))))))) (.q (.q (.seq (.cut cAc .z .z) (.cut ⟨[k3,k4,k6],[j3,j4,(6,cHc),aKj,bAc,aY3,aY6,aYl,aYy,aZi,bAd,(1136,aLm),aX4]⟩ .z .z))))
def jS.o:OK jS.k:=fk func228 (gO.o.c (cC.o.c nok)) (.q (.block (.loop cAe (.seq (.cut ⟨[k0,k1,k4,e83],[fR,aGt,aPj,aQ]⟩ .z .z) .z))))
def nR.o:OK nR.k:=fk func130 (nF.o.c (jS.o.c nok)) .z
def rG.o:OK rG.k:=fk func68 (eX.o.c (gP.o.c (aY.o.c (nR.o.c nok)))) (.q (.q (.cut bZx (.cut ⟨[k1,k4,k5,(14,vr2)],[j4,j5,aKj,bAc,aY3,aY6,aYl,aYy,aZi,bAd,bNm,aX4]⟩ .z (.cond (.q (.block (.loop bZ6 .z))) .z)) .z)))
def wF.o:OK wF.k:=fk func131 nok (.q (.q (.cut ⟨[(3,.one (.row 16))],[(16,ow1)]⟩ (.q (.block (.loop ⟨[(3,.one (.row 16)),k18,k19,(20,vr1)],[(16,ow1)]⟩ .z))) .z)))
def eM.o:OK eM.k:=fk func69 (wF.o.c (dT.o.c (jE.o.c nok))) (.q (.q (.cut ⟨[e13],[j0,(300001,.row 9 1 .str true),aQ]⟩ (.q (.block (.loop ⟨[e13,k10,k11,e49],[j0,aOp,(300001,.row 9 1 .str true),aQ]⟩ .z))) .z)))
def iX.o:OK iX.k:=fk func133 (aIo.o.c nok) (.q (.q (.cut bCd (.q (.block (.loop ⟨[e6,k7,k8,e21],[]⟩ .z))) .z)))
def aD5.o:OK aD5.k:=fk func70 (iX.o.c (rG.o.c nok)) .z
def mA.o:OK mA.k:=fk func71 (jE.o.c nok) (.q (.q (.q (.cut ⟨[e26],[j0,(300001,.row 9 1 .str true),aQ]⟩ (.q (.block (.loop ⟨[e26,k24,k25,(26,vr1)],[j0,(300001,.row 9 1 .str true),aQ]⟩ .z))) .z))))
def aBk.o:OK aBk.k:=fk func440 (xU.o.c nok) .z
def yT.o:OK yT.k:=fk func332 (eL.o.c (dZ.o.c (aBk.o.c (fC.o.c nok)))) (.q (.q (.q (.q (.block (.loop ⟨[k1,k2,k4,k8,e21,e24,k11,e49],[j4,j8,(11,.box [.var ti,.row 300001,.var ti,.var ti,.var ti,.var (.sl tPp),.var ti,.var ti,.var ti,.var ti,.var ti,.var (.sl tb)]),o42]⟩ (.seq (.block (.cut ⟨[k1,k2,k4,k8,k9,k10,k11,k12,e63],[j4,j8,j11,(13,cGw),fR]⟩ .z (.q (.q (.seq (.cut ⟨[k1,k2,k4,k8,k9,k10,k11,k12,k13,(45,vr2)],[j4,j8,j11,j13,fR]⟩ .z .z) (.q (.seq (.cut ⟨[k1,k2,k4,k8,k9,k11,k12,k13,(63,vr2)],[j4,j8,j11,j13,fR]⟩ .z .z) .z))))))) .z)))))))
def aBs.o:OK aBs.k:=fk func231 (kW.o.c (yT.o.c nok)) .z
def vE.o:OK vE.k:=fk func134 (iX.o.c (jX.o.c (aBs.o.c nok))) (.q (.q (.cutR sh3 (.q (.block (.loop ⟨[k2,k5,k18,k19,(20,vr1)],[j2]⟩ (.q (.q (.seq (.block (.q (.q (.q (.cut ⟨[k2,k5,k6,(9,vr2),k18,k19,k20],[j2]⟩ (.q (.block (.loop ⟨[k2,k5,k6,k7,k8,(9,vr2),k18,k19,k20,k30,k31,(32,vr1)],[j2,j7,j8,j30,bZj]⟩ (.q (.q (.cut ⟨[k2,k5,k6,k7,k8,(9,vr2),k18,k19,k20,k30,k31,k32],[j2,j7,j8,j30,bZj]⟩ .z .z)))))) .z))))) .z)))))) .z)))
def pK.o:OK pK.k:=fk func72 (vE.o.c nok) (.q (.cutR sh3 (.q (.block (.loop ⟨[k1,k6,k7,e17],[j1]⟩ (.q (.q (.seq (.block (.q (.cut ⟨[k1,k6,k7,k8,e81],[j1]⟩ .z .z))) .z)))))) .z))
def aD8.o:OK aD8.k:=fk func73 (fA.o.c nok) (.q (.cutR aJ4 (.q (.block (.loop ⟨[k1,k8,k9,e24],[j1]⟩ .z))) .z))
def jO.o:OK jO.k:=fk func233 (pU.o.c (dT.o.c nok)) .z
def xI.o:OK xI.k:=fk func136 (aY.o.c (jO.o.c nok)) (.q (.q (.q (.q (.cut cBq .z .z)))))
def mF.o:OK mF.k:=fk func74 (xI.o.c (xS.o.c nok)) (.q (.q (.cut ⟨[e13],[(300001,.row 9 1 .str true)]⟩ (.q (.block (.loop ⟨[k1,e13,k7,e17],[j1,(300001,.row 9 1 .str true)]⟩ .z))) .z)))
def oB.o:OK oB.k:=fk func31 (dT.o.c (mI.o.c (jR.o.c (pP.o.c (mK.o.c (tI.o.c (vO.o.c (aD4.o.c (wK.o.c (pJ.o.c (cT.o.c (rG.o.c (eM.o.c (aD5.o.c (mA.o.c (pK.o.c (aD8.o.c (mF.o.c nok)))))))))))))))))) (.q (.seq (.q (.block (.q (.cond .z (.q (.cond .z (.q (.cond .z (.q (.cond .z (.q (.cond .z (.q (.cond .z (.q (.cond .z (.q (.cond .z (.q (.cond (.cut ⟨[k0,e66,(8,vr2)],[j0,(7,.box [.row 2536,.row 2537,.row 2538,.row 2539,.var ti,.row 2540,.row 2541,.var ti,.row 2542,.row 2543,.row 2544,.row 2545,.var ti]),(2536,aXj),(2537,aWj),(2538,ow4),(2539,ow4),(2540,aIv),(2541,aNv),(2542,ow1),(2543,aJs),(2544,aLm),(2545,aNn),aQ]⟩ .z .z) .z)))))))))))))))))))) .z))
def fJ.o:OK fJ.k:=fk func13 (aAb.o.c (wJ.o.c (cT.o.c (tD.o.c (eJ.o.c (oB.o.c (Con.Ok.c (bFv _ 43) nok))))))) (.q (.q (.seq (.q (.cond (.seq (.cut ⟨[k0,k5,e82],[j0,cK6,aQ]⟩ .z .z) .z) .z)) (.seq (.q (.cond (.q (.q (.cutR ⟨[],[j0,aQ]⟩ (.q (.block (.loop ⟨[k0,k5,k8,k9,k59,k60,(61,vr1)],[j0,j59,bNi,aQ]⟩ (.cut ⟨[k0,k5,k8,k9,k59,k60,k61,(62,vr2)],[j0,j59,bNi,aQ]⟩ .z (.q (.seq (.block (.q (.cut ⟨[k0,k5,k8,k9,k10,k59,k60,k61,(73,vr2)],[j0,j59,bNi,aQ]⟩ .z .z))) .z)))))) .z))) .z)) .z))))
def aDv.o:OK aDv.k:=fk func6 (aAb.o.c (fJ.o.c nok)) (.q (.q (.cut cBo .z (.seq (.cut ⟨[k3,e90],[]⟩ .z .z) (.q (.q (.cut bPe (.q (.block (.loop ⟨[k4,e34,k32,k33,(34,vr1)],[(31,cI6),o57]⟩ (.q (.q (.cut ⟨[k4,e34,k32,k33,k34],[(31,cI6),o57]⟩ .z .z)))))) .z)))))))
def l_FnExactExecute.o:OK l_FnExactExecute.k:=fk func3 (aDq.o.c (aDv.o.c nok)) .z
end Go.Proofs.YtjpmmodjpaabpaaGreat
