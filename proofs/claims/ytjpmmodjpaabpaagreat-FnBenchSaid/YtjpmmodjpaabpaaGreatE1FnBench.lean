/-
  The functions of the program compute what their definitions say. Conditions: none.
-/
import Derived.Test.YtjpmmodjpaabpaaGreatE0FnBench
set_option linter.unusedVariables false
set_option linter.unusedSimpArgs false
set_option maxRecDepth 100000
namespace Go.Proofs.YtjpmmodjpaabpaaGreat
open Go.Ab Go.V
open Tryz
theorem uK.o:OK uK.k:=fk func178 (xC.o.c A5) (.q (.q (.cutR sh3 (.q (.block (.loop Nl .z))) .z)))
theorem Jd.o:OK Jd.k:=fk func97 (uK.o.c A5) (.q (.cutR sh3 (.q (.block (.loop YL .z))) .z))
theorem fO.o:OK fO.k:=fk func49 (qD.o.c (tR.o.c (Jd.o.c A5))) (.q (.q (.q (.cut ⟨[(11,Rp)],[(14,Rv)]⟩ (.q (.block (.loop ⟨[k4,k5,(11,Rp),k12,e49],[j5,(14,Rv),OQ]⟩ (.seq (.cut ⟨[k4,k5,k11,k12,k13,e80],[j5,j14,OQ]⟩ .z .z) (.cut ⟨[k4,k5,(11,Rp),k12,k13],[j5,(14,Rv),OQ]⟩ (.block (.cut ⟨[k4,k5,k11,k12,k13,(46,vr2)],[j5,j14,OQ]⟩ .z .z)) .z))))) .z))))
theorem rH.o:OK rH.k:=fk func179 (gM.o.c A5) .z
theorem pD.o:OK pD.k:=fk func180 A5 (.q (.q (.q (.cut P1 (.q (.block (.loop ⟨[k1,e6,e13,e10],[j1]⟩ (.q (.cut ⟨[k1,e6,e13,k5],[j1]⟩ (.block (.q (.block (.loop ⟨[k1,e6,e13,k5,e17],[j1]⟩ (.q (.cut ⟨[k1,e6,e13,k5,k6],[j1]⟩ (.block (.q (.cut ⟨[k1,k3,k4,k5,k6,k7,(42,vr2)],[j1]⟩ .z .z))) .z)))))) .z))))) .z))))
theorem tV.o:OK tV.k:=fk func181 (yI.o.c A5) (.q (.q (.cut ⟨[(3,Rm)],[(7,ow1)]⟩ (.q (.block (.loop ⟨[k1,(3,Rm),e8],[j1,(7,ow1)]⟩ (.q (.cut ⟨[k1,(3,Rm),k4],[j1,(7,ow1)]⟩ (.block (.q (.q (.block (.loop ⟨[k1,(3,Rm),k4,e10],[j1,(7,ow1)]⟩ .z))))) .z))))) .z)))
theorem xN.o:OK xN.k:=fk func98 (rH.o.c (pD.o.c (tV.o.c A5))) .z
theorem tJ.o:OK tJ.k:=fk func50 (xN.o.c (lJ.o.c A5)) (.q (.q (.cut ⟨[e12],[o9]⟩ (.q (.block (.loop ⟨[k0,e12,e8],[o9]⟩ (.q (.cut ⟨[k0,(3,.one (.row 37)),k4],[(37,Rv)]⟩ (.block (.q (.cut YC (.block (.loop YC (.seq (.cut ⟨[k0,k3,k4,k5,e90],[fR]⟩ .z .z) .z))) .z))) .z))))) .z)))
theorem jP.o:OK jP.k:=fk func379 A5 (.q (.q (.cut ⟨[e35],[(7,IB)]⟩ (.q (.block (.loop ⟨[k0,k1,e35,e17],[(7,IB)]⟩ (.q (.cut ⟨[k0,k1,e35,k6],[(7,IB)]⟩ .z .z))))) .z)))
theorem IX.o:OK IX.k:=fk func282 (jP.o.c (xQ.o.c A5)) (.q (.q (.cutR sh3 (.q (.block (.loop ⟨[k4,k7,e18],[j4,OS]⟩ .z))) .z)))
theorem nU.o:OK nU.k:=fk func187 (IX.o.c (lJ.o.c A5)) (.q (.q (.cut ⟨[k0,k1,k2,e93],[o53]⟩ (.q (.block (.loop ⟨[k0,k1,k2,e93,e18],[o53]⟩ (.q (.cut ⟨[k0,k1,k2,e93,k8],[o53]⟩ .z .z))))) (.cut ⟨[e93],[o53]⟩ (.q (.block (.loop ⟨[k0,k1,k2,e93,e21],[o53]⟩ (.q (.cut ⟨[k0,k1,k2,e93,k9],[o53]⟩ .z .z))))) .z))))
theorem uE.o:OK uE.k:=fk func105 (gO.o.c (tJ.o.c (nU.o.c (Gv.o.c A5)))) .z
theorem KK.o:OK KK.k:=fk func166 (aJ.o.c (KO.o.c (fO.o.c (uE.o.c A5)))) (.q (.q (.q (.seq (.q (.cond (.q (.cut ⟨[k7],[j0,o1,j2,aR]⟩ .z .z)) .z)) (.cut ⟨[],[j0,o1,j2,aR]⟩ .z .z)))))
theorem qC.o:OK qC.k:=fk func90 (aJ.o.c (Je.o.c (sQ.o.c (fQ.o.c (iQ.o.c (KQ.o.c (cX.o.c (KK.o.c A5)))))))) (.q (.q (.seq (.q (.block (.q (.cond .z (.q (.cond (.cut ⟨[k5],[o17,o15,o18,o26]⟩ .z .z) (.q (.cond (.cut ⟨[k5],[(300004,ow3),(300005,ow2),(300006,ow6),(1000000,.box [.var (.sl CN),.var (.sl C8),.var (.sl B9),.var (.sl B9),.var ti,.var (.sl C9),.var (.sl CW),.var ti,.var (.sl ti),.row 300004,.row 300005,.row 300006,.var ti])]⟩ .z .z) (.q (.cond (.seq (.cut ⟨[k0,k3,(66,vr2)],[j0,j1,j2,j3,aR]⟩ .z .z) (.q (.cut cAt .z .z))) (.cut ⟨[k0,k3,k18,(92,vr2)],[j0,j1,j2,j3,aR]⟩ .z (.cond .z (.q (.cond (.seq (.cut ⟨[k0,k3,(120,vr2)],[j0,j1,j2,j3,aR]⟩ .z .z) (.cut cAt .z .z)) (.cut ⟨[k0,k3,(141,vr2)],[j0,j1,j2,j3,aR]⟩ .z .z))))))))))))))) .z)))
theorem rL.o:OK rL.k:=fk func46 (sX.o.c (gT.o.c (qC.o.c A5))) (.q (.q (.seq (.cut ⟨[k2,k4,k6,e82],[j2,j4,(6,ob5),o17,o15,o18]⟩ .z .z) .z)))
theorem Fy.o:OK Fy.k:=fk func47 A5 .z
theorem sD.o:OK sD.k:=fk func25 (rL.o.c (Fy.o.c A5)) (.q (.cut ⟨[k0,(5,TT),e48],[j0,(5,.box [.var (.sl CN),.var (.sl C8),.var (.sl B9),.var (.sl B9),.var ti,.var (.sl C9),.var (.sl CW),.var ti,.var (.sl ti),.row 1208,.row 1209,.row 1210,.var ti]),(1208,ow3),(1209,ow2),(1210,ow6),aR]⟩ .z .z))
theorem iZ.o:OK iZ.k:=fk func80 (Fe.o.c A5) (.q (.q (.cut P1 (.q (.block (.loop ⟨[k1,e6,e8],[j1]⟩ .z))) .z)))
theorem Jq.o:OK Jq.k:=fk func245 (qC.o.c A5) (.q (.block (.loop cBh (.seq (.cut ⟨[k0,k1,k4,(15,vr2)],[fR,Jy,Qi,aR]⟩ .z .z) .z))))
theorem zG.o:OK zG.k:=fk func148 (qC.o.c (Jq.o.c A5)) .z
theorem rX.o:OK rX.k:=fk func79 (sX.o.c (gT.o.c (aJ.o.c (zG.o.c A5)))) (.q (.q (.seq (.cut ⟨[k1,k4,k5,e82],[j4,j5,Im,QR,QL,QN,QE,QJ,QT,QS,Yl,Q9]⟩ .z .z) (.cut cBp (.q (.block (.loop cDa .z))) .z))))
theorem Jn.o:OK Jn.k:=fk func37 (iZ.o.c (rX.o.c A5)) .z
theorem K3.o:OK K3.k:=fk func81 A5 (.q (.q (.cut ⟨[(3,Nw)],[(15,ow1)]⟩ (.q (.block (.loop ⟨[k1,(3,Nw),e8],[j1,(15,ow1)]⟩ .z))) .z)))
theorem jI.o:OK jI.k:=fk func38 (K3.o.c (cQ.o.c A5)) (.q (.q (.q (.cut ⟨[e54],[]⟩ (.q (.block (.loop ⟨[e54,k4,e10],[MU]⟩ (.q (.seq (.block (.cut ⟨[e54,k4,k5],[MU]⟩ .z .z)) .z))))) .z))))
theorem yY.o:OK yY.k:=fk func350 (iQ.o.c (dJ.o.c (nO.o.c (dN.o.c A5)))) (.q (.q (.q (.q (.cutR ⟨[k8,k9],[j8,(9,cKs),o42,(300002,ow7),(300003,ow9)]⟩ (.q (.block (.loop ⟨[k1,k2,k4,k8,k9,e25,e65,e50],[j4,j8,(9,cKs),o42,(300002,ow7),(300003,ow9)]⟩ (.q (.seq (.block (.cut ⟨[k1,k2,k4,k8,k9,k10,k11,k12,e67],[j4,j8,j9,(13,cI7),(1560,ow7),(1561,ow9),fR,Jy,Qi]⟩ .z .z)) .z))))) .z)))))
theorem IS.o:OK IS.k:=fk func246 (kS.o.c (yY.o.c A5)) .z
theorem Jf.o:OK Jf.k:=fk func150 (IS.o.c (jX.o.c A5)) (.q (.cut JQ .z .z))
theorem vP.o:OK vP.k:=fk func82 (iZ.o.c (Jf.o.c A5)) (.q (.q (.cutR sh3 (.q (.block (.loop ⟨[k2,k3,k5,e17],[j2,j3]⟩ (.q (.seq (.block (.cut ⟨[k2,k3,k5,k6,e74],[j2,j3]⟩ .z .z)) .z))))) .z)))
theorem pU.o:OK pU.k:=fk func40 (vP.o.c A5) (.q (.cutR sh3 (.q (.block (.loop I5 (.q (.seq (.block (.cut ⟨[k1,k3,e61],[j1]⟩ .z .z)) .z))))) .z))
theorem Jj.o:OK Jj.k:=fk func39 A5 .z
theorem Jt.o:OK Jt.k:=fk func41 (eZ.o.c A5) (.q (.cutR FR (.q (.block (.loop I5 .z))) .z))
theorem qG.o:OK qG.k:=fk func101 (cX.o.c (cQ.o.c A5)) .z
theorem jS.o:OK jS.k:=fk func152 (qG.o.c (cQ.o.c A5)) .z
theorem xJ.o:OK xJ.k:=fk func84 (aJ.o.c (jS.o.c A5)) (.q (.q (.q (.q (.cut cC9 .z .z)))))
theorem mG.o:OK mG.k:=fk func42 (xJ.o.c A5) (.q (.q (.cut ⟨[k1,e54],[j1]⟩ (.q (.block (.loop ⟨[k1,e54,e8],[j1]⟩ (.q (.seq (.block (.cut ⟨[k1,e54,k4],[j1]⟩ .z .z)) .z))))) .z)))
theorem zL.o:OK zL.k:=fk func21 (Kw.o.c (sD.o.c (Jn.o.c (jI.o.c (pU.o.c (Jj.o.c (Jt.o.c (mG.o.c A5)))))))) .z
theorem wH.o:OK wH.k:=fk func24 (aJ.o.c (cQ.o.c A5)) (.q (.q (.q (.cutR ⟨[k0,e8],[]⟩ (.q (.block (.loop ⟨[k0,e8,e10],[]⟩ .z))) (.seq (.cut ⟨[k4,e74],[]⟩ .z .z) .z)))))
theorem HI.o:OK HI.k:=fk func22 (wH.o.c A5) (.q (.q (.cutR ⟨[(4,Rh)],[(8,ow1)]⟩ (.q (.block (.loop ⟨[k0,(4,Rh),e10],[(8,ow1)]⟩ .z))) .z)))
theorem HH.o:OK HH.k:=fk func23 (mC.o.c (bY.o.c A5)) (.q (.q (.cutR ⟨[k0,k1,e30],[j0,aR]⟩ .z .z)))
theorem K6.o:OK K6.k:=fk func91 (mC.o.c (bY.o.c (qT.o.c (qG.o.c A5)))) .z
theorem sU.o:OK sU.k:=fk func168 (aJ.o.c A5) (.q (.cut ⟨[e2,k2],[j2]⟩ .z .z))
theorem rW.o:OK rW.k:=fk func92 (bY.o.c (aJ.o.c (mC.o.c (iF.o.c (sU.o.c A5))))) (.q (.seq (.cut cBi .z .z) .z))
theorem Jl.o:OK Jl.k:=fk func93 (aJ.o.c A5) (.q (.q (.q (.cut ⟨[k1,k2,e33],[j2]⟩ (.q (.block (.loop ⟨[k1,k2,e33,e17],[j2]⟩ (.q (.seq (.block (.cut ⟨[k1,k2,e33,k6],[j2]⟩ .z .z)) .z))))) .z))))
theorem cI.o:OK cI.k:=fk func169 (aJ.o.c A5) (.q (.cut ⟨[k0,(3,.one (.row 4))],[(4,.row 9 1 .str true)]⟩ .z .z))
theorem KG.o:OK KG.k:=fk func94 (cI.o.c A5) (.q (.cutR sh3 (.q (.block (.loop ⟨[k0,e6],[]⟩ (.q (.seq (.block (.cut ⟨[k0,k3,e83],[]⟩ .z .z)) .z))))) .z))
theorem Le.o:OK Le.k:=fk func48 (K6.o.c (rW.o.c (gT.o.c (Fy.o.c (rX.o.c (jI.o.c (Jl.o.c (KG.o.c (sD.o.c A5))))))))) (.q (.seq (.q (.block (.cut ⟨[k0,k1,k2,k10,(11,vr2)],[j0,aR]⟩ .z (.cond .z (.q (.cond .z (.q (.cond (.cut ⟨[k0,e68],[j0,(7,.box [.row 1672,.row 1673,.row 1674,.row 1675,.var ti,.row 1676,.row 1677,.var ti,.row 1678,.row 1679,.row 1680,.row 1681,.var ti]),(1672,Nr),(1673,Nm),(1674,ow4),(1675,ow4),(1676,Fo),(1677,H3),(1678,ow1),(1679,FP),(1680,G5),(1681,Hr),aR]⟩ .z .z) .z)))))))) .z))
theorem uI.o:OK uI.k:=fk func51 (gM.o.c (cQ.o.c (qG.o.c A5))) (.q (.q (.q (.cut ⟨[e33,k6],[Q8]⟩ (.q (.block (.loop ⟨[k2,e33,k6,e30],[j2,Q8]⟩ (.q (.seq (.block (.cut ⟨[k2,e33,k6,k7],[j2,Q8]⟩ .z .z)) .z))))) .z))))
theorem KF.o:OK KF.k:=fk func53 A5 .z
theorem Mx.o:OK Mx.k:=fk func106 A5 .z
theorem wY.o:OK wY.k:=fk func52 (sX.o.c (nC.o.c (cX.o.c (mW.o.c (fO.o.c (uE.o.c (Mx.o.c A5))))))) (.q (.q (.seq (.cut cBx .z .z) (.cut ⟨[k3,k4,k6],[j3,j4,(6,cKx),Im,QR,QL,QN,QE,QJ,QT,QS,(1136,ow2),Q9]⟩ .z .z))))
theorem oK.o:OK oK.k:=fk func26 (Le.o.c (fO.o.c (cQ.o.c (tJ.o.c (uI.o.c (KF.o.c (wY.o.c (Fy.o.c (mR.o.c A5))))))))) (.q (.seq (.block (.q (.cond .z (.cut ⟨[k0,k1,k2,e88],[j0,aR]⟩ .z (.cond .z (.cut ⟨[k0,k1,k2,(50,vr2)],[j0,aR]⟩ .z (.cond .z (.cut ⟨[k0,k1,k2,(95,vr2)],[j0,aR]⟩ .z (.cond (.cut ⟨[k0,(8,Zn),(9,vr2)],[j0,(8,.box [.row 2840,.row 2841,.row 2842,.row 2843,.var ti,.row 2844,.row 2845,.var ti,.row 2846,.row 2847,.row 2848,.row 2849,.var ti]),(2840,Nr),(2841,Nm),(2842,ow4),(2843,ow4),(2844,Fo),(2845,H3),(2846,ow1),(2847,FP),(2848,ow2),(2849,Hr),aR]⟩ .z .z) (.cut ⟨[k0,k2,(124,vr2)],[j0,aR]⟩ .z (.cond (.q (.seq (.cut ⟨[k0,k2,k10,(158,vr2)],[j0,j10,aR]⟩ .z .z) .z)) .z))))))))))) .z))
theorem qV.o:OK qV.k:=fk func11 (yW.o.c (zL.o.c (HI.o.c (HH.o.c (wH.o.c (sD.o.c (oK.o.c (Con.Ok.c (bGu _ 72) A5)))))))) (.q (.q (.q (.seq (.cut ⟨[k0,k5,e80],[j0,Ej,aR]⟩ .z .z) (.seq (.cut ⟨[k0,k5,(51,vr2)],[j0,Ej,aR]⟩ .z (.cond (.q (.seq (.cut ⟨[k0,k5,k8,(66,vr2)],[j0,Ej,aR]⟩ .z .z) .z)) .z)) .z)))))
theorem zP.o:OK zP.k:=fk func5 (yW.o.c (qV.o.c A5)) (.q (.q (.cut cBv .z (.seq (.cut ⟨[k3,e90],[]⟩ .z .z) (.q (.q (.cut Y4 (.q (.block (.loop ⟨[k3,k4,e33,e17],[(31,cHh),o59]⟩ (.q (.cut ⟨[k3,k4,e33,k6],[(31,cHh),o59]⟩ .z .z))))) .z)))))))
theorem l_FnBench.o:OK l_FnBench.k:=fk func4 (LG.o.c (Ks.o.c (HA.o.c (vI.o.c (zP.o.c A5))))) (.q (.q (.q (.q (.q (.q (.seq (.cut ⟨[k5,k6,(41,vr2)],[]⟩ .z .z) (.cut sh7 .z .z))))))))
end Go.Proofs.YtjpmmodjpaabpaaGreat
