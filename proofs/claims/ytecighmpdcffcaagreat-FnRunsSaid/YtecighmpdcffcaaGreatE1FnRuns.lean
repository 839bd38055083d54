/-
  The functions of the program compute what their definitions say. Conditions: none.
-/
import Derived.Test.YtecighmpdcffcaaGreatE0FnRuns
set_option linter.unusedVariables false
set_option linter.unusedSimpArgs false
set_option maxRecDepth 100000
namespace Go.Proofs.YtecighmpdcffcaaGreat
open Go.Ab Go.V
theorem nW.ok:nW.con.Ok Tryz.prog:=fk Tryz.func12 (sG.ok.c (uX.ok.c (qI.ok.c (sF.ok.c (qT.ok.c (vG.ok.c (xX.ok.c nok))))))) (.q (.seq (.cut ⟨[k2,k3,(78,vr2)],[j2,j3]⟩ .z .z) (.cutR bKc (.q (.block (.loop aGu (.q (.seq (.block (.cut ⟨[k2,k3,k5,(129,vr2)],[j2,j3]⟩ .z .z)) .z))))) (.cutR bKc (.q (.block (.loop bQn .z))) (.cutR sh3 (.q (.block (.loop ⟨[k2,k3,e20],[j2,j3]⟩ .z))) .z)))))
theorem gZ.ok:gZ.con.Ok Tryz.prog:=fk Tryz.func34 (aEs.ok.c nok) .z
theorem nL.ok:nL.con.Ok Tryz.prog:=fk Tryz.func35 (gH.ok.c (mG.ok.c nok)) (.q (.q (.q (.cut bB2 (.q (.block (.loop ⟨[k1,e7,k6,e20],[(6,ob3),o12,o11,o13]⟩ (.seq (.cut ⟨[k1,k5,k6,k7,(19,vr2)],[j6,cU,uN,oS]⟩ .z .z) (.cut ⟨[k1,e7,k6,k7],[(6,bUd),(1448,ow5),(1449,ow1),(1450,ow6)]⟩ (.block (.cut ⟨[k1,k5,k6,k7,(8,bM9),(9,vr2)],[(6,bVo),(8,bUd),(1448,ow5),(1449,ow1),(1450,ow6)]⟩ .z .z)) .z))))) .z))))
theorem l_FnRuns.ok:l_FnRuns.con.Ok Tryz.prog:=fk Tryz.func6 (aHz.ok.c (lW.ok.c (aKj.ok.c (nR.ok.c (tL.ok.c (nW.ok.c (gZ.ok.c (nL.ok.c nok)))))))) (.q (.q (.q (.q (.cut ⟨[k3,k4,e7],[j3,aFq,aVd,bQj,bOx,bPg,bOv,bOq,bOy,bO6,bPw]⟩ .z (.q (.cut ⟨[k3,k4,k5,k6,e52],[j3,j6,(7,.box [.row 1496,.row 1497,.row 1498,.row 1499,.var ti,.row 1500,.row 1501,.var ti,.row 1502,.row 1503,.row 1504,.row 1505,.var ti]),aFq,aVd,bQj,bOx,bPg,bOv,bOq,bOy,bO6,bPw,bW5,bW3,bW9,bW1,bWx,bW6,bXv,bWp,bXp,bXs,(1496,aGo),(1497,aB8),(1498,ow3),(1499,ow3),(1500,ow9),(1501,aCf),(1502,ow2),(1503,aAw),(1504,aEe),(1505,aB9)]⟩ .z (.cut sh7 .z .z))))))))
end Go.Proofs.YtecighmpdcffcaaGreat
