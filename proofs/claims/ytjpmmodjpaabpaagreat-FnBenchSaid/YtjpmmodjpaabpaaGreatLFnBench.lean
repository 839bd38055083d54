/-
  The plain part of: Law FnBench: for every code the lines drawn answer alike in program and reference, and what more lines answer stands behind what the first lines answered. Conditions: none.
-/
import Derived.Test.YtjpmmodjpaabpaaGreatQ2FnBench
set_option linter.unusedVariables false
set_option linter.unusedSimpArgs false
set_option maxRecDepth 100000
namespace Go.Proofs.YtjpmmodjpaabpaaGreat.fnBench
open Go.Ab Go.V
theorem law(code:den (.sl tb))(w0:Wf (.sl tb) code):l_FnBench code=some true:=by
 by_cases hbig:(code.length:Int)>1048576
 .unfold l_FnBench LG
  rw[zX hbig];rfl
 have hl:code.length<=1048576:=by omega
 obtain⟨a,b,e1,ta,ha,tb⟩:=bVs hl
 obtain⟨z,e2,hz⟩:=bYp hl
 have tab:=ta.app tb
 have hsa:=ta.1
 have hsab:=tab.1
 obtain⟨x,hx⟩:=bZx (b:=b) ha (Nat.le_trans hsab (by decide)) (Nat.le_trans tab.2 (by decide))
 unfold l_FnBench LG
 simp only[e1,e2,aA,zW hbig,zY,Tx.fits ta tb (by decide),zZ,XY (s:=a) (by omega),XO (s:=a) (by omega),XY (s:=a++b) (by omega),XO (s:=a++b) (by omega),XY (s:=z) (by omega),XO (s:=z) (by omega),beq_self_eq_true,Bool.not_true]
 rw[hx]
 have hsz:(DR a++x).size=(DR a).size+x.size:=ByteArray.size_append
 have d:decide (((DR a++x).size:Int)>=((DR a).size:Int))=true:=zX (by omega)
 have sl:=yK (a:=0) (b:=(DR a).size) (n:=(DR a++x).size)
 rw[show ((0:Nat):Int)=0 from rfl,zX (Nat.zero_le _),zX (show (DR a).size<=(DR a++x).size by omega)]at sl
 have ee:(DR a++x).extract (0:Int).toNat ((DR a).size:Int).toNat=DR a:=by
  rw[Int.toNat_natCast]
  exact ByteArray.extract_append_eq_left rfl
 rw[d,sl,ee,beq_self_eq_true]
 rfl
end Go.Proofs.YtjpmmodjpaabpaaGreat.fnBench
