/-
  The plain part of: Law FnExactExecute: for every text program and reference answer the same lines. Conditions: none.
-/
import Derived.Test.YtjpmmodjpaabpaaGreatQ2XExecute
set_option linter.unusedVariables false
set_option linter.unusedSimpArgs false
set_option maxRecDepth 100000
set_option linter.defProp false
namespace Go.Proofs.YtjpmmodjpaabpaaGreat.fnExactExecute
open Go.Ab Go.V
def law(a0:den .str)(w0:Wf .str a0):l_FnExactExecute a0=some true:=by
 unfold l_FnExactExecute
 by_cases c:((show ByteArray from a0).size:Int)>1048576
 .rw[zX c];rfl
 .have hs:(show ByteArray from a0).size<=1000000000:=by omega
  rw[zW c,zY,cHo hs,aA,cJh hs,aA,beq_self_eq_true]
  rfl
end Go.Proofs.YtjpmmodjpaabpaaGreat.fnExactExecute
