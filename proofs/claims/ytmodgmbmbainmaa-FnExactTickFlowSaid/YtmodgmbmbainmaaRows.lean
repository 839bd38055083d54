/-
  No cell of these rows narrows 'for every input' (looked for: loops, veiled, ifaces, maps, wideKeys, modest, calm, conditions, laid).
  DERIVED. THE GIVEN ROWS OF THIS SEAT. 11 by the template 'for every input the law returns true; each argument reads behind the call as it read before'; 0 by the template 'total and deterministic' (their statements: YtmodgmbmbainmaaTotals.lean).
  GIVEN WITH THE SEED: the statements are not yours to turn. If you find one false, say at which input.
  Laid BY PROGRAM, IN A SANDBOX (cutbox-rows.mjs): the forced cells as the released guide's own fill.sh prints them over the translation 15206e62c17ccd1c… (all of the seat's roots in one cut). By AI agents, Wed Nov 11 2026. No macro, syntax, notation, axiom, sorry.
-/
import Derived.Test.YtmodgmbmbainmaaChecked
import GoSem.Claim
import GoSem.ClaimJoined
import GoSem.ClaimMapViews
import Derived.JoinedTies
import Derived.KernelRfl
namespace Go.Proofs.Ytmodgmbmbainmaa
/- THE CELL 'sum', in the pinned program and in every row, IS THE sha256 OF THE DUMP (.gsa) THAT YtmodgmbmbainmaaProg.lean LOADS. Nothing in Lean hashes anything: it is a label: what it is worth is what the hold of that sum in a sandbox is worth. -/
noncomputable def Try.pinned : Pinned := { name := "ytmodgmbmbainmaa", sum := "15206e62c17ccd1c2b06920c518220b5f7e45170d8e21caf6c048a1a79085de4", checked := Try.checked }
namespace Rows
def none {H : Type} : Left H := { results := [], args := [] }

/-- 'laws.FnExactTruncatePath': WHATEVER THE INPUT: true; the input reads as it did. -/
def fnExactTruncatePathSpec : ChangeSpec := { name := "fnExactTruncatePath", fn := fun _ => fun
  | [d] => { results := [.lit (.bool true)], args := [d] }
  | _ => none }
def fnExactTruncatePathRow : OpenClaim := { program := "ytmodgmbmbainmaa", sum := "15206e62c17ccd1c2b06920c518220b5f7e45170d8e21caf6c048a1a79085de4", func := "loop.example/g00505/laws.FnExactTruncatePath", spec := "fnExactTruncatePath", apart := false }
def FnExactTruncatePathSaid : Prop := fnExactTruncatePathRow.holds Try.pinned (OpenSpec.ofChange fnExactTruncatePathSpec)

/-- ITS FALSE NEIGHBOUR: 'it returns false'. Refute it at one input. -/
def fnExactTruncatePathWrong : ChangeSpec := { name := "fnExactTruncatePath", fn := fun _ => fun
  | [d] => { results := [.lit (.bool false)], args := [d] }
  | _ => none }
def FnExactTruncatePathWrongFalsely : Prop := fnExactTruncatePathRow.holds Try.pinned (OpenSpec.ofChange fnExactTruncatePathWrong)

/-- 'laws.FnExactValidFlow': WHATEVER THE INPUT: true; the input reads as it did. -/
def fnExactValidFlowSpec : ChangeSpec := { name := "fnExactValidFlow", fn := fun _ => fun
  | [d] => { results := [.lit (.bool true)], args := [d] }
  | _ => none }
def fnExactValidFlowRow : OpenClaim := { program := "ytmodgmbmbainmaa", sum := "15206e62c17ccd1c2b06920c518220b5f7e45170d8e21caf6c048a1a79085de4", func := "loop.example/g00505/laws.FnExactValidFlow", spec := "fnExactValidFlow", apart := false }
def FnExactValidFlowSaid : Prop := fnExactValidFlowRow.holds Try.pinned (OpenSpec.ofChange fnExactValidFlowSpec)

/-- ITS FALSE NEIGHBOUR: 'it returns false'. Refute it at one input. -/
def fnExactValidFlowWrong : ChangeSpec := { name := "fnExactValidFlow", fn := fun _ => fun
  | [d] => { results := [.lit (.bool false)], args := [d] }
  | _ => none }
def FnExactValidFlowWrongFalsely : Prop := fnExactValidFlowRow.holds Try.pinned (OpenSpec.ofChange fnExactValidFlowWrong)

/-- 'laws.FnExactConsistentWith': WHATEVER THE INPUT: true; the input reads as it did. -/
def fnExactConsistentWithSpec : ChangeSpec := { name := "fnExactConsistentWith", fn := fun _ => fun
  | [d1, d2] => { results := [.lit (.bool true)], args := [d1, d2] }
  | _ => none }
def fnExactConsistentWithRow : OpenClaim := { program := "ytmodgmbmbainmaa", sum := "15206e62c17ccd1c2b06920c518220b5f7e45170d8e21caf6c048a1a79085de4", func := "loop.example/g00505/laws.FnExactConsistentWith", spec := "fnExactConsistentWith", apart := false }
def FnExactConsistentWithSaid : Prop := fnExactConsistentWithRow.holds Try.pinned (OpenSpec.ofChange fnExactConsistentWithSpec)

/-- ITS FALSE NEIGHBOUR: 'it returns false'. Refute it at one input. -/
def fnExactConsistentWithWrong : ChangeSpec := { name := "fnExactConsistentWith", fn := fun _ => fun
  | [d1, d2] => { results := [.lit (.bool false)], args := [d1, d2] }
  | _ => none }
def FnExactConsistentWithWrongFalsely : Prop := fnExactConsistentWithRow.holds Try.pinned (OpenSpec.ofChange fnExactConsistentWithWrong)

/-- 'laws.FnExactHandleData': WHATEVER THE INPUT: true; the input reads as it did. -/
def fnExactHandleDataSpec : ChangeSpec := { name := "fnExactHandleData", fn := fun _ => fun
  | [d1, d2] => { results := [.lit (.bool true)], args := [d1, d2] }
  | _ => none }
def fnExactHandleDataRow : OpenClaim := { program := "ytmodgmbmbainmaa", sum := "15206e62c17ccd1c2b06920c518220b5f7e45170d8e21caf6c048a1a79085de4", func := "loop.example/g00505/laws.FnExactHandleData", spec := "fnExactHandleData", apart := false }
def FnExactHandleDataSaid : Prop := fnExactHandleDataRow.holds Try.pinned (OpenSpec.ofChange fnExactHandleDataSpec)

/-- ITS FALSE NEIGHBOUR: 'it returns false'. Refute it at one input. -/
def fnExactHandleDataWrong : ChangeSpec := { name := "fnExactHandleData", fn := fun _ => fun
  | [d1, d2] => { results := [.lit (.bool false)], args := [d1, d2] }
  | _ => none }
def FnExactHandleDataWrongFalsely : Prop := fnExactHandleDataRow.holds Try.pinned (OpenSpec.ofChange fnExactHandleDataWrong)

/-- 'laws.FnGates': WHATEVER THE INPUT: true; the input reads as it did. -/
def fnGatesSpec : ChangeSpec := { name := "fnGates", fn := fun _ => fun
  | [d] => { results := [.lit (.bool true)], args := [d] }
  | _ => none }
def fnGatesRow : OpenClaim := { program := "ytmodgmbmbainmaa", sum := "15206e62c17ccd1c2b06920c518220b5f7e45170d8e21caf6c048a1a79085de4", func := "loop.example/g00505/laws.FnGates", spec := "fnGates", apart := false }
def FnGatesSaid : Prop := fnGatesRow.holds Try.pinned (OpenSpec.ofChange fnGatesSpec)

/-- ITS FALSE NEIGHBOUR: 'it returns false'. Refute it at one input. -/
def fnGatesWrong : ChangeSpec := { name := "fnGates", fn := fun _ => fun
  | [d] => { results := [.lit (.bool false)], args := [d] }
  | _ => none }
def FnGatesWrongFalsely : Prop := fnGatesRow.holds Try.pinned (OpenSpec.ofChange fnGatesWrong)

/-- 'laws.FnExactEnqueue': WHATEVER THE INPUT: true; the input reads as it did. -/
def fnExactEnqueueSpec : ChangeSpec := { name := "fnExactEnqueue", fn := fun _ => fun
  | [d1, d2] => { results := [.lit (.bool true)], args := [d1, d2] }
  | _ => none }
def fnExactEnqueueRow : OpenClaim := { program := "ytmodgmbmbainmaa", sum := "15206e62c17ccd1c2b06920c518220b5f7e45170d8e21caf6c048a1a79085de4", func := "loop.example/g00505/laws.FnExactEnqueue", spec := "fnExactEnqueue", apart := false }
def FnExactEnqueueSaid : Prop := fnExactEnqueueRow.holds Try.pinned (OpenSpec.ofChange fnExactEnqueueSpec)

/-- ITS FALSE NEIGHBOUR: 'it returns false'. Refute it at one input. -/
def fnExactEnqueueWrong : ChangeSpec := { name := "fnExactEnqueue", fn := fun _ => fun
  | [d1, d2] => { results := [.lit (.bool false)], args := [d1, d2] }
  | _ => none }
def FnExactEnqueueWrongFalsely : Prop := fnExactEnqueueRow.holds Try.pinned (OpenSpec.ofChange fnExactEnqueueWrong)

/-- 'laws.FnExactHandleAck': WHATEVER THE INPUT: true; the input reads as it did. -/
def fnExactHandleAckSpec : ChangeSpec := { name := "fnExactHandleAck", fn := fun _ => fun
  | [d1, d2] => { results := [.lit (.bool true)], args := [d1, d2] }
  | _ => none }
def fnExactHandleAckRow : OpenClaim := { program := "ytmodgmbmbainmaa", sum := "15206e62c17ccd1c2b06920c518220b5f7e45170d8e21caf6c048a1a79085de4", func := "loop.example/g00505/laws.FnExactHandleAck", spec := "fnExactHandleAck", apart := false }
def FnExactHandleAckSaid : Prop := fnExactHandleAckRow.holds Try.pinned (OpenSpec.ofChange fnExactHandleAckSpec)

/-- ITS FALSE NEIGHBOUR: 'it returns false'. Refute it at one input. -/
def fnExactHandleAckWrong : ChangeSpec := { name := "fnExactHandleAck", fn := fun _ => fun
  | [d1, d2] => { results := [.lit (.bool false)], args := [d1, d2] }
  | _ => none }
def FnExactHandleAckWrongFalsely : Prop := fnExactHandleAckRow.holds Try.pinned (OpenSpec.ofChange fnExactHandleAckWrong)

/-- 'laws.FnExactNextTransmission': WHATEVER THE INPUT: true; the input reads as it did. -/
def fnExactNextTransmissionSpec : ChangeSpec := { name := "fnExactNextTransmission", fn := fun _ => fun
  | [d] => { results := [.lit (.bool true)], args := [d] }
  | _ => none }
def fnExactNextTransmissionRow : OpenClaim := { program := "ytmodgmbmbainmaa", sum := "15206e62c17ccd1c2b06920c518220b5f7e45170d8e21caf6c048a1a79085de4", func := "loop.example/g00505/laws.FnExactNextTransmission", spec := "fnExactNextTransmission", apart := false }
def FnExactNextTransmissionSaid : Prop := fnExactNextTransmissionRow.holds Try.pinned (OpenSpec.ofChange fnExactNextTransmissionSpec)

/-- ITS FALSE NEIGHBOUR: 'it returns false'. Refute it at one input. -/
def fnExactNextTransmissionWrong : ChangeSpec := { name := "fnExactNextTransmission", fn := fun _ => fun
  | [d] => { results := [.lit (.bool false)], args := [d] }
  | _ => none }
def FnExactNextTransmissionWrongFalsely : Prop := fnExactNextTransmissionRow.holds Try.pinned (OpenSpec.ofChange fnExactNextTransmissionWrong)

/-- 'laws.FnExactMakeAck': WHATEVER THE INPUT: true; the input reads as it did. -/
def fnExactMakeAckSpec : ChangeSpec := { name := "fnExactMakeAck", fn := fun _ => fun
  | [d1, d2] => { results := [.lit (.bool true)], args := [d1, d2] }
  | _ => none }
def fnExactMakeAckRow : OpenClaim := { program := "ytmodgmbmbainmaa", sum := "15206e62c17ccd1c2b06920c518220b5f7e45170d8e21caf6c048a1a79085de4", func := "loop.example/g00505/laws.FnExactMakeAck", spec := "fnExactMakeAck", apart := false }
def FnExactMakeAckSaid : Prop := fnExactMakeAckRow.holds Try.pinned (OpenSpec.ofChange fnExactMakeAckSpec)

/-- ITS FALSE NEIGHBOUR: 'it returns false'. Refute it at one input. -/
def fnExactMakeAckWrong : ChangeSpec := { name := "fnExactMakeAck", fn := fun _ => fun
  | [d1, d2] => { results := [.lit (.bool false)], args := [d1, d2] }
  | _ => none }
def FnExactMakeAckWrongFalsely : Prop := fnExactMakeAckRow.holds Try.pinned (OpenSpec.ofChange fnExactMakeAckWrong)

/-- 'laws.FnExactTickFlow': WHATEVER THE INPUT: true; the input reads as it did. -/
def fnExactTickFlowSpec : ChangeSpec := { name := "fnExactTickFlow", fn := fun _ => fun
  | [d] => { results := [.lit (.bool true)], args := [d] }
  | _ => none }
def fnExactTickFlowRow : OpenClaim := { program := "ytmodgmbmbainmaa", sum := "15206e62c17ccd1c2b06920c518220b5f7e45170d8e21caf6c048a1a79085de4", func := "loop.example/g00505/laws.FnExactTickFlow", spec := "fnExactTickFlow", apart := false }
def FnExactTickFlowSaid : Prop := fnExactTickFlowRow.holds Try.pinned (OpenSpec.ofChange fnExactTickFlowSpec)

/-- ITS FALSE NEIGHBOUR: 'it returns false'. Refute it at one input. -/
def fnExactTickFlowWrong : ChangeSpec := { name := "fnExactTickFlow", fn := fun _ => fun
  | [d] => { results := [.lit (.bool false)], args := [d] }
  | _ => none }
def FnExactTickFlowWrongFalsely : Prop := fnExactTickFlowRow.holds Try.pinned (OpenSpec.ofChange fnExactTickFlowWrong)

/-- 'laws.FnExactMakeRevocation': WHATEVER THE INPUT: true; the input reads as it did. -/
def fnExactMakeRevocationSpec : ChangeSpec := { name := "fnExactMakeRevocation", fn := fun _ => fun
  | [d1, d2, d3, d4, d5] => { results := [.lit (.bool true)], args := [d1, d2, d3, d4, d5] }
  | _ => none }
def fnExactMakeRevocationRow : OpenClaim := { program := "ytmodgmbmbainmaa", sum := "15206e62c17ccd1c2b06920c518220b5f7e45170d8e21caf6c048a1a79085de4", func := "loop.example/g00505/laws.FnExactMakeRevocation", spec := "fnExactMakeRevocation", apart := false }
def FnExactMakeRevocationSaid : Prop := fnExactMakeRevocationRow.holds Try.pinned (OpenSpec.ofChange fnExactMakeRevocationSpec)

/-- ITS FALSE NEIGHBOUR: 'it returns false'. Refute it at one input. -/
def fnExactMakeRevocationWrong : ChangeSpec := { name := "fnExactMakeRevocation", fn := fun _ => fun
  | [d1, d2, d3, d4, d5] => { results := [.lit (.bool false)], args := [d1, d2, d3, d4, d5] }
  | _ => none }
def FnExactMakeRevocationWrongFalsely : Prop := fnExactMakeRevocationRow.holds Try.pinned (OpenSpec.ofChange fnExactMakeRevocationWrong)

/- THE SECOND FORM. 'bulk': how many values and letters a reading holds, each counted each time it is reached (what is shared counts as often as it is met; a slice's spare places count too). A statement '..UptoSaid' is the law's where the arguments, and the package variables that the reading takes, are together of bulk at most 1048576: NARROWER than '..Said'. Prove '..Said' where nothing that the law and all that it calls make is longer than what came in: it says more and counts as full. Else prove '..UptoSaid'. A law counts once. -/
mutual
def uptoBulk {H : Type} : DataW H → Nat
  | .lit (.string bytes) => bytes.length + 1
  | .lit _ => 1
  | .nil => 1
  | .ptr d => uptoBulk d + 1
  | .slice elems spare => uptoBulkAll elems + uptoBulkAll spare + 1
  | .agg parts => uptoBulkAll parts + 1
  | .iface _ d => uptoBulk d + 1
  | .map entries => uptoBulkEntries entries + 1
  | .held _ => 1
def uptoBulkAll {H : Type} : List (DataW H) → Nat
  | [] => 0
  | d :: r => uptoBulk d + uptoBulkAll r
def uptoBulkEntries {H : Type} : List (Lit × DataW H) → Nat
  | [] => 0
  | x :: r => uptoBulkEntry x + uptoBulkEntries r
def uptoBulkEntry {H : Type} : Lit × DataW H → Nat
  | (.string bytes, d) => bytes.length + uptoBulk d + 1
  | (_, d) => uptoBulk d + 1
 end
def uptoSmall : (H : Type) → List (DataW H) → Bool := fun _ ds => decide (uptoBulkAll ds ≤ 1048576)
def OpenSpec.upto (s : _root_.Go.ChangeSpec) : _root_.Go.OpenSpec := { _root_.Go.OpenSpec.ofChange s with cond := some uptoSmall }

/-- 'laws.FnExactTruncatePath', WHERE WHAT IT READS IS OF BULK AT MOST 1048576: true; the input reads as it did. -/
def fnExactTruncatePathUptoRow : OpenClaim := { program := "ytmodgmbmbainmaa", sum := "15206e62c17ccd1c2b06920c518220b5f7e45170d8e21caf6c048a1a79085de4", func := "loop.example/g00505/laws.FnExactTruncatePath", spec := "fnExactTruncatePath", apart := false, narrowed := true }
def FnExactTruncatePathUptoSaid : Prop := fnExactTruncatePathUptoRow.holds Try.pinned (OpenSpec.upto fnExactTruncatePathSpec)

/-- 'laws.FnExactValidFlow', WHERE WHAT IT READS IS OF BULK AT MOST 1048576: true; the input reads as it did. -/
def fnExactValidFlowUptoRow : OpenClaim := { program := "ytmodgmbmbainmaa", sum := "15206e62c17ccd1c2b06920c518220b5f7e45170d8e21caf6c048a1a79085de4", func := "loop.example/g00505/laws.FnExactValidFlow", spec := "fnExactValidFlow", apart := false, narrowed := true }
def FnExactValidFlowUptoSaid : Prop := fnExactValidFlowUptoRow.holds Try.pinned (OpenSpec.upto fnExactValidFlowSpec)

/-- 'laws.FnExactConsistentWith', WHERE WHAT IT READS IS OF BULK AT MOST 1048576: true; the input reads as it did. -/
def fnExactConsistentWithUptoRow : OpenClaim := { program := "ytmodgmbmbainmaa", sum := "15206e62c17ccd1c2b06920c518220b5f7e45170d8e21caf6c048a1a79085de4", func := "loop.example/g00505/laws.FnExactConsistentWith", spec := "fnExactConsistentWith", apart := false, narrowed := true }
def FnExactConsistentWithUptoSaid : Prop := fnExactConsistentWithUptoRow.holds Try.pinned (OpenSpec.upto fnExactConsistentWithSpec)

/-- 'laws.FnExactHandleData', WHERE WHAT IT READS IS OF BULK AT MOST 1048576: true; the input reads as it did. -/
def fnExactHandleDataUptoRow : OpenClaim := { program := "ytmodgmbmbainmaa", sum := "15206e62c17ccd1c2b06920c518220b5f7e45170d8e21caf6c048a1a79085de4", func := "loop.example/g00505/laws.FnExactHandleData", spec := "fnExactHandleData", apart := false, narrowed := true }
def FnExactHandleDataUptoSaid : Prop := fnExactHandleDataUptoRow.holds Try.pinned (OpenSpec.upto fnExactHandleDataSpec)

/-- 'laws.FnGates', WHERE WHAT IT READS IS OF BULK AT MOST 1048576: true; the input reads as it did. -/
def fnGatesUptoRow : OpenClaim := { program := "ytmodgmbmbainmaa", sum := "15206e62c17ccd1c2b06920c518220b5f7e45170d8e21caf6c048a1a79085de4", func := "loop.example/g00505/laws.FnGates", spec := "fnGates", apart := false, narrowed := true }
def FnGatesUptoSaid : Prop := fnGatesUptoRow.holds Try.pinned (OpenSpec.upto fnGatesSpec)

/-- 'laws.FnExactEnqueue', WHERE WHAT IT READS IS OF BULK AT MOST 1048576: true; the input reads as it did. -/
def fnExactEnqueueUptoRow : OpenClaim := { program := "ytmodgmbmbainmaa", sum := "15206e62c17ccd1c2b06920c518220b5f7e45170d8e21caf6c048a1a79085de4", func := "loop.example/g00505/laws.FnExactEnqueue", spec := "fnExactEnqueue", apart := false, narrowed := true }
def FnExactEnqueueUptoSaid : Prop := fnExactEnqueueUptoRow.holds Try.pinned (OpenSpec.upto fnExactEnqueueSpec)

/-- 'laws.FnExactHandleAck', WHERE WHAT IT READS IS OF BULK AT MOST 1048576: true; the input reads as it did. -/
def fnExactHandleAckUptoRow : OpenClaim := { program := "ytmodgmbmbainmaa", sum := "15206e62c17ccd1c2b06920c518220b5f7e45170d8e21caf6c048a1a79085de4", func := "loop.example/g00505/laws.FnExactHandleAck", spec := "fnExactHandleAck", apart := false, narrowed := true }
def FnExactHandleAckUptoSaid : Prop := fnExactHandleAckUptoRow.holds Try.pinned (OpenSpec.upto fnExactHandleAckSpec)

/-- 'laws.FnExactNextTransmission', WHERE WHAT IT READS IS OF BULK AT MOST 1048576: true; the input reads as it did. -/
def fnExactNextTransmissionUptoRow : OpenClaim := { program := "ytmodgmbmbainmaa", sum := "15206e62c17ccd1c2b06920c518220b5f7e45170d8e21caf6c048a1a79085de4", func := "loop.example/g00505/laws.FnExactNextTransmission", spec := "fnExactNextTransmission", apart := false, narrowed := true }
def FnExactNextTransmissionUptoSaid : Prop := fnExactNextTransmissionUptoRow.holds Try.pinned (OpenSpec.upto fnExactNextTransmissionSpec)

/-- 'laws.FnExactMakeAck', WHERE WHAT IT READS IS OF BULK AT MOST 1048576: true; the input reads as it did. -/
def fnExactMakeAckUptoRow : OpenClaim := { program := "ytmodgmbmbainmaa", sum := "15206e62c17ccd1c2b06920c518220b5f7e45170d8e21caf6c048a1a79085de4", func := "loop.example/g00505/laws.FnExactMakeAck", spec := "fnExactMakeAck", apart := false, narrowed := true }
def FnExactMakeAckUptoSaid : Prop := fnExactMakeAckUptoRow.holds Try.pinned (OpenSpec.upto fnExactMakeAckSpec)

/-- 'laws.FnExactTickFlow', WHERE WHAT IT READS IS OF BULK AT MOST 1048576: true; the input reads as it did. -/
def fnExactTickFlowUptoRow : OpenClaim := { program := "ytmodgmbmbainmaa", sum := "15206e62c17ccd1c2b06920c518220b5f7e45170d8e21caf6c048a1a79085de4", func := "loop.example/g00505/laws.FnExactTickFlow", spec := "fnExactTickFlow", apart := false, narrowed := true }
def FnExactTickFlowUptoSaid : Prop := fnExactTickFlowUptoRow.holds Try.pinned (OpenSpec.upto fnExactTickFlowSpec)

/-- 'laws.FnExactMakeRevocation', WHERE WHAT IT READS IS OF BULK AT MOST 1048576: true; the input reads as it did. -/
def fnExactMakeRevocationUptoRow : OpenClaim := { program := "ytmodgmbmbainmaa", sum := "15206e62c17ccd1c2b06920c518220b5f7e45170d8e21caf6c048a1a79085de4", func := "loop.example/g00505/laws.FnExactMakeRevocation", spec := "fnExactMakeRevocation", apart := false, narrowed := true }
def FnExactMakeRevocationUptoSaid : Prop := fnExactMakeRevocationUptoRow.holds Try.pinned (OpenSpec.upto fnExactMakeRevocationSpec)

end Rows
end Go.Proofs.Ytmodgmbmbainmaa
