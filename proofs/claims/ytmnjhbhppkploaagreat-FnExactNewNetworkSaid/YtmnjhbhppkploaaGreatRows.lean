/-
  No cell of these rows narrows 'for every input' (looked for: loops, veiled, ifaces, maps, wideKeys, modest, calm, conditions, laid).
  DERIVED. THE GIVEN ROWS OF THIS SEAT. 10 by the template 'for every input the law returns true; each argument reads behind the call as it read before'; 0 by the template 'total and deterministic' (their statements: YtmnjhbhppkploaaGreatTotals.lean).
  GIVEN WITH THE SEED: the statements are not yours to turn. If you find one false, say at which input.
  Laid BY PROGRAM, IN A SANDBOX (cutbox-rows.mjs): the forced cells as the released guide's own fill.sh prints them over the translation ea7d303ab4eb0044… (all of the seat's roots in one cut). By AI agents, Wed Nov 11 2026. No macro, syntax, notation, axiom, sorry.
-/
import Derived.Test.YtmnjhbhppkploaaGreatChecked
import GoSem.Claim
import GoSem.ClaimJoined
import GoSem.ClaimMapViews
import Derived.JoinedTies
import Derived.KernelRfl
namespace Go.Proofs.YtmnjhbhppkploaaGreat
/- THE CELL 'sum', in the pinned program and in every row, IS THE sha256 OF THE DUMP (.gsa) THAT YtmnjhbhppkploaaGreatProg.lean LOADS. Nothing in Lean hashes anything: it is a label: what it is worth is what the hold of that sum in a sandbox is worth. -/
noncomputable def Tryz.pinned : Pinned := { name := "ytmnjhbhppkploaagreat", sum := "ea7d303ab4eb00447d6e8c4521af00898ae53d759693ba39f6fa2b6b049bae80", checked := Tryz.checked }
namespace Rows
def none {H : Type} : Left H := { results := [], args := [] }

/-- 'laws.FnExactIsIdle': WHATEVER THE INPUT: true; the input reads as it did. -/
def fnExactIsIdleSpec : ChangeSpec := { name := "fnExactIsIdle", fn := fun _ => fun
  | [d] => { results := [.lit (.bool true)], args := [d] }
  | _ => none }
def fnExactIsIdleRow : OpenClaim := { program := "ytmnjhbhppkploaagreat", sum := "ea7d303ab4eb00447d6e8c4521af00898ae53d759693ba39f6fa2b6b049bae80", func := "loop.example/g00505/laws.FnExactIsIdle", spec := "fnExactIsIdle", apart := false }
def FnExactIsIdleSaid : Prop := fnExactIsIdleRow.holds Tryz.pinned (OpenSpec.ofChange fnExactIsIdleSpec)

/-- ITS FALSE NEIGHBOUR: 'it returns false'. Refute it at one input. -/
def fnExactIsIdleWrong : ChangeSpec := { name := "fnExactIsIdle", fn := fun _ => fun
  | [d] => { results := [.lit (.bool false)], args := [d] }
  | _ => none }
def FnExactIsIdleWrongFalsely : Prop := fnExactIsIdleRow.holds Tryz.pinned (OpenSpec.ofChange fnExactIsIdleWrong)

/-- 'laws.FnExactHarmless': WHATEVER THE INPUT: true; the input reads as it did. -/
def fnExactHarmlessSpec : ChangeSpec := { name := "fnExactHarmless", fn := fun _ => fun
  | [d1, d2] => { results := [.lit (.bool true)], args := [d1, d2] }
  | _ => none }
def fnExactHarmlessRow : OpenClaim := { program := "ytmnjhbhppkploaagreat", sum := "ea7d303ab4eb00447d6e8c4521af00898ae53d759693ba39f6fa2b6b049bae80", func := "loop.example/g00505/laws.FnExactHarmless", spec := "fnExactHarmless", apart := false }
def FnExactHarmlessSaid : Prop := fnExactHarmlessRow.holds Tryz.pinned (OpenSpec.ofChange fnExactHarmlessSpec)

/-- ITS FALSE NEIGHBOUR: 'it returns false'. Refute it at one input. -/
def fnExactHarmlessWrong : ChangeSpec := { name := "fnExactHarmless", fn := fun _ => fun
  | [d1, d2] => { results := [.lit (.bool false)], args := [d1, d2] }
  | _ => none }
def FnExactHarmlessWrongFalsely : Prop := fnExactHarmlessRow.holds Tryz.pinned (OpenSpec.ofChange fnExactHarmlessWrong)

/-- 'laws.FnExactCounters': WHATEVER THE INPUT: true; the input reads as it did. -/
def fnExactCountersSpec : ChangeSpec := { name := "fnExactCounters", fn := fun _ => fun
  | [d] => { results := [.lit (.bool true)], args := [d] }
  | _ => none }
def fnExactCountersRow : OpenClaim := { program := "ytmnjhbhppkploaagreat", sum := "ea7d303ab4eb00447d6e8c4521af00898ae53d759693ba39f6fa2b6b049bae80", func := "loop.example/g00505/laws.FnExactCounters", spec := "fnExactCounters", apart := false }
def FnExactCountersSaid : Prop := fnExactCountersRow.holds Tryz.pinned (OpenSpec.ofChange fnExactCountersSpec)

/-- ITS FALSE NEIGHBOUR: 'it returns false'. Refute it at one input. -/
def fnExactCountersWrong : ChangeSpec := { name := "fnExactCounters", fn := fun _ => fun
  | [d] => { results := [.lit (.bool false)], args := [d] }
  | _ => none }
def FnExactCountersWrongFalsely : Prop := fnExactCountersRow.holds Tryz.pinned (OpenSpec.ofChange fnExactCountersWrong)

/-- 'laws.FnExactEqualNetworks': WHATEVER THE INPUT: true; the input reads as it did. -/
def fnExactEqualNetworksSpec : ChangeSpec := { name := "fnExactEqualNetworks", fn := fun _ => fun
  | [d1, d2] => { results := [.lit (.bool true)], args := [d1, d2] }
  | _ => none }
def fnExactEqualNetworksRow : OpenClaim := { program := "ytmnjhbhppkploaagreat", sum := "ea7d303ab4eb00447d6e8c4521af00898ae53d759693ba39f6fa2b6b049bae80", func := "loop.example/g00505/laws.FnExactEqualNetworks", spec := "fnExactEqualNetworks", apart := false }
def FnExactEqualNetworksSaid : Prop := fnExactEqualNetworksRow.holds Tryz.pinned (OpenSpec.ofChange fnExactEqualNetworksSpec)

/-- ITS FALSE NEIGHBOUR: 'it returns false'. Refute it at one input. -/
def fnExactEqualNetworksWrong : ChangeSpec := { name := "fnExactEqualNetworks", fn := fun _ => fun
  | [d1, d2] => { results := [.lit (.bool false)], args := [d1, d2] }
  | _ => none }
def FnExactEqualNetworksWrongFalsely : Prop := fnExactEqualNetworksRow.holds Tryz.pinned (OpenSpec.ofChange fnExactEqualNetworksWrong)

/-- 'laws.FnExactNewNetwork': WHATEVER THE INPUT: true; the input reads as it did. -/
def fnExactNewNetworkSpec : ChangeSpec := { name := "fnExactNewNetwork", fn := fun _ => fun
  | [d1, d2, d3, d4] => { results := [.lit (.bool true)], args := [d1, d2, d3, d4] }
  | _ => none }
def fnExactNewNetworkRow : OpenClaim := { program := "ytmnjhbhppkploaagreat", sum := "ea7d303ab4eb00447d6e8c4521af00898ae53d759693ba39f6fa2b6b049bae80", func := "loop.example/g00505/laws.FnExactNewNetwork", spec := "fnExactNewNetwork", apart := false }
def FnExactNewNetworkSaid : Prop := fnExactNewNetworkRow.holds Tryz.pinned (OpenSpec.ofChange fnExactNewNetworkSpec)

/-- ITS FALSE NEIGHBOUR: 'it returns false'. Refute it at one input. -/
def fnExactNewNetworkWrong : ChangeSpec := { name := "fnExactNewNetwork", fn := fun _ => fun
  | [d1, d2, d3, d4] => { results := [.lit (.bool false)], args := [d1, d2, d3, d4] }
  | _ => none }
def FnExactNewNetworkWrongFalsely : Prop := fnExactNewNetworkRow.holds Tryz.pinned (OpenSpec.ofChange fnExactNewNetworkWrong)

/-- 'laws.FnExactValidNetwork': WHATEVER THE INPUT: true; the input reads as it did. -/
def fnExactValidNetworkSpec : ChangeSpec := { name := "fnExactValidNetwork", fn := fun _ => fun
  | [d] => { results := [.lit (.bool true)], args := [d] }
  | _ => none }
def fnExactValidNetworkRow : OpenClaim := { program := "ytmnjhbhppkploaagreat", sum := "ea7d303ab4eb00447d6e8c4521af00898ae53d759693ba39f6fa2b6b049bae80", func := "loop.example/g00505/laws.FnExactValidNetwork", spec := "fnExactValidNetwork", apart := false }
def FnExactValidNetworkSaid : Prop := fnExactValidNetworkRow.holds Tryz.pinned (OpenSpec.ofChange fnExactValidNetworkSpec)

/-- ITS FALSE NEIGHBOUR: 'it returns false'. Refute it at one input. -/
def fnExactValidNetworkWrong : ChangeSpec := { name := "fnExactValidNetwork", fn := fun _ => fun
  | [d] => { results := [.lit (.bool false)], args := [d] }
  | _ => none }
def FnExactValidNetworkWrongFalsely : Prop := fnExactValidNetworkRow.holds Tryz.pinned (OpenSpec.ofChange fnExactValidNetworkWrong)

/-- 'laws.FnFlows': WHATEVER THE INPUT: true; the input reads as it did. -/
def fnFlowsSpec : ChangeSpec := { name := "fnFlows", fn := fun _ => fun
  | [d] => { results := [.lit (.bool true)], args := [d] }
  | _ => none }
def fnFlowsRow : OpenClaim := { program := "ytmnjhbhppkploaagreat", sum := "ea7d303ab4eb00447d6e8c4521af00898ae53d759693ba39f6fa2b6b049bae80", func := "loop.example/g00505/laws.FnFlows", spec := "fnFlows", apart := false }
def FnFlowsSaid : Prop := fnFlowsRow.holds Tryz.pinned (OpenSpec.ofChange fnFlowsSpec)

/-- ITS FALSE NEIGHBOUR: 'it returns false'. Refute it at one input. -/
def fnFlowsWrong : ChangeSpec := { name := "fnFlows", fn := fun _ => fun
  | [d] => { results := [.lit (.bool false)], args := [d] }
  | _ => none }
def FnFlowsWrongFalsely : Prop := fnFlowsRow.holds Tryz.pinned (OpenSpec.ofChange fnFlowsWrong)

/-- 'laws.FnAcks': WHATEVER THE INPUT: true; the input reads as it did. -/
def fnAcksSpec : ChangeSpec := { name := "fnAcks", fn := fun _ => fun
  | [d] => { results := [.lit (.bool true)], args := [d] }
  | _ => none }
def fnAcksRow : OpenClaim := { program := "ytmnjhbhppkploaagreat", sum := "ea7d303ab4eb00447d6e8c4521af00898ae53d759693ba39f6fa2b6b049bae80", func := "loop.example/g00505/laws.FnAcks", spec := "fnAcks", apart := false }
def FnAcksSaid : Prop := fnAcksRow.holds Tryz.pinned (OpenSpec.ofChange fnAcksSpec)

/-- ITS FALSE NEIGHBOUR: 'it returns false'. Refute it at one input. -/
def fnAcksWrong : ChangeSpec := { name := "fnAcks", fn := fun _ => fun
  | [d] => { results := [.lit (.bool false)], args := [d] }
  | _ => none }
def FnAcksWrongFalsely : Prop := fnAcksRow.holds Tryz.pinned (OpenSpec.ofChange fnAcksWrong)

/-- 'laws.FnInboxes': WHATEVER THE INPUT: true; the input reads as it did. -/
def fnInboxesSpec : ChangeSpec := { name := "fnInboxes", fn := fun _ => fun
  | [d] => { results := [.lit (.bool true)], args := [d] }
  | _ => none }
def fnInboxesRow : OpenClaim := { program := "ytmnjhbhppkploaagreat", sum := "ea7d303ab4eb00447d6e8c4521af00898ae53d759693ba39f6fa2b6b049bae80", func := "loop.example/g00505/laws.FnInboxes", spec := "fnInboxes", apart := false }
def FnInboxesSaid : Prop := fnInboxesRow.holds Tryz.pinned (OpenSpec.ofChange fnInboxesSpec)

/-- ITS FALSE NEIGHBOUR: 'it returns false'. Refute it at one input. -/
def fnInboxesWrong : ChangeSpec := { name := "fnInboxes", fn := fun _ => fun
  | [d] => { results := [.lit (.bool false)], args := [d] }
  | _ => none }
def FnInboxesWrongFalsely : Prop := fnInboxesRow.holds Tryz.pinned (OpenSpec.ofChange fnInboxesWrong)

/-- 'laws.FnPlenty': WHATEVER THE INPUT: true; the input reads as it did. -/
def fnPlentySpec : ChangeSpec := { name := "fnPlenty", fn := fun _ => fun
  | [d] => { results := [.lit (.bool true)], args := [d] }
  | _ => none }
def fnPlentyRow : OpenClaim := { program := "ytmnjhbhppkploaagreat", sum := "ea7d303ab4eb00447d6e8c4521af00898ae53d759693ba39f6fa2b6b049bae80", func := "loop.example/g00505/laws.FnPlenty", spec := "fnPlenty", recurses := true, apart := false }
def FnPlentySaid : Prop := fnPlentyRow.holds Tryz.pinned (OpenSpec.ofChange fnPlentySpec)

/-- ITS FALSE NEIGHBOUR: 'it returns false'. Refute it at one input. -/
def fnPlentyWrong : ChangeSpec := { name := "fnPlenty", fn := fun _ => fun
  | [d] => { results := [.lit (.bool false)], args := [d] }
  | _ => none }
def FnPlentyWrongFalsely : Prop := fnPlentyRow.holds Tryz.pinned (OpenSpec.ofChange fnPlentyWrong)

/- THE SECOND FORM. 'bulk': how many values and letters a reading holds, each counted each time it is reached (what is shared counts as often as it is met; a slice's spare places count too). A statement '..UptoSaid' is the law's where the arguments, and the package variables that the reading takes, are together of bulk at most 1048576: NARROWER than '..Said'. Prove '..Said' where nothing that the law and all that it calls make is longer than what came in: it says more and counts as full. Else prove '..UptoSaid'. A law counts once. -/
mutual
def uptoBulk {H : Type} : DataW H → Nat
  | .lit (.string bytes) => bytes.length + 1
  | .lit _ => 1
  | .nil => 1
  | .ptr d => uptoBulk d + 1
  | .slice elems spare => uptoBulkAll elems + uptoBulkAll spare + 1
  | .agg parts => uptoBulkAll parts + 1
  | .iface _ d => uptoBulk d + 1
  | .map entries => uptoBulkEntries entries + 1
  | .held _ => 1
def uptoBulkAll {H : Type} : List (DataW H) → Nat
  | [] => 0
  | d :: r => uptoBulk d + uptoBulkAll r
def uptoBulkEntries {H : Type} : List (Lit × DataW H) → Nat
  | [] => 0
  | x :: r => uptoBulkEntry x + uptoBulkEntries r
def uptoBulkEntry {H : Type} : Lit × DataW H → Nat
  | (.string bytes, d) => bytes.length + uptoBulk d + 1
  | (_, d) => uptoBulk d + 1
 end
def uptoSmall : (H : Type) → List (DataW H) → Bool := fun _ ds => decide (uptoBulkAll ds ≤ 1048576)
def OpenSpec.upto (s : _root_.Go.ChangeSpec) : _root_.Go.OpenSpec := { _root_.Go.OpenSpec.ofChange s with cond := some uptoSmall }

/-- 'laws.FnExactIsIdle', WHERE WHAT IT READS IS OF BULK AT MOST 1048576: true; the input reads as it did. -/
def fnExactIsIdleUptoRow : OpenClaim := { program := "ytmnjhbhppkploaagreat", sum := "ea7d303ab4eb00447d6e8c4521af00898ae53d759693ba39f6fa2b6b049bae80", func := "loop.example/g00505/laws.FnExactIsIdle", spec := "fnExactIsIdle", apart := false, narrowed := true }
def FnExactIsIdleUptoSaid : Prop := fnExactIsIdleUptoRow.holds Tryz.pinned (OpenSpec.upto fnExactIsIdleSpec)

/-- 'laws.FnExactHarmless', WHERE WHAT IT READS IS OF BULK AT MOST 1048576: true; the input reads as it did. -/
def fnExactHarmlessUptoRow : OpenClaim := { program := "ytmnjhbhppkploaagreat", sum := "ea7d303ab4eb00447d6e8c4521af00898ae53d759693ba39f6fa2b6b049bae80", func := "loop.example/g00505/laws.FnExactHarmless", spec := "fnExactHarmless", apart := false, narrowed := true }
def FnExactHarmlessUptoSaid : Prop := fnExactHarmlessUptoRow.holds Tryz.pinned (OpenSpec.upto fnExactHarmlessSpec)

/-- 'laws.FnExactCounters', WHERE WHAT IT READS IS OF BULK AT MOST 1048576: true; the input reads as it did. -/
def fnExactCountersUptoRow : OpenClaim := { program := "ytmnjhbhppkploaagreat", sum := "ea7d303ab4eb00447d6e8c4521af00898ae53d759693ba39f6fa2b6b049bae80", func := "loop.example/g00505/laws.FnExactCounters", spec := "fnExactCounters", apart := false, narrowed := true }
def FnExactCountersUptoSaid : Prop := fnExactCountersUptoRow.holds Tryz.pinned (OpenSpec.upto fnExactCountersSpec)

/-- 'laws.FnExactEqualNetworks', WHERE WHAT IT READS IS OF BULK AT MOST 1048576: true; the input reads as it did. -/
def fnExactEqualNetworksUptoRow : OpenClaim := { program := "ytmnjhbhppkploaagreat", sum := "ea7d303ab4eb00447d6e8c4521af00898ae53d759693ba39f6fa2b6b049bae80", func := "loop.example/g00505/laws.FnExactEqualNetworks", spec := "fnExactEqualNetworks", apart := false, narrowed := true }
def FnExactEqualNetworksUptoSaid : Prop := fnExactEqualNetworksUptoRow.holds Tryz.pinned (OpenSpec.upto fnExactEqualNetworksSpec)

/-- 'laws.FnExactNewNetwork', WHERE WHAT IT READS IS OF BULK AT MOST 1048576: true; the input reads as it did. -/
def fnExactNewNetworkUptoRow : OpenClaim := { program := "ytmnjhbhppkploaagreat", sum := "ea7d303ab4eb00447d6e8c4521af00898ae53d759693ba39f6fa2b6b049bae80", func := "loop.example/g00505/laws.FnExactNewNetwork", spec := "fnExactNewNetwork", apart := false, narrowed := true }
def FnExactNewNetworkUptoSaid : Prop := fnExactNewNetworkUptoRow.holds Tryz.pinned (OpenSpec.upto fnExactNewNetworkSpec)

/-- 'laws.FnExactValidNetwork', WHERE WHAT IT READS IS OF BULK AT MOST 1048576: true; the input reads as it did. -/
def fnExactValidNetworkUptoRow : OpenClaim := { program := "ytmnjhbhppkploaagreat", sum := "ea7d303ab4eb00447d6e8c4521af00898ae53d759693ba39f6fa2b6b049bae80", func := "loop.example/g00505/laws.FnExactValidNetwork", spec := "fnExactValidNetwork", apart := false, narrowed := true }
def FnExactValidNetworkUptoSaid : Prop := fnExactValidNetworkUptoRow.holds Tryz.pinned (OpenSpec.upto fnExactValidNetworkSpec)

/-- 'laws.FnFlows', WHERE WHAT IT READS IS OF BULK AT MOST 1048576: true; the input reads as it did. -/
def fnFlowsUptoRow : OpenClaim := { program := "ytmnjhbhppkploaagreat", sum := "ea7d303ab4eb00447d6e8c4521af00898ae53d759693ba39f6fa2b6b049bae80", func := "loop.example/g00505/laws.FnFlows", spec := "fnFlows", apart := false, narrowed := true }
def FnFlowsUptoSaid : Prop := fnFlowsUptoRow.holds Tryz.pinned (OpenSpec.upto fnFlowsSpec)

/-- 'laws.FnAcks', WHERE WHAT IT READS IS OF BULK AT MOST 1048576: true; the input reads as it did. -/
def fnAcksUptoRow : OpenClaim := { program := "ytmnjhbhppkploaagreat", sum := "ea7d303ab4eb00447d6e8c4521af00898ae53d759693ba39f6fa2b6b049bae80", func := "loop.example/g00505/laws.FnAcks", spec := "fnAcks", apart := false, narrowed := true }
def FnAcksUptoSaid : Prop := fnAcksUptoRow.holds Tryz.pinned (OpenSpec.upto fnAcksSpec)

/-- 'laws.FnInboxes', WHERE WHAT IT READS IS OF BULK AT MOST 1048576: true; the input reads as it did. -/
def fnInboxesUptoRow : OpenClaim := { program := "ytmnjhbhppkploaagreat", sum := "ea7d303ab4eb00447d6e8c4521af00898ae53d759693ba39f6fa2b6b049bae80", func := "loop.example/g00505/laws.FnInboxes", spec := "fnInboxes", apart := false, narrowed := true }
def FnInboxesUptoSaid : Prop := fnInboxesUptoRow.holds Tryz.pinned (OpenSpec.upto fnInboxesSpec)

/-- 'laws.FnPlenty', WHERE WHAT IT READS IS OF BULK AT MOST 1048576: true; the input reads as it did. -/
def fnPlentyUptoRow : OpenClaim := { program := "ytmnjhbhppkploaagreat", sum := "ea7d303ab4eb00447d6e8c4521af00898ae53d759693ba39f6fa2b6b049bae80", func := "loop.example/g00505/laws.FnPlenty", spec := "fnPlenty", recurses := true, apart := false, narrowed := true }
def FnPlentyUptoSaid : Prop := fnPlentyUptoRow.holds Tryz.pinned (OpenSpec.upto fnPlentySpec)

end Rows
end Go.Proofs.YtmnjhbhppkploaaGreat
