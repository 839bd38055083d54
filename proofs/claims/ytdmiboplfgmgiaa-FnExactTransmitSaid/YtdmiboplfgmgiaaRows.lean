/-
  No cell of these rows narrows 'for every input' (looked for: loops, veiled, ifaces, maps, wideKeys, modest, calm, conditions, laid).
  DERIVED. THE GIVEN ROWS OF THIS SEAT. 12 by the template 'for every input the law returns true; each argument reads behind the call as it read before'; 0 by the template 'total and deterministic' (their statements: YtdmiboplfgmgiaaTotals.lean).
  GIVEN WITH THE SEED: the statements are not yours to turn. If you find one false, say at which input.
  Laid BY PROGRAM, IN A SANDBOX (cutbox-rows.mjs): the forced cells as the released guide's own fill.sh prints them over the translation ddb4f6cdd6391d5c… (all of the seat's roots in one cut). By AI agents, Wed Nov 11 2026. No macro, syntax, notation, axiom, sorry.
-/
import Derived.Test.YtdmiboplfgmgiaaChecked
import GoSem.Claim
import GoSem.ClaimJoined
import GoSem.ClaimMapViews
import Derived.JoinedTies
import Derived.KernelRfl
namespace Go.Proofs.Ytdmiboplfgmgiaa
/- THE CELL 'sum', in the pinned program and in every row, IS THE sha256 OF THE DUMP (.gsa) THAT YtdmiboplfgmgiaaProg.lean LOADS. Nothing in Lean hashes anything: it is a label: what it is worth is what the hold of that sum in a sandbox is worth. -/
noncomputable def Try.pinned : Pinned := { name := "ytdmiboplfgmgiaa", sum := "ddb4f6cdd6391d5c0d99d442ba0a4186a991c29391456543f4df12cd3cfc5201", checked := Try.checked }
namespace Rows
def none {H : Type} : Left H := { results := [], args := [] }

/-- 'laws.FnExactEventName': WHATEVER THE INPUT: true; the input reads as it did. -/
def fnExactEventNameSpec : ChangeSpec := { name := "fnExactEventName", fn := fun _ => fun
  | [d] => { results := [.lit (.bool true)], args := [d] }
  | _ => none }
def fnExactEventNameRow : OpenClaim := { program := "ytdmiboplfgmgiaa", sum := "ddb4f6cdd6391d5c0d99d442ba0a4186a991c29391456543f4df12cd3cfc5201", func := "loop.example/g00505/laws.FnExactEventName", spec := "fnExactEventName", apart := false }
def FnExactEventNameSaid : Prop := fnExactEventNameRow.holds Try.pinned (OpenSpec.ofChange fnExactEventNameSpec)

/-- ITS FALSE NEIGHBOUR: 'it returns false'. Refute it at one input. -/
def fnExactEventNameWrong : ChangeSpec := { name := "fnExactEventName", fn := fun _ => fun
  | [d] => { results := [.lit (.bool false)], args := [d] }
  | _ => none }
def FnExactEventNameWrongFalsely : Prop := fnExactEventNameRow.holds Try.pinned (OpenSpec.ofChange fnExactEventNameWrong)

/-- 'laws.FnExactNewInbox': WHATEVER THE INPUT: true; the input reads as it did. -/
def fnExactNewInboxSpec : ChangeSpec := { name := "fnExactNewInbox", fn := fun _ => fun
  | [d1, d2] => { results := [.lit (.bool true)], args := [d1, d2] }
  | _ => none }
def fnExactNewInboxRow : OpenClaim := { program := "ytdmiboplfgmgiaa", sum := "ddb4f6cdd6391d5c0d99d442ba0a4186a991c29391456543f4df12cd3cfc5201", func := "loop.example/g00505/laws.FnExactNewInbox", spec := "fnExactNewInbox", apart := false }
def FnExactNewInboxSaid : Prop := fnExactNewInboxRow.holds Try.pinned (OpenSpec.ofChange fnExactNewInboxSpec)

/-- ITS FALSE NEIGHBOUR: 'it returns false'. Refute it at one input. -/
def fnExactNewInboxWrong : ChangeSpec := { name := "fnExactNewInbox", fn := fun _ => fun
  | [d1, d2] => { results := [.lit (.bool false)], args := [d1, d2] }
  | _ => none }
def FnExactNewInboxWrongFalsely : Prop := fnExactNewInboxRow.holds Try.pinned (OpenSpec.ofChange fnExactNewInboxWrong)

/-- 'laws.FnExactValidInbox': WHATEVER THE INPUT: true; the input reads as it did. -/
def fnExactValidInboxSpec : ChangeSpec := { name := "fnExactValidInbox", fn := fun _ => fun
  | [d] => { results := [.lit (.bool true)], args := [d] }
  | _ => none }
def fnExactValidInboxRow : OpenClaim := { program := "ytdmiboplfgmgiaa", sum := "ddb4f6cdd6391d5c0d99d442ba0a4186a991c29391456543f4df12cd3cfc5201", func := "loop.example/g00505/laws.FnExactValidInbox", spec := "fnExactValidInbox", apart := false }
def FnExactValidInboxSaid : Prop := fnExactValidInboxRow.holds Try.pinned (OpenSpec.ofChange fnExactValidInboxSpec)

/-- ITS FALSE NEIGHBOUR: 'it returns false'. Refute it at one input. -/
def fnExactValidInboxWrong : ChangeSpec := { name := "fnExactValidInbox", fn := fun _ => fun
  | [d] => { results := [.lit (.bool false)], args := [d] }
  | _ => none }
def FnExactValidInboxWrongFalsely : Prop := fnExactValidInboxRow.holds Try.pinned (OpenSpec.ofChange fnExactValidInboxWrong)

/-- 'laws.FnExactEqualInboxes': WHATEVER THE INPUT: true; the input reads as it did. -/
def fnExactEqualInboxesSpec : ChangeSpec := { name := "fnExactEqualInboxes", fn := fun _ => fun
  | [d1, d2] => { results := [.lit (.bool true)], args := [d1, d2] }
  | _ => none }
def fnExactEqualInboxesRow : OpenClaim := { program := "ytdmiboplfgmgiaa", sum := "ddb4f6cdd6391d5c0d99d442ba0a4186a991c29391456543f4df12cd3cfc5201", func := "loop.example/g00505/laws.FnExactEqualInboxes", spec := "fnExactEqualInboxes", apart := false }
def FnExactEqualInboxesSaid : Prop := fnExactEqualInboxesRow.holds Try.pinned (OpenSpec.ofChange fnExactEqualInboxesSpec)

/-- ITS FALSE NEIGHBOUR: 'it returns false'. Refute it at one input. -/
def fnExactEqualInboxesWrong : ChangeSpec := { name := "fnExactEqualInboxes", fn := fun _ => fun
  | [d1, d2] => { results := [.lit (.bool false)], args := [d1, d2] }
  | _ => none }
def FnExactEqualInboxesWrongFalsely : Prop := fnExactEqualInboxesRow.holds Try.pinned (OpenSpec.ofChange fnExactEqualInboxesWrong)

/-- 'laws.FnExactFindInbox': WHATEVER THE INPUT: true; the input reads as it did. -/
def fnExactFindInboxSpec : ChangeSpec := { name := "fnExactFindInbox", fn := fun _ => fun
  | [d1, d2, d3] => { results := [.lit (.bool true)], args := [d1, d2, d3] }
  | _ => none }
def fnExactFindInboxRow : OpenClaim := { program := "ytdmiboplfgmgiaa", sum := "ddb4f6cdd6391d5c0d99d442ba0a4186a991c29391456543f4df12cd3cfc5201", func := "loop.example/g00505/laws.FnExactFindInbox", spec := "fnExactFindInbox", apart := false }
def FnExactFindInboxSaid : Prop := fnExactFindInboxRow.holds Try.pinned (OpenSpec.ofChange fnExactFindInboxSpec)

/-- ITS FALSE NEIGHBOUR: 'it returns false'. Refute it at one input. -/
def fnExactFindInboxWrong : ChangeSpec := { name := "fnExactFindInbox", fn := fun _ => fun
  | [d1, d2, d3] => { results := [.lit (.bool false)], args := [d1, d2, d3] }
  | _ => none }
def FnExactFindInboxWrongFalsely : Prop := fnExactFindInboxRow.holds Try.pinned (OpenSpec.ofChange fnExactFindInboxWrong)

/-- 'laws.FnExactNewScheduler': WHATEVER THE INPUT: true; the input reads as it did. -/
def fnExactNewSchedulerSpec : ChangeSpec := { name := "fnExactNewScheduler", fn := fun _ => fun
  | [d] => { results := [.lit (.bool true)], args := [d] }
  | _ => none }
def fnExactNewSchedulerRow : OpenClaim := { program := "ytdmiboplfgmgiaa", sum := "ddb4f6cdd6391d5c0d99d442ba0a4186a991c29391456543f4df12cd3cfc5201", func := "loop.example/g00505/laws.FnExactNewScheduler", spec := "fnExactNewScheduler", apart := false }
def FnExactNewSchedulerSaid : Prop := fnExactNewSchedulerRow.holds Try.pinned (OpenSpec.ofChange fnExactNewSchedulerSpec)

/-- ITS FALSE NEIGHBOUR: 'it returns false'. Refute it at one input. -/
def fnExactNewSchedulerWrong : ChangeSpec := { name := "fnExactNewScheduler", fn := fun _ => fun
  | [d] => { results := [.lit (.bool false)], args := [d] }
  | _ => none }
def FnExactNewSchedulerWrongFalsely : Prop := fnExactNewSchedulerRow.holds Try.pinned (OpenSpec.ofChange fnExactNewSchedulerWrong)

/-- 'laws.FnExactEqualSchedulers': WHATEVER THE INPUT: true; the input reads as it did. -/
def fnExactEqualSchedulersSpec : ChangeSpec := { name := "fnExactEqualSchedulers", fn := fun _ => fun
  | [d1, d2] => { results := [.lit (.bool true)], args := [d1, d2] }
  | _ => none }
def fnExactEqualSchedulersRow : OpenClaim := { program := "ytdmiboplfgmgiaa", sum := "ddb4f6cdd6391d5c0d99d442ba0a4186a991c29391456543f4df12cd3cfc5201", func := "loop.example/g00505/laws.FnExactEqualSchedulers", spec := "fnExactEqualSchedulers", apart := false }
def FnExactEqualSchedulersSaid : Prop := fnExactEqualSchedulersRow.holds Try.pinned (OpenSpec.ofChange fnExactEqualSchedulersSpec)

/-- ITS FALSE NEIGHBOUR: 'it returns false'. Refute it at one input. -/
def fnExactEqualSchedulersWrong : ChangeSpec := { name := "fnExactEqualSchedulers", fn := fun _ => fun
  | [d1, d2] => { results := [.lit (.bool false)], args := [d1, d2] }
  | _ => none }
def FnExactEqualSchedulersWrongFalsely : Prop := fnExactEqualSchedulersRow.holds Try.pinned (OpenSpec.ofChange fnExactEqualSchedulersWrong)

/-- 'laws.FnExactBeginTick': WHATEVER THE INPUT: true; the input reads as it did. -/
def fnExactBeginTickSpec : ChangeSpec := { name := "fnExactBeginTick", fn := fun _ => fun
  | [d1, d2] => { results := [.lit (.bool true)], args := [d1, d2] }
  | _ => none }
def fnExactBeginTickRow : OpenClaim := { program := "ytdmiboplfgmgiaa", sum := "ddb4f6cdd6391d5c0d99d442ba0a4186a991c29391456543f4df12cd3cfc5201", func := "loop.example/g00505/laws.FnExactBeginTick", spec := "fnExactBeginTick", apart := false }
def FnExactBeginTickSaid : Prop := fnExactBeginTickRow.holds Try.pinned (OpenSpec.ofChange fnExactBeginTickSpec)

/-- ITS FALSE NEIGHBOUR: 'it returns false'. Refute it at one input. -/
def fnExactBeginTickWrong : ChangeSpec := { name := "fnExactBeginTick", fn := fun _ => fun
  | [d1, d2] => { results := [.lit (.bool false)], args := [d1, d2] }
  | _ => none }
def FnExactBeginTickWrongFalsely : Prop := fnExactBeginTickRow.holds Try.pinned (OpenSpec.ofChange fnExactBeginTickWrong)

/-- 'laws.FnReserved': WHATEVER THE INPUT: true; the input reads as it did. -/
def fnReservedSpec : ChangeSpec := { name := "fnReserved", fn := fun _ => fun
  | [d] => { results := [.lit (.bool true)], args := [d] }
  | _ => none }
def fnReservedRow : OpenClaim := { program := "ytdmiboplfgmgiaa", sum := "ddb4f6cdd6391d5c0d99d442ba0a4186a991c29391456543f4df12cd3cfc5201", func := "loop.example/g00505/laws.FnReserved", spec := "fnReserved", apart := false }
def FnReservedSaid : Prop := fnReservedRow.holds Try.pinned (OpenSpec.ofChange fnReservedSpec)

/-- ITS FALSE NEIGHBOUR: 'it returns false'. Refute it at one input. -/
def fnReservedWrong : ChangeSpec := { name := "fnReserved", fn := fun _ => fun
  | [d] => { results := [.lit (.bool false)], args := [d] }
  | _ => none }
def FnReservedWrongFalsely : Prop := fnReservedRow.holds Try.pinned (OpenSpec.ofChange fnReservedWrong)

/-- 'laws.FnExactValidScheduler': WHATEVER THE INPUT: true; the input reads as it did. -/
def fnExactValidSchedulerSpec : ChangeSpec := { name := "fnExactValidScheduler", fn := fun _ => fun
  | [d1, d2] => { results := [.lit (.bool true)], args := [d1, d2] }
  | _ => none }
def fnExactValidSchedulerRow : OpenClaim := { program := "ytdmiboplfgmgiaa", sum := "ddb4f6cdd6391d5c0d99d442ba0a4186a991c29391456543f4df12cd3cfc5201", func := "loop.example/g00505/laws.FnExactValidScheduler", spec := "fnExactValidScheduler", apart := false }
def FnExactValidSchedulerSaid : Prop := fnExactValidSchedulerRow.holds Try.pinned (OpenSpec.ofChange fnExactValidSchedulerSpec)

/-- ITS FALSE NEIGHBOUR: 'it returns false'. Refute it at one input. -/
def fnExactValidSchedulerWrong : ChangeSpec := { name := "fnExactValidScheduler", fn := fun _ => fun
  | [d1, d2] => { results := [.lit (.bool false)], args := [d1, d2] }
  | _ => none }
def FnExactValidSchedulerWrongFalsely : Prop := fnExactValidSchedulerRow.holds Try.pinned (OpenSpec.ofChange fnExactValidSchedulerWrong)

/-- 'laws.FnExactNewFlow': WHATEVER THE INPUT: true; the input reads as it did. -/
def fnExactNewFlowSpec : ChangeSpec := { name := "fnExactNewFlow", fn := fun _ => fun
  | [d1, d2, d3] => { results := [.lit (.bool true)], args := [d1, d2, d3] }
  | _ => none }
def fnExactNewFlowRow : OpenClaim := { program := "ytdmiboplfgmgiaa", sum := "ddb4f6cdd6391d5c0d99d442ba0a4186a991c29391456543f4df12cd3cfc5201", func := "loop.example/g00505/laws.FnExactNewFlow", spec := "fnExactNewFlow", apart := false }
def FnExactNewFlowSaid : Prop := fnExactNewFlowRow.holds Try.pinned (OpenSpec.ofChange fnExactNewFlowSpec)

/-- ITS FALSE NEIGHBOUR: 'it returns false'. Refute it at one input. -/
def fnExactNewFlowWrong : ChangeSpec := { name := "fnExactNewFlow", fn := fun _ => fun
  | [d1, d2, d3] => { results := [.lit (.bool false)], args := [d1, d2, d3] }
  | _ => none }
def FnExactNewFlowWrongFalsely : Prop := fnExactNewFlowRow.holds Try.pinned (OpenSpec.ofChange fnExactNewFlowWrong)

/-- 'laws.FnExactTransmit': WHATEVER THE INPUT: true; the input reads as it did. -/
def fnExactTransmitSpec : ChangeSpec := { name := "fnExactTransmit", fn := fun _ => fun
  | [d1, d2, d3, d4, d5] => { results := [.lit (.bool true)], args := [d1, d2, d3, d4, d5] }
  | _ => none }
def fnExactTransmitRow : OpenClaim := { program := "ytdmiboplfgmgiaa", sum := "ddb4f6cdd6391d5c0d99d442ba0a4186a991c29391456543f4df12cd3cfc5201", func := "loop.example/g00505/laws.FnExactTransmit", spec := "fnExactTransmit", apart := false }
def FnExactTransmitSaid : Prop := fnExactTransmitRow.holds Try.pinned (OpenSpec.ofChange fnExactTransmitSpec)

/-- ITS FALSE NEIGHBOUR: 'it returns false'. Refute it at one input. -/
def fnExactTransmitWrong : ChangeSpec := { name := "fnExactTransmit", fn := fun _ => fun
  | [d1, d2, d3, d4, d5] => { results := [.lit (.bool false)], args := [d1, d2, d3, d4, d5] }
  | _ => none }
def FnExactTransmitWrongFalsely : Prop := fnExactTransmitRow.holds Try.pinned (OpenSpec.ofChange fnExactTransmitWrong)

/- THE SECOND FORM. 'bulk': how many values and letters a reading holds, each counted each time it is reached (what is shared counts as often as it is met; a slice's spare places count too). A statement '..UptoSaid' is the law's where the arguments, and the package variables that the reading takes, are together of bulk at most 1048576: NARROWER than '..Said'. Prove '..Said' where nothing that the law and all that it calls make is longer than what came in: it says more and counts as full. Else prove '..UptoSaid'. A law counts once. -/
mutual
def uptoBulk {H : Type} : DataW H → Nat
  | .lit (.string bytes) => bytes.length + 1
  | .lit _ => 1
  | .nil => 1
  | .ptr d => uptoBulk d + 1
  | .slice elems spare => uptoBulkAll elems + uptoBulkAll spare + 1
  | .agg parts => uptoBulkAll parts + 1
  | .iface _ d => uptoBulk d + 1
  | .map entries => uptoBulkEntries entries + 1
  | .held _ => 1
def uptoBulkAll {H : Type} : List (DataW H) → Nat
  | [] => 0
  | d :: r => uptoBulk d + uptoBulkAll r
def uptoBulkEntries {H : Type} : List (Lit × DataW H) → Nat
  | [] => 0
  | x :: r => uptoBulkEntry x + uptoBulkEntries r
def uptoBulkEntry {H : Type} : Lit × DataW H → Nat
  | (.string bytes, d) => bytes.length + uptoBulk d + 1
  | (_, d) => uptoBulk d + 1
 end
def uptoSmall : (H : Type) → List (DataW H) → Bool := fun _ ds => decide (uptoBulkAll ds ≤ 1048576)
def OpenSpec.upto (s : _root_.Go.ChangeSpec) : _root_.Go.OpenSpec := { _root_.Go.OpenSpec.ofChange s with cond := some uptoSmall }

/-- 'laws.FnExactEventName', WHERE WHAT IT READS IS OF BULK AT MOST 1048576: true; the input reads as it did. -/
def fnExactEventNameUptoRow : OpenClaim := { program := "ytdmiboplfgmgiaa", sum := "ddb4f6cdd6391d5c0d99d442ba0a4186a991c29391456543f4df12cd3cfc5201", func := "loop.example/g00505/laws.FnExactEventName", spec := "fnExactEventName", apart := false, narrowed := true }
def FnExactEventNameUptoSaid : Prop := fnExactEventNameUptoRow.holds Try.pinned (OpenSpec.upto fnExactEventNameSpec)

/-- 'laws.FnExactNewInbox', WHERE WHAT IT READS IS OF BULK AT MOST 1048576: true; the input reads as it did. -/
def fnExactNewInboxUptoRow : OpenClaim := { program := "ytdmiboplfgmgiaa", sum := "ddb4f6cdd6391d5c0d99d442ba0a4186a991c29391456543f4df12cd3cfc5201", func := "loop.example/g00505/laws.FnExactNewInbox", spec := "fnExactNewInbox", apart := false, narrowed := true }
def FnExactNewInboxUptoSaid : Prop := fnExactNewInboxUptoRow.holds Try.pinned (OpenSpec.upto fnExactNewInboxSpec)

/-- 'laws.FnExactValidInbox', WHERE WHAT IT READS IS OF BULK AT MOST 1048576: true; the input reads as it did. -/
def fnExactValidInboxUptoRow : OpenClaim := { program := "ytdmiboplfgmgiaa", sum := "ddb4f6cdd6391d5c0d99d442ba0a4186a991c29391456543f4df12cd3cfc5201", func := "loop.example/g00505/laws.FnExactValidInbox", spec := "fnExactValidInbox", apart := false, narrowed := true }
def FnExactValidInboxUptoSaid : Prop := fnExactValidInboxUptoRow.holds Try.pinned (OpenSpec.upto fnExactValidInboxSpec)

/-- 'laws.FnExactEqualInboxes', WHERE WHAT IT READS IS OF BULK AT MOST 1048576: true; the input reads as it did. -/
def fnExactEqualInboxesUptoRow : OpenClaim := { program := "ytdmiboplfgmgiaa", sum := "ddb4f6cdd6391d5c0d99d442ba0a4186a991c29391456543f4df12cd3cfc5201", func := "loop.example/g00505/laws.FnExactEqualInboxes", spec := "fnExactEqualInboxes", apart := false, narrowed := true }
def FnExactEqualInboxesUptoSaid : Prop := fnExactEqualInboxesUptoRow.holds Try.pinned (OpenSpec.upto fnExactEqualInboxesSpec)

/-- 'laws.FnExactFindInbox', WHERE WHAT IT READS IS OF BULK AT MOST 1048576: true; the input reads as it did. -/
def fnExactFindInboxUptoRow : OpenClaim := { program := "ytdmiboplfgmgiaa", sum := "ddb4f6cdd6391d5c0d99d442ba0a4186a991c29391456543f4df12cd3cfc5201", func := "loop.example/g00505/laws.FnExactFindInbox", spec := "fnExactFindInbox", apart := false, narrowed := true }
def FnExactFindInboxUptoSaid : Prop := fnExactFindInboxUptoRow.holds Try.pinned (OpenSpec.upto fnExactFindInboxSpec)

/-- 'laws.FnExactNewScheduler', WHERE WHAT IT READS IS OF BULK AT MOST 1048576: true; the input reads as it did. -/
def fnExactNewSchedulerUptoRow : OpenClaim := { program := "ytdmiboplfgmgiaa", sum := "ddb4f6cdd6391d5c0d99d442ba0a4186a991c29391456543f4df12cd3cfc5201", func := "loop.example/g00505/laws.FnExactNewScheduler", spec := "fnExactNewScheduler", apart := false, narrowed := true }
def FnExactNewSchedulerUptoSaid : Prop := fnExactNewSchedulerUptoRow.holds Try.pinned (OpenSpec.upto fnExactNewSchedulerSpec)

/-- 'laws.FnExactEqualSchedulers', WHERE WHAT IT READS IS OF BULK AT MOST 1048576: true; the input reads as it did. -/
def fnExactEqualSchedulersUptoRow : OpenClaim := { program := "ytdmiboplfgmgiaa", sum := "ddb4f6cdd6391d5c0d99d442ba0a4186a991c29391456543f4df12cd3cfc5201", func := "loop.example/g00505/laws.FnExactEqualSchedulers", spec := "fnExactEqualSchedulers", apart := false, narrowed := true }
def FnExactEqualSchedulersUptoSaid : Prop := fnExactEqualSchedulersUptoRow.holds Try.pinned (OpenSpec.upto fnExactEqualSchedulersSpec)

/-- 'laws.FnExactBeginTick', WHERE WHAT IT READS IS OF BULK AT MOST 1048576: true; the input reads as it did. -/
def fnExactBeginTickUptoRow : OpenClaim := { program := "ytdmiboplfgmgiaa", sum := "ddb4f6cdd6391d5c0d99d442ba0a4186a991c29391456543f4df12cd3cfc5201", func := "loop.example/g00505/laws.FnExactBeginTick", spec := "fnExactBeginTick", apart := false, narrowed := true }
def FnExactBeginTickUptoSaid : Prop := fnExactBeginTickUptoRow.holds Try.pinned (OpenSpec.upto fnExactBeginTickSpec)

/-- 'laws.FnReserved', WHERE WHAT IT READS IS OF BULK AT MOST 1048576: true; the input reads as it did. -/
def fnReservedUptoRow : OpenClaim := { program := "ytdmiboplfgmgiaa", sum := "ddb4f6cdd6391d5c0d99d442ba0a4186a991c29391456543f4df12cd3cfc5201", func := "loop.example/g00505/laws.FnReserved", spec := "fnReserved", apart := false, narrowed := true }
def FnReservedUptoSaid : Prop := fnReservedUptoRow.holds Try.pinned (OpenSpec.upto fnReservedSpec)

/-- 'laws.FnExactValidScheduler', WHERE WHAT IT READS IS OF BULK AT MOST 1048576: true; the input reads as it did. -/
def fnExactValidSchedulerUptoRow : OpenClaim := { program := "ytdmiboplfgmgiaa", sum := "ddb4f6cdd6391d5c0d99d442ba0a4186a991c29391456543f4df12cd3cfc5201", func := "loop.example/g00505/laws.FnExactValidScheduler", spec := "fnExactValidScheduler", apart := false, narrowed := true }
def FnExactValidSchedulerUptoSaid : Prop := fnExactValidSchedulerUptoRow.holds Try.pinned (OpenSpec.upto fnExactValidSchedulerSpec)

/-- 'laws.FnExactNewFlow', WHERE WHAT IT READS IS OF BULK AT MOST 1048576: true; the input reads as it did. -/
def fnExactNewFlowUptoRow : OpenClaim := { program := "ytdmiboplfgmgiaa", sum := "ddb4f6cdd6391d5c0d99d442ba0a4186a991c29391456543f4df12cd3cfc5201", func := "loop.example/g00505/laws.FnExactNewFlow", spec := "fnExactNewFlow", apart := false, narrowed := true }
def FnExactNewFlowUptoSaid : Prop := fnExactNewFlowUptoRow.holds Try.pinned (OpenSpec.upto fnExactNewFlowSpec)

/-- 'laws.FnExactTransmit', WHERE WHAT IT READS IS OF BULK AT MOST 1048576: true; the input reads as it did. -/
def fnExactTransmitUptoRow : OpenClaim := { program := "ytdmiboplfgmgiaa", sum := "ddb4f6cdd6391d5c0d99d442ba0a4186a991c29391456543f4df12cd3cfc5201", func := "loop.example/g00505/laws.FnExactTransmit", spec := "fnExactTransmit", apart := false, narrowed := true }
def FnExactTransmitUptoSaid : Prop := fnExactTransmitUptoRow.holds Try.pinned (OpenSpec.upto fnExactTransmitSpec)

end Rows
end Go.Proofs.Ytdmiboplfgmgiaa
