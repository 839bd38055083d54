/-
  No cell of these rows narrows 'for every input' (looked for: loops, veiled, ifaces, maps, wideKeys, modest, calm, conditions, laid).
  DERIVED. THE GIVEN ROWS OF THIS SEAT. 7 by the template 'for every input the law returns true; each argument reads behind the call as it read before'; 0 by the template 'total and deterministic' (their statements: YtejfajiolkojlaaGreatTotals.lean).
  GIVEN WITH THE SEED: the statements are not yours to turn. If you find one false, say at which input.
  Laid BY PROGRAM, IN A SANDBOX (cutbox-rows.mjs): the forced cells as the released guide's own fill.sh prints them over the translation fc5e625ae5bdfb3e… (all of the seat's roots in one cut). By AI agents, Wed Nov 11 2026. No macro, syntax, notation, axiom, sorry.
-/
import Derived.Test.YtejfajiolkojlaaGreatChecked
import GoSem.Claim
import GoSem.ClaimJoined
import GoSem.ClaimMapViews
import Derived.JoinedTies
import Derived.KernelRfl
namespace Go.Proofs.YtejfajiolkojlaaGreat
/- THE CELL 'sum', in the pinned program and in every row, IS THE sha256 OF THE DUMP (.gsa) THAT YtejfajiolkojlaaGreatProg.lean LOADS. Nothing in Lean hashes anything: it is a label: what it is worth is what the hold of that sum in a sandbox is worth. -/
noncomputable def Tryz.pinned : Pinned := { name := "ytejfajiolkojlaagreat", sum := "fc5e625ae5bdfb3e26575f91e650dc62a8ba1df2b1b2301eefbd8d44d4df3d8a", checked := Tryz.checked }
namespace Rows
def none {H : Type} : Left H := { results := [], args := [] }

/-- 'laws.FnExactWorkingPath': WHATEVER THE INPUT: true; the input reads as it did. -/
def fnExactWorkingPathSpec : ChangeSpec := { name := "fnExactWorkingPath", fn := fun _ => fun
  | [d1, d2] => { results := [.lit (.bool true)], args := [d1, d2] }
  | _ => none }
def fnExactWorkingPathRow : OpenClaim := { program := "ytejfajiolkojlaagreat", sum := "fc5e625ae5bdfb3e26575f91e650dc62a8ba1df2b1b2301eefbd8d44d4df3d8a", func := "loop.example/g00505/laws.FnExactWorkingPath", spec := "fnExactWorkingPath", unfollowed := true, recurses := true, apart := false }
def FnExactWorkingPathSaid : Prop := fnExactWorkingPathRow.holds Tryz.pinned (OpenSpec.ofChange fnExactWorkingPathSpec)

/-- ITS FALSE NEIGHBOUR: 'it returns false'. Refute it at one input. -/
def fnExactWorkingPathWrong : ChangeSpec := { name := "fnExactWorkingPath", fn := fun _ => fun
  | [d1, d2] => { results := [.lit (.bool false)], args := [d1, d2] }
  | _ => none }
def FnExactWorkingPathWrongFalsely : Prop := fnExactWorkingPathRow.holds Tryz.pinned (OpenSpec.ofChange fnExactWorkingPathWrong)

/-- 'laws.FnExactAllDelivered': WHATEVER THE INPUT: true; the input reads as it did. -/
def fnExactAllDeliveredSpec : ChangeSpec := { name := "fnExactAllDelivered", fn := fun _ => fun
  | [d] => { results := [.lit (.bool true)], args := [d] }
  | _ => none }
def fnExactAllDeliveredRow : OpenClaim := { program := "ytejfajiolkojlaagreat", sum := "fc5e625ae5bdfb3e26575f91e650dc62a8ba1df2b1b2301eefbd8d44d4df3d8a", func := "loop.example/g00505/laws.FnExactAllDelivered", spec := "fnExactAllDelivered", unfollowed := true, recurses := true, apart := false }
def FnExactAllDeliveredSaid : Prop := fnExactAllDeliveredRow.holds Tryz.pinned (OpenSpec.ofChange fnExactAllDeliveredSpec)

/-- ITS FALSE NEIGHBOUR: 'it returns false'. Refute it at one input. -/
def fnExactAllDeliveredWrong : ChangeSpec := { name := "fnExactAllDelivered", fn := fun _ => fun
  | [d] => { results := [.lit (.bool false)], args := [d] }
  | _ => none }
def FnExactAllDeliveredWrongFalsely : Prop := fnExactAllDeliveredRow.holds Tryz.pinned (OpenSpec.ofChange fnExactAllDeliveredWrong)

/-- 'laws.FnExactProcessPacket': WHATEVER THE INPUT: true; the input reads as it did. -/
def fnExactProcessPacketSpec : ChangeSpec := { name := "fnExactProcessPacket", fn := fun _ => fun
  | [d1, d2, d3, d4] => { results := [.lit (.bool true)], args := [d1, d2, d3, d4] }
  | _ => none }
def fnExactProcessPacketRow : OpenClaim := { program := "ytejfajiolkojlaagreat", sum := "fc5e625ae5bdfb3e26575f91e650dc62a8ba1df2b1b2301eefbd8d44d4df3d8a", func := "loop.example/g00505/laws.FnExactProcessPacket", spec := "fnExactProcessPacket", unfollowed := true, recurses := true, apart := false }
def FnExactProcessPacketSaid : Prop := fnExactProcessPacketRow.holds Tryz.pinned (OpenSpec.ofChange fnExactProcessPacketSpec)

/-- ITS FALSE NEIGHBOUR: 'it returns false'. Refute it at one input. -/
def fnExactProcessPacketWrong : ChangeSpec := { name := "fnExactProcessPacket", fn := fun _ => fun
  | [d1, d2, d3, d4] => { results := [.lit (.bool false)], args := [d1, d2, d3, d4] }
  | _ => none }
def FnExactProcessPacketWrongFalsely : Prop := fnExactProcessPacketRow.holds Tryz.pinned (OpenSpec.ofChange fnExactProcessPacketWrong)

/-- 'laws.FnExactDeliverPackets': WHATEVER THE INPUT: true; the input reads as it did. -/
def fnExactDeliverPacketsSpec : ChangeSpec := { name := "fnExactDeliverPackets", fn := fun _ => fun
  | [d1, d2] => { results := [.lit (.bool true)], args := [d1, d2] }
  | _ => none }
def fnExactDeliverPacketsRow : OpenClaim := { program := "ytejfajiolkojlaagreat", sum := "fc5e625ae5bdfb3e26575f91e650dc62a8ba1df2b1b2301eefbd8d44d4df3d8a", func := "loop.example/g00505/laws.FnExactDeliverPackets", spec := "fnExactDeliverPackets", unfollowed := true, recurses := true, apart := false }
def FnExactDeliverPacketsSaid : Prop := fnExactDeliverPacketsRow.holds Tryz.pinned (OpenSpec.ofChange fnExactDeliverPacketsSpec)

/-- ITS FALSE NEIGHBOUR: 'it returns false'. Refute it at one input. -/
def fnExactDeliverPacketsWrong : ChangeSpec := { name := "fnExactDeliverPackets", fn := fun _ => fun
  | [d1, d2] => { results := [.lit (.bool false)], args := [d1, d2] }
  | _ => none }
def FnExactDeliverPacketsWrongFalsely : Prop := fnExactDeliverPacketsRow.holds Tryz.pinned (OpenSpec.ofChange fnExactDeliverPacketsWrong)

/-- 'laws.FnExactRunRound': WHATEVER THE INPUT: true; the input reads as it did. -/
def fnExactRunRoundSpec : ChangeSpec := { name := "fnExactRunRound", fn := fun _ => fun
  | [d] => { results := [.lit (.bool true)], args := [d] }
  | _ => none }
def fnExactRunRoundRow : OpenClaim := { program := "ytejfajiolkojlaagreat", sum := "fc5e625ae5bdfb3e26575f91e650dc62a8ba1df2b1b2301eefbd8d44d4df3d8a", func := "loop.example/g00505/laws.FnExactRunRound", spec := "fnExactRunRound", unfollowed := true, recurses := true, apart := false }
def FnExactRunRoundSaid : Prop := fnExactRunRoundRow.holds Tryz.pinned (OpenSpec.ofChange fnExactRunRoundSpec)

/-- ITS FALSE NEIGHBOUR: 'it returns false'. Refute it at one input. -/
def fnExactRunRoundWrong : ChangeSpec := { name := "fnExactRunRound", fn := fun _ => fun
  | [d] => { results := [.lit (.bool false)], args := [d] }
  | _ => none }
def FnExactRunRoundWrongFalsely : Prop := fnExactRunRoundRow.holds Tryz.pinned (OpenSpec.ofChange fnExactRunRoundWrong)

/-- 'laws.FnExactRunRounds': WHATEVER THE INPUT: true; the input reads as it did. -/
def fnExactRunRoundsSpec : ChangeSpec := { name := "fnExactRunRounds", fn := fun _ => fun
  | [d1, d2] => { results := [.lit (.bool true)], args := [d1, d2] }
  | _ => none }
def fnExactRunRoundsRow : OpenClaim := { program := "ytejfajiolkojlaagreat", sum := "fc5e625ae5bdfb3e26575f91e650dc62a8ba1df2b1b2301eefbd8d44d4df3d8a", func := "loop.example/g00505/laws.FnExactRunRounds", spec := "fnExactRunRounds", unfollowed := true, recurses := true, apart := false }
def FnExactRunRoundsSaid : Prop := fnExactRunRoundsRow.holds Tryz.pinned (OpenSpec.ofChange fnExactRunRoundsSpec)

/-- ITS FALSE NEIGHBOUR: 'it returns false'. Refute it at one input. -/
def fnExactRunRoundsWrong : ChangeSpec := { name := "fnExactRunRounds", fn := fun _ => fun
  | [d1, d2] => { results := [.lit (.bool false)], args := [d1, d2] }
  | _ => none }
def FnExactRunRoundsWrongFalsely : Prop := fnExactRunRoundsRow.holds Tryz.pinned (OpenSpec.ofChange fnExactRunRoundsWrong)

/-- 'laws.FnExactSettle': WHATEVER THE INPUT: true; the input reads as it did. -/
def fnExactSettleSpec : ChangeSpec := { name := "fnExactSettle", fn := fun _ => fun
  | [d] => { results := [.lit (.bool true)], args := [d] }
  | _ => none }
def fnExactSettleRow : OpenClaim := { program := "ytejfajiolkojlaagreat", sum := "fc5e625ae5bdfb3e26575f91e650dc62a8ba1df2b1b2301eefbd8d44d4df3d8a", func := "loop.example/g00505/laws.FnExactSettle", spec := "fnExactSettle", unfollowed := true, recurses := true, apart := false }
def FnExactSettleSaid : Prop := fnExactSettleRow.holds Tryz.pinned (OpenSpec.ofChange fnExactSettleSpec)

/-- ITS FALSE NEIGHBOUR: 'it returns false'. Refute it at one input. -/
def fnExactSettleWrong : ChangeSpec := { name := "fnExactSettle", fn := fun _ => fun
  | [d] => { results := [.lit (.bool false)], args := [d] }
  | _ => none }
def FnExactSettleWrongFalsely : Prop := fnExactSettleRow.holds Tryz.pinned (OpenSpec.ofChange fnExactSettleWrong)

/- THE SECOND FORM. 'bulk': how many values and letters a reading holds, each counted each time it is reached (what is shared counts as often as it is met; a slice's spare places count too). A statement '..UptoSaid' is the law's where the arguments, and the package variables that the reading takes, are together of bulk at most 1048576: NARROWER than '..Said'. Prove '..Said' where nothing that the law and all that it calls make is longer than what came in: it says more and counts as full. Else prove '..UptoSaid'. A law counts once. -/
mutual
def uptoBulk {H : Type} : DataW H → Nat
  | .lit (.string bytes) => bytes.length + 1
  | .lit _ => 1
  | .nil => 1
  | .ptr d => uptoBulk d + 1
  | .slice elems spare => uptoBulkAll elems + uptoBulkAll spare + 1
  | .agg parts => uptoBulkAll parts + 1
  | .iface _ d => uptoBulk d + 1
  | .map entries => uptoBulkEntries entries + 1
  | .held _ => 1
def uptoBulkAll {H : Type} : List (DataW H) → Nat
  | [] => 0
  | d :: r => uptoBulk d + uptoBulkAll r
def uptoBulkEntries {H : Type} : List (Lit × DataW H) → Nat
  | [] => 0
  | x :: r => uptoBulkEntry x + uptoBulkEntries r
def uptoBulkEntry {H : Type} : Lit × DataW H → Nat
  | (.string bytes, d) => bytes.length + uptoBulk d + 1
  | (_, d) => uptoBulk d + 1
 end
def uptoSmall : (H : Type) → List (DataW H) → Bool := fun _ ds => decide (uptoBulkAll ds ≤ 1048576)
def OpenSpec.upto (s : _root_.Go.ChangeSpec) : _root_.Go.OpenSpec := { _root_.Go.OpenSpec.ofChange s with cond := some uptoSmall }

/-- 'laws.FnExactWorkingPath', WHERE WHAT IT READS IS OF BULK AT MOST 1048576: true; the input reads as it did. -/
def fnExactWorkingPathUptoRow : OpenClaim := { program := "ytejfajiolkojlaagreat", sum := "fc5e625ae5bdfb3e26575f91e650dc62a8ba1df2b1b2301eefbd8d44d4df3d8a", func := "loop.example/g00505/laws.FnExactWorkingPath", spec := "fnExactWorkingPath", unfollowed := true, recurses := true, apart := false, narrowed := true }
def FnExactWorkingPathUptoSaid : Prop := fnExactWorkingPathUptoRow.holds Tryz.pinned (OpenSpec.upto fnExactWorkingPathSpec)

/-- 'laws.FnExactAllDelivered', WHERE WHAT IT READS IS OF BULK AT MOST 1048576: true; the input reads as it did. -/
def fnExactAllDeliveredUptoRow : OpenClaim := { program := "ytejfajiolkojlaagreat", sum := "fc5e625ae5bdfb3e26575f91e650dc62a8ba1df2b1b2301eefbd8d44d4df3d8a", func := "loop.example/g00505/laws.FnExactAllDelivered", spec := "fnExactAllDelivered", unfollowed := true, recurses := true, apart := false, narrowed := true }
def FnExactAllDeliveredUptoSaid : Prop := fnExactAllDeliveredUptoRow.holds Tryz.pinned (OpenSpec.upto fnExactAllDeliveredSpec)

/-- 'laws.FnExactProcessPacket', WHERE WHAT IT READS IS OF BULK AT MOST 1048576: true; the input reads as it did. -/
def fnExactProcessPacketUptoRow : OpenClaim := { program := "ytejfajiolkojlaagreat", sum := "fc5e625ae5bdfb3e26575f91e650dc62a8ba1df2b1b2301eefbd8d44d4df3d8a", func := "loop.example/g00505/laws.FnExactProcessPacket", spec := "fnExactProcessPacket", unfollowed := true, recurses := true, apart := false, narrowed := true }
def FnExactProcessPacketUptoSaid : Prop := fnExactProcessPacketUptoRow.holds Tryz.pinned (OpenSpec.upto fnExactProcessPacketSpec)

/-- 'laws.FnExactDeliverPackets', WHERE WHAT IT READS IS OF BULK AT MOST 1048576: true; the input reads as it did. -/
def fnExactDeliverPacketsUptoRow : OpenClaim := { program := "ytejfajiolkojlaagreat", sum := "fc5e625ae5bdfb3e26575f91e650dc62a8ba1df2b1b2301eefbd8d44d4df3d8a", func := "loop.example/g00505/laws.FnExactDeliverPackets", spec := "fnExactDeliverPackets", unfollowed := true, recurses := true, apart := false, narrowed := true }
def FnExactDeliverPacketsUptoSaid : Prop := fnExactDeliverPacketsUptoRow.holds Tryz.pinned (OpenSpec.upto fnExactDeliverPacketsSpec)

/-- 'laws.FnExactRunRound', WHERE WHAT IT READS IS OF BULK AT MOST 1048576: true; the input reads as it did. -/
def fnExactRunRoundUptoRow : OpenClaim := { program := "ytejfajiolkojlaagreat", sum := "fc5e625ae5bdfb3e26575f91e650dc62a8ba1df2b1b2301eefbd8d44d4df3d8a", func := "loop.example/g00505/laws.FnExactRunRound", spec := "fnExactRunRound", unfollowed := true, recurses := true, apart := false, narrowed := true }
def FnExactRunRoundUptoSaid : Prop := fnExactRunRoundUptoRow.holds Tryz.pinned (OpenSpec.upto fnExactRunRoundSpec)

/-- 'laws.FnExactRunRounds', WHERE WHAT IT READS IS OF BULK AT MOST 1048576: true; the input reads as it did. -/
def fnExactRunRoundsUptoRow : OpenClaim := { program := "ytejfajiolkojlaagreat", sum := "fc5e625ae5bdfb3e26575f91e650dc62a8ba1df2b1b2301eefbd8d44d4df3d8a", func := "loop.example/g00505/laws.FnExactRunRounds", spec := "fnExactRunRounds", unfollowed := true, recurses := true, apart := false, narrowed := true }
def FnExactRunRoundsUptoSaid : Prop := fnExactRunRoundsUptoRow.holds Tryz.pinned (OpenSpec.upto fnExactRunRoundsSpec)

/-- 'laws.FnExactSettle', WHERE WHAT IT READS IS OF BULK AT MOST 1048576: true; the input reads as it did. -/
def fnExactSettleUptoRow : OpenClaim := { program := "ytejfajiolkojlaagreat", sum := "fc5e625ae5bdfb3e26575f91e650dc62a8ba1df2b1b2301eefbd8d44d4df3d8a", func := "loop.example/g00505/laws.FnExactSettle", spec := "fnExactSettle", unfollowed := true, recurses := true, apart := false, narrowed := true }
def FnExactSettleUptoSaid : Prop := fnExactSettleUptoRow.holds Tryz.pinned (OpenSpec.upto fnExactSettleSpec)

end Rows
end Go.Proofs.YtejfajiolkojlaaGreat
