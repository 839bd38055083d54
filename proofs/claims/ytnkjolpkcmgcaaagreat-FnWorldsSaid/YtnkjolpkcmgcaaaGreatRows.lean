/-
  No cell of these rows narrows 'for every input' (looked for: loops, veiled, ifaces, maps, wideKeys, modest, calm, conditions, laid).
  DERIVED. THE GIVEN ROWS OF THIS SEAT. 5 by the template 'for every input the law returns true; each argument reads behind the call as it read before'; 0 by the template 'total and deterministic' (their statements: YtnkjolpkcmgcaaaGreatTotals.lean).
  GIVEN WITH THE SEED: the statements are not yours to turn. If you find one false, say at which input.
  Laid BY PROGRAM, IN A SANDBOX (cutbox-rows.mjs): the forced cells as the released guide's own fill.sh prints them over the translation 839d0fe7ca32cd66… (all of the seat's roots in one cut). By AI agents, Wed Nov 11 2026. No macro, syntax, notation, axiom, sorry.
-/
import Derived.Test.YtnkjolpkcmgcaaaGreatChecked
import GoSem.Claim
import GoSem.ClaimJoined
import GoSem.ClaimMapViews
import Derived.JoinedTies
import Derived.KernelRfl
namespace Go.Proofs.YtnkjolpkcmgcaaaGreat
/- THE CELL 'sum', in the pinned program and in every row, IS THE sha256 OF THE DUMP (.gsa) THAT YtnkjolpkcmgcaaaGreatProg.lean LOADS. Nothing in Lean hashes anything: it is a label: what it is worth is what the hold of that sum in a sandbox is worth. -/
noncomputable def Tryz.pinned : Pinned := { name := "ytnkjolpkcmgcaaagreat", sum := "839d0fe7ca32cd66835135ffc685e3440f0d057b6bc6ef4c9edd1c99a8f2f8be", checked := Tryz.checked }
namespace Rows
def none {H : Type} : Left H := { results := [], args := [] }

/-- 'laws.FnTop': WHATEVER THE INPUT: true; the input reads as it did. -/
def fnTopSpec : ChangeSpec := { name := "fnTop", fn := fun _ => fun
  | [d] => { results := [.lit (.bool true)], args := [d] }
  | _ => none }
def fnTopRow : OpenClaim := { program := "ytnkjolpkcmgcaaagreat", sum := "839d0fe7ca32cd66835135ffc685e3440f0d057b6bc6ef4c9edd1c99a8f2f8be", func := "loop.example/g00505/laws.FnTop", spec := "fnTop", unfollowed := true, recurses := true, apart := false }
def FnTopSaid : Prop := fnTopRow.holds Tryz.pinned (OpenSpec.ofChange fnTopSpec)

/-- ITS FALSE NEIGHBOUR: 'it returns false'. Refute it at one input. -/
def fnTopWrong : ChangeSpec := { name := "fnTop", fn := fun _ => fun
  | [d] => { results := [.lit (.bool false)], args := [d] }
  | _ => none }
def FnTopWrongFalsely : Prop := fnTopRow.holds Tryz.pinned (OpenSpec.ofChange fnTopWrong)

/-- 'laws.FnFast': WHATEVER THE INPUT: true; the input reads as it did. -/
def fnFastSpec : ChangeSpec := { name := "fnFast", fn := fun _ => fun
  | [d] => { results := [.lit (.bool true)], args := [d] }
  | _ => none }
def fnFastRow : OpenClaim := { program := "ytnkjolpkcmgcaaagreat", sum := "839d0fe7ca32cd66835135ffc685e3440f0d057b6bc6ef4c9edd1c99a8f2f8be", func := "loop.example/g00505/laws.FnFast", spec := "fnFast", unfollowed := true, recurses := true, apart := false }
def FnFastSaid : Prop := fnFastRow.holds Tryz.pinned (OpenSpec.ofChange fnFastSpec)

/-- ITS FALSE NEIGHBOUR: 'it returns false'. Refute it at one input. -/
def fnFastWrong : ChangeSpec := { name := "fnFast", fn := fun _ => fun
  | [d] => { results := [.lit (.bool false)], args := [d] }
  | _ => none }
def FnFastWrongFalsely : Prop := fnFastRow.holds Tryz.pinned (OpenSpec.ofChange fnFastWrong)

/-- 'laws.FnDetour': WHATEVER THE INPUT: true; the input reads as it did. -/
def fnDetourSpec : ChangeSpec := { name := "fnDetour", fn := fun _ => fun
  | [d] => { results := [.lit (.bool true)], args := [d] }
  | _ => none }
def fnDetourRow : OpenClaim := { program := "ytnkjolpkcmgcaaagreat", sum := "839d0fe7ca32cd66835135ffc685e3440f0d057b6bc6ef4c9edd1c99a8f2f8be", func := "loop.example/g00505/laws.FnDetour", spec := "fnDetour", unfollowed := true, recurses := true, apart := false }
def FnDetourSaid : Prop := fnDetourRow.holds Tryz.pinned (OpenSpec.ofChange fnDetourSpec)

/-- ITS FALSE NEIGHBOUR: 'it returns false'. Refute it at one input. -/
def fnDetourWrong : ChangeSpec := { name := "fnDetour", fn := fun _ => fun
  | [d] => { results := [.lit (.bool false)], args := [d] }
  | _ => none }
def FnDetourWrongFalsely : Prop := fnDetourRow.holds Tryz.pinned (OpenSpec.ofChange fnDetourWrong)

/-- 'laws.FnSettles': WHATEVER THE INPUT: true; the input reads as it did. -/
def fnSettlesSpec : ChangeSpec := { name := "fnSettles", fn := fun _ => fun
  | [d] => { results := [.lit (.bool true)], args := [d] }
  | _ => none }
def fnSettlesRow : OpenClaim := { program := "ytnkjolpkcmgcaaagreat", sum := "839d0fe7ca32cd66835135ffc685e3440f0d057b6bc6ef4c9edd1c99a8f2f8be", func := "loop.example/g00505/laws.FnSettles", spec := "fnSettles", unfollowed := true, recurses := true, apart := false }
def FnSettlesSaid : Prop := fnSettlesRow.holds Tryz.pinned (OpenSpec.ofChange fnSettlesSpec)

/-- ITS FALSE NEIGHBOUR: 'it returns false'. Refute it at one input. -/
def fnSettlesWrong : ChangeSpec := { name := "fnSettles", fn := fun _ => fun
  | [d] => { results := [.lit (.bool false)], args := [d] }
  | _ => none }
def FnSettlesWrongFalsely : Prop := fnSettlesRow.holds Tryz.pinned (OpenSpec.ofChange fnSettlesWrong)

/-- 'laws.FnWorlds': WHATEVER THE INPUT: true; the input reads as it did. -/
def fnWorldsSpec : ChangeSpec := { name := "fnWorlds", fn := fun _ => fun
  | [d] => { results := [.lit (.bool true)], args := [d] }
  | _ => none }
def fnWorldsRow : OpenClaim := { program := "ytnkjolpkcmgcaaagreat", sum := "839d0fe7ca32cd66835135ffc685e3440f0d057b6bc6ef4c9edd1c99a8f2f8be", func := "loop.example/g00505/laws.FnWorlds", spec := "fnWorlds", unfollowed := true, recurses := true, apart := false }
def FnWorldsSaid : Prop := fnWorldsRow.holds Tryz.pinned (OpenSpec.ofChange fnWorldsSpec)

/-- ITS FALSE NEIGHBOUR: 'it returns false'. Refute it at one input. -/
def fnWorldsWrong : ChangeSpec := { name := "fnWorlds", fn := fun _ => fun
  | [d] => { results := [.lit (.bool false)], args := [d] }
  | _ => none }
def FnWorldsWrongFalsely : Prop := fnWorldsRow.holds Tryz.pinned (OpenSpec.ofChange fnWorldsWrong)

/- THE SECOND FORM. 'bulk': how many values and letters a reading holds, each counted each time it is reached (what is shared counts as often as it is met; a slice's spare places count too). A statement '..UptoSaid' is the law's where the arguments, and the package variables that the reading takes, are together of bulk at most 1048576: NARROWER than '..Said'. Prove '..Said' where nothing that the law and all that it calls make is longer than what came in: it says more and counts as full. Else prove '..UptoSaid'. A law counts once. -/
mutual
def uptoBulk {H : Type} : DataW H → Nat
  | .lit (.string bytes) => bytes.length + 1
  | .lit _ => 1
  | .nil => 1
  | .ptr d => uptoBulk d + 1
  | .slice elems spare => uptoBulkAll elems + uptoBulkAll spare + 1
  | .agg parts => uptoBulkAll parts + 1
  | .iface _ d => uptoBulk d + 1
  | .map entries => uptoBulkEntries entries + 1
  | .held _ => 1
def uptoBulkAll {H : Type} : List (DataW H) → Nat
  | [] => 0
  | d :: r => uptoBulk d + uptoBulkAll r
def uptoBulkEntries {H : Type} : List (Lit × DataW H) → Nat
  | [] => 0
  | x :: r => uptoBulkEntry x + uptoBulkEntries r
def uptoBulkEntry {H : Type} : Lit × DataW H → Nat
  | (.string bytes, d) => bytes.length + uptoBulk d + 1
  | (_, d) => uptoBulk d + 1
 end
def uptoSmall : (H : Type) → List (DataW H) → Bool := fun _ ds => decide (uptoBulkAll ds ≤ 1048576)
def OpenSpec.upto (s : _root_.Go.ChangeSpec) : _root_.Go.OpenSpec := { _root_.Go.OpenSpec.ofChange s with cond := some uptoSmall }

/-- 'laws.FnTop', WHERE WHAT IT READS IS OF BULK AT MOST 1048576: true; the input reads as it did. -/
def fnTopUptoRow : OpenClaim := { program := "ytnkjolpkcmgcaaagreat", sum := "839d0fe7ca32cd66835135ffc685e3440f0d057b6bc6ef4c9edd1c99a8f2f8be", func := "loop.example/g00505/laws.FnTop", spec := "fnTop", unfollowed := true, recurses := true, apart := false, narrowed := true }
def FnTopUptoSaid : Prop := fnTopUptoRow.holds Tryz.pinned (OpenSpec.upto fnTopSpec)

/-- 'laws.FnFast', WHERE WHAT IT READS IS OF BULK AT MOST 1048576: true; the input reads as it did. -/
def fnFastUptoRow : OpenClaim := { program := "ytnkjolpkcmgcaaagreat", sum := "839d0fe7ca32cd66835135ffc685e3440f0d057b6bc6ef4c9edd1c99a8f2f8be", func := "loop.example/g00505/laws.FnFast", spec := "fnFast", unfollowed := true, recurses := true, apart := false, narrowed := true }
def FnFastUptoSaid : Prop := fnFastUptoRow.holds Tryz.pinned (OpenSpec.upto fnFastSpec)

/-- 'laws.FnDetour', WHERE WHAT IT READS IS OF BULK AT MOST 1048576: true; the input reads as it did. -/
def fnDetourUptoRow : OpenClaim := { program := "ytnkjolpkcmgcaaagreat", sum := "839d0fe7ca32cd66835135ffc685e3440f0d057b6bc6ef4c9edd1c99a8f2f8be", func := "loop.example/g00505/laws.FnDetour", spec := "fnDetour", unfollowed := true, recurses := true, apart := false, narrowed := true }
def FnDetourUptoSaid : Prop := fnDetourUptoRow.holds Tryz.pinned (OpenSpec.upto fnDetourSpec)

/-- 'laws.FnSettles', WHERE WHAT IT READS IS OF BULK AT MOST 1048576: true; the input reads as it did. -/
def fnSettlesUptoRow : OpenClaim := { program := "ytnkjolpkcmgcaaagreat", sum := "839d0fe7ca32cd66835135ffc685e3440f0d057b6bc6ef4c9edd1c99a8f2f8be", func := "loop.example/g00505/laws.FnSettles", spec := "fnSettles", unfollowed := true, recurses := true, apart := false, narrowed := true }
def FnSettlesUptoSaid : Prop := fnSettlesUptoRow.holds Tryz.pinned (OpenSpec.upto fnSettlesSpec)

/-- 'laws.FnWorlds', WHERE WHAT IT READS IS OF BULK AT MOST 1048576: true; the input reads as it did. -/
def fnWorldsUptoRow : OpenClaim := { program := "ytnkjolpkcmgcaaagreat", sum := "839d0fe7ca32cd66835135ffc685e3440f0d057b6bc6ef4c9edd1c99a8f2f8be", func := "loop.example/g00505/laws.FnWorlds", spec := "fnWorlds", unfollowed := true, recurses := true, apart := false, narrowed := true }
def FnWorldsUptoSaid : Prop := fnWorldsUptoRow.holds Tryz.pinned (OpenSpec.upto fnWorldsSpec)

end Rows
end Go.Proofs.YtnkjolpkcmgcaaaGreat
