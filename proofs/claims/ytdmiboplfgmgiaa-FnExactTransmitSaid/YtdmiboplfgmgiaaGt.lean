/-
  Types of data of the program. Conditions: none.
-/
import Derived.Test.YtdmiboplfgmgiaaW3
set_option linter.unusedVariables false
namespace Go.Proofs.Ytdmiboplfgmgiaa
open Go.Ab Go.V
abbrev ti : Ty := .int .i64
abbrev tb : Ty := .int .u8
abbrev tu : Ty := .int .u64
abbrev wr (n : Int) : Int := IntKind.i64.wrap n
abbrev tMessage : Ty := .sl tb
abbrev tHop : Ty := .pair ti (.pair ti (.pair ti (.pair ti ti)))
abbrev tPathPart : Ty := .pair ti (.pair ti (.pair ti (.sl tHop)))
abbrev tPath : Ty := .sl tPathPart
abbrev tRevocation : Ty := .pair ti (.pair ti ti)
abbrev tFlow : Ty := .pair ti (.pair ti (.pair ti (.pair ti (.pair (.sl tMessage) (.pair (.sl tPath) (.pair ti (.pair ti (.sl tRevocation))))))))
abbrev tInbox : Ty := .pair ti (.pair ti (.pair ti (.sl tMessage)))
abbrev tReservation : Ty := .pair ti (.pair ti (.pair ti (.pair ti ti)))
abbrev tUsage : Ty := .pair ti (.pair ti (.pair ti ti))
abbrev tScheduler : Ty := .pair ti (.pair (.sl tReservation) (.sl tUsage))
end Go.Proofs.Ytdmiboplfgmgiaa
