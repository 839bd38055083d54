/-
  Contracts of the functions of the program. Conditions: none.
-/
import Derived.Test.YtmodgmbmbainmaaT0XValidFlow
import Derived.Test.YtmodgmbmbainmaaProg
import Derived.KernelRfl
set_option linter.unusedVariables false
set_option linter.unusedSimpArgs false
set_option maxRecDepth 100000
namespace Go.Proofs.Ytmodgmbmbainmaa
open Go.Ab Go.V
theorem follows : Try.prog.follows .mixedOrders = true := by kernel_rfl
noncomputable def l_szByteS.con : Con := ⟨82, ⟨[(0, .one (.var (.sl tb))), (1, .one (.var ti))], []⟩, ⟨[(0, .one (.var ti))], []⟩, false, fun x => l_szByteS x.1 x.2⟩
noncomputable def l_szMessage.con : Con := ⟨169, ⟨[(0, .agg [.var (.sl tb)]), (1, .one (.var ti))], []⟩, ⟨[(0, .one (.var ti))], []⟩, false, fun x => l_szMessage x.1 x.2⟩
noncomputable def l_szMessageS.con : Con := ⟨91, ⟨[(0, .one (.var (.sl tMessage))), (1, .one (.var ti))], []⟩, ⟨[(0, .one (.var ti))], []⟩, false, fun x => l_szMessageS x.1 x.2⟩
noncomputable def l_szHopS.con : Con := ⟨218, ⟨[(0, .one (.var (.sl tHop))), (1, .one (.var ti))], []⟩, ⟨[(0, .one (.var ti))], []⟩, false, fun x => l_szHopS x.1 x.2⟩
noncomputable def l_szPathPart.con : Con := ⟨205, ⟨[(0, .agg [.var ti, .var ti, .var ti, .var (.sl tHop)]), (1, .one (.var ti))], []⟩, ⟨[(0, .one (.var ti))], []⟩, false, fun x => l_szPathPart (x.1, x.2.1, x.2.2.1, x.2.2.2.1) x.2.2.2.2⟩
noncomputable def l_szPathPartS.con : Con := ⟨162, ⟨[(0, .one (.var (.sl tPathPart))), (1, .one (.var ti))], []⟩, ⟨[(0, .one (.var ti))], []⟩, false, fun x => l_szPathPartS x.1 x.2⟩
noncomputable def l_szPath.con : Con := ⟨81, ⟨[(0, .agg [.var (.sl tPathPart)]), (1, .one (.var ti))], []⟩, ⟨[(0, .one (.var ti))], []⟩, false, fun x => l_szPath x.1 x.2⟩
noncomputable def l_szPathS.con : Con := ⟨92, ⟨[(0, .one (.var (.sl tPath))), (1, .one (.var ti))], []⟩, ⟨[(0, .one (.var ti))], []⟩, false, fun x => l_szPathS x.1 x.2⟩
noncomputable def l_szRevocationS.con : Con := ⟨93, ⟨[(0, .one (.var (.sl tRevocation))), (1, .one (.var ti))], []⟩, ⟨[(0, .one (.var ti))], []⟩, false, fun x => l_szRevocationS x.1 x.2⟩
noncomputable def l_szFlow.con : Con := ⟨23, ⟨[(0, .agg [.var ti, .var ti, .var ti, .var ti, .var (.sl tMessage), .var (.sl tPath), .var ti, .var ti, .var (.sl tRevocation)]), (1, .one (.var ti))], []⟩, ⟨[(0, .one (.var ti))], []⟩, false, fun x => l_szFlow (x.1, x.2.1, x.2.2.1, x.2.2.2.1, x.2.2.2.2.1, x.2.2.2.2.2.1, x.2.2.2.2.2.2.1, x.2.2.2.2.2.2.2.1, x.2.2.2.2.2.2.2.2.1) x.2.2.2.2.2.2.2.2.2⟩
noncomputable def l_toByteS.con : Con := ⟨60, ⟨[(0, .one (.var (.sl tb)))], []⟩, ⟨[(0, .one (.row 0))], [(0, .row 5 1 tb true)]⟩, false, fun x => l_toByteS x⟩
noncomputable def l_toMessage.con : Con := ⟨170, ⟨[(0, .agg [.var (.sl tb)])], []⟩, ⟨[(0, .agg [.row 0])], [(0, .row 5 1 tb true)]⟩, false, fun x => l_toMessage x⟩
noncomputable def l_toMessageS.con : Con := ⟨97, ⟨[(0, .one (.var (.sl tMessage)))], []⟩, ⟨[(0, .one (.row 0))], [(0, .row 134 1 tMessage true)]⟩, false, fun x => l_toMessageS x⟩
noncomputable def l_toHop.con : Con := ⟨232, ⟨[(0, .agg [.var ti, .var ti, .var ti, .var ti, .var ti])], []⟩, ⟨[(0, .agg [.var ti, .var ti, .var ti, .var ti, .var ti])], []⟩, false, fun x => l_toHop (x.1, x.2.1, x.2.2.1, x.2.2.2.1, x.2.2.2.2)⟩
noncomputable def l_toHopS.con : Con := ⟨219, ⟨[(0, .one (.var (.sl tHop)))], []⟩, ⟨[(0, .one (.row 0))], [(0, .row 183 5 tHop true)]⟩, false, fun x => l_toHopS x⟩
noncomputable def l_toPathPart.con : Con := ⟨206, ⟨[(0, .agg [.var ti, .var ti, .var ti, .var (.sl tHop)])], []⟩, ⟨[(0, .agg [.var ti, .var ti, .var ti, .row 0])], [(0, .row 183 5 tHop true)]⟩, false, fun x => l_toPathPart (x.1, x.2.1, x.2.2.1, x.2.2.2)⟩
noncomputable def l_toPathPartS.con : Con := ⟨163, ⟨[(0, .one (.var (.sl tPathPart)))], []⟩, ⟨[(0, .one (.row 0))], [(0, .row 121 4 tPathPart true)]⟩, false, fun x => l_toPathPartS x⟩
noncomputable def l_toPath.con : Con := ⟨85, ⟨[(0, .agg [.var (.sl tPathPart)])], []⟩, ⟨[(0, .agg [.row 0])], [(0, .row 121 4 tPathPart true)]⟩, false, fun x => l_toPath x⟩
noncomputable def l_toPathS.con : Con := ⟨98, ⟨[(0, .one (.var (.sl tPath)))], []⟩, ⟨[(0, .one (.row 0))], [(0, .row 31 1 tPath true)]⟩, false, fun x => l_toPathS x⟩
noncomputable def l_toRevocation.con : Con := ⟨171, ⟨[(0, .agg [.var ti, .var ti, .var ti])], []⟩, ⟨[(0, .agg [.var ti, .var ti, .var ti])], []⟩, false, fun x => l_toRevocation (x.1, x.2.1, x.2.2)⟩
noncomputable def l_toRevocationS.con : Con := ⟨99, ⟨[(0, .one (.var (.sl tRevocation)))], []⟩, ⟨[(0, .one (.row 0))], [(0, .row 137 3 tRevocation true)]⟩, false, fun x => l_toRevocationS x⟩
noncomputable def l_toFlow.con : Con := ⟨25, ⟨[(0, .agg [.var ti, .var ti, .var ti, .var ti, .var (.sl tMessage), .var (.sl tPath), .var ti, .var ti, .var (.sl tRevocation)])], []⟩, ⟨[(0, .agg [.var ti, .var ti, .var ti, .var ti, .row 0, .row 1, .var ti, .var ti, .row 2])], [(0, .row 134 1 tMessage true), (1, .row 31 1 tPath true), (2, .row 137 3 tRevocation true)]⟩, false, fun x => l_toFlow (x.1, x.2.1, x.2.2.1, x.2.2.2.1, x.2.2.2.2.1, x.2.2.2.2.2.1, x.2.2.2.2.2.2.1, x.2.2.2.2.2.2.2.1, x.2.2.2.2.2.2.2.2)⟩
noncomputable def s_l1In.con : Con := ⟨94, ⟨[(0, .one (.var ti)), (1, .one (.var ti)), (2, .one (.var ti))], []⟩, ⟨[(0, .one (.var .bool))], []⟩, false, fun x => s_l1In x.1 x.2.1 x.2.2⟩
noncomputable def s_Max.con : Con := ⟨95, ⟨[(0, .one (.var ti)), (1, .one (.var ti))], []⟩, ⟨[(0, .one (.var ti))], []⟩, false, fun x => s_Max x.1 x.2⟩
noncomputable def s_ValidRevocation.con : Con := ⟨96, ⟨[(0, .agg [.var ti, .var ti, .var ti])], []⟩, ⟨[(0, .one (.var .bool))], []⟩, false, fun x => s_ValidRevocation (x.1, x.2.1, x.2.2)⟩
noncomputable def s_ValidFlow.con : Con := ⟨24, ⟨[(0, .agg [.var ti, .var ti, .var ti, .var ti, .var (.sl tMessage), .var (.sl tPath), .var ti, .var ti, .var (.sl tRevocation)])], []⟩, ⟨[(0, .one (.var .bool))], []⟩, false, fun x => s_ValidFlow (x.1, x.2.1, x.2.2.1, x.2.2.2.1, x.2.2.2.2.1, x.2.2.2.2.2.1, x.2.2.2.2.2.2.1, x.2.2.2.2.2.2.2.1, x.2.2.2.2.2.2.2.2)⟩
noncomputable def i_InRange.con : Con := ⟨100, ⟨[(0, .one (.var ti)), (1, .one (.var ti)), (2, .one (.var ti))], []⟩, ⟨[(0, .one (.var .bool))], []⟩, false, fun x => i_InRange x.1 x.2.1 x.2.2⟩
noncomputable def i_ValidRevocation.con : Con := ⟨101, ⟨[(0, .agg [.var ti, .var ti, .var ti])], []⟩, ⟨[(0, .one (.var .bool))], []⟩, false, fun x => i_ValidRevocation (x.1, x.2.1, x.2.2)⟩
noncomputable def i_ValidFlow.con : Con := ⟨26, ⟨[(0, .agg [.var ti, .var ti, .var ti, .var ti, .var (.sl tMessage), .var (.sl tPath), .var ti, .var ti, .var (.sl tRevocation)])], []⟩, ⟨[(0, .one (.var .bool))], []⟩, false, fun x => i_ValidFlow (x.1, x.2.1, x.2.2.1, x.2.2.2.1, x.2.2.2.2.1, x.2.2.2.2.2.1, x.2.2.2.2.2.2.1, x.2.2.2.2.2.2.2.1, x.2.2.2.2.2.2.2.2)⟩
noncomputable def l_eqByteS.con : Con := ⟨62, ⟨[(0, .one (.var (.sl tb))), (1, .one (.var (.sl tb)))], []⟩, ⟨[(0, .one (.var .bool))], []⟩, false, fun x => l_eqByteS x.1 x.2⟩
noncomputable def l_eqMessage.con : Con := ⟨172, ⟨[(0, .agg [.var (.sl tb)]), (1, .agg [.var (.sl tb)])], []⟩, ⟨[(0, .one (.var .bool))], []⟩, false, fun x => l_eqMessage x.1 x.2⟩
noncomputable def l_eqMessageS.con : Con := ⟨102, ⟨[(0, .one (.var (.sl tMessage))), (1, .one (.var (.sl tMessage)))], []⟩, ⟨[(0, .one (.var .bool))], []⟩, false, fun x => l_eqMessageS x.1 x.2⟩
noncomputable def l_eqHop.con : Con := ⟨220, ⟨[(0, .agg [.var ti, .var ti, .var ti, .var ti, .var ti]), (1, .agg [.var ti, .var ti, .var ti, .var ti, .var ti])], []⟩, ⟨[(0, .one (.var .bool))], []⟩, false, fun x => l_eqHop (x.1, x.2.1, x.2.2.1, x.2.2.2.1, x.2.2.2.2.1) (x.2.2.2.2.2.1, x.2.2.2.2.2.2.1, x.2.2.2.2.2.2.2.1, x.2.2.2.2.2.2.2.2.1, x.2.2.2.2.2.2.2.2.2)⟩
noncomputable def l_eqHopS.con : Con := ⟨207, ⟨[(0, .one (.var (.sl tHop))), (1, .one (.var (.sl tHop)))], []⟩, ⟨[(0, .one (.var .bool))], []⟩, false, fun x => l_eqHopS x.1 x.2⟩
noncomputable def l_eqPathPart.con : Con := ⟨166, ⟨[(0, .agg [.var ti, .var ti, .var ti, .var (.sl tHop)]), (1, .agg [.var ti, .var ti, .var ti, .var (.sl tHop)])], []⟩, ⟨[(0, .one (.var .bool))], []⟩, false, fun x => l_eqPathPart (x.1, x.2.1, x.2.2.1, x.2.2.2.1) (x.2.2.2.2.1, x.2.2.2.2.2.1, x.2.2.2.2.2.2.1, x.2.2.2.2.2.2.2)⟩
noncomputable def l_eqPathPartS.con : Con := ⟨88, ⟨[(0, .one (.var (.sl tPathPart))), (1, .one (.var (.sl tPathPart)))], []⟩, ⟨[(0, .one (.var .bool))], []⟩, false, fun x => l_eqPathPartS x.1 x.2⟩
noncomputable def l_eqPath.con : Con := ⟨18, ⟨[(0, .agg [.var (.sl tPathPart)]), (1, .agg [.var (.sl tPathPart)])], []⟩, ⟨[(0, .one (.var .bool))], []⟩, false, fun x => l_eqPath x.1 x.2⟩
noncomputable def l_eqPathS.con : Con := ⟨103, ⟨[(0, .one (.var (.sl tPath))), (1, .one (.var (.sl tPath)))], []⟩, ⟨[(0, .one (.var .bool))], []⟩, false, fun x => l_eqPathS x.1 x.2⟩
noncomputable def l_eqRevocation.con : Con := ⟨173, ⟨[(0, .agg [.var ti, .var ti, .var ti]), (1, .agg [.var ti, .var ti, .var ti])], []⟩, ⟨[(0, .one (.var .bool))], []⟩, false, fun x => l_eqRevocation (x.1, x.2.1, x.2.2.1) (x.2.2.2.1, x.2.2.2.2.1, x.2.2.2.2.2)⟩
noncomputable def l_eqRevocationS.con : Con := ⟨104, ⟨[(0, .one (.var (.sl tRevocation))), (1, .one (.var (.sl tRevocation)))], []⟩, ⟨[(0, .one (.var .bool))], []⟩, false, fun x => l_eqRevocationS x.1 x.2⟩
noncomputable def l_eqFlow.con : Con := ⟨27, ⟨[(0, .agg [.var ti, .var ti, .var ti, .var ti, .var (.sl tMessage), .var (.sl tPath), .var ti, .var ti, .var (.sl tRevocation)]), (1, .agg [.var ti, .var ti, .var ti, .var ti, .var (.sl tMessage), .var (.sl tPath), .var ti, .var ti, .var (.sl tRevocation)])], []⟩, ⟨[(0, .one (.var .bool))], []⟩, false, fun x => l_eqFlow (x.1, x.2.1, x.2.2.1, x.2.2.2.1, x.2.2.2.2.1, x.2.2.2.2.2.1, x.2.2.2.2.2.2.1, x.2.2.2.2.2.2.2.1, x.2.2.2.2.2.2.2.2.1) (x.2.2.2.2.2.2.2.2.2.1, x.2.2.2.2.2.2.2.2.2.2.1, x.2.2.2.2.2.2.2.2.2.2.2.1, x.2.2.2.2.2.2.2.2.2.2.2.2.1, x.2.2.2.2.2.2.2.2.2.2.2.2.2.1, x.2.2.2.2.2.2.2.2.2.2.2.2.2.2.1, x.2.2.2.2.2.2.2.2.2.2.2.2.2.2.2.1, x.2.2.2.2.2.2.2.2.2.2.2.2.2.2.2.2.1, x.2.2.2.2.2.2.2.2.2.2.2.2.2.2.2.2.2)⟩
noncomputable def l_FnExactValidFlow.con : Con := ⟨4, ⟨[(0, .agg [.var ti, .var ti, .var ti, .var ti, .var (.sl tMessage), .var (.sl tPath), .var ti, .var ti, .var (.sl tRevocation)])], []⟩, ⟨[(0, .one (.var .bool))], []⟩, false, fun x => l_FnExactValidFlow (x.1, x.2.1, x.2.2.1, x.2.2.2.1, x.2.2.2.2.1, x.2.2.2.2.2.1, x.2.2.2.2.2.2.1, x.2.2.2.2.2.2.2.1, x.2.2.2.2.2.2.2.2)⟩
end Go.Proofs.Ytmodgmbmbainmaa
