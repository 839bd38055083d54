/-
  What each function of the program computes. Printed by a program. Conditions: none.
-/
import Derived.Test.YtdmiboplfgmgiaaGt
set_option linter.unusedVariables false
namespace Go.Proofs.Ytdmiboplfgmgiaa
open Go.Ab
def s_l1In (a_x : Int) (a_least : Int) (a_most : Int) : Bool := cond (decide ((a_x : Int) ≥ a_least)) (decide ((a_x : Int) ≤ a_most)) false

def i_InRange (a_n : Int) (a_a : Int) (a_b : Int) : Bool := cond (decide ((a_n : Int) ≥ a_a)) (decide ((a_n : Int) ≤ a_b)) false

def s_EventName (a_kind : Int) : ByteArray := cond (!(s_l1In a_kind 0 (wr ((([bs #[], bs #[116, 105, 99, 107], bs #[100, 101, 108, 105, 118, 101, 114], bs #[100, 114, 111, 112], bs #[100, 117, 112, 108, 105, 99, 97, 116, 101], bs #[102, 97, 105, 108], bs #[114, 101, 112, 97, 105, 114], bs #[105, 110, 106, 101, 99, 116], bs #[115, 101, 110, 100], bs #[114, 101, 102, 114, 101, 115, 104]]).length : Int) - 1)))) (bs #[]) (([bs #[], bs #[116, 105, 99, 107], bs #[100, 101, 108, 105, 118, 101, 114], bs #[100, 114, 111, 112], bs #[100, 117, 112, 108, 105, 99, 97, 116, 101], bs #[102, 97, 105, 108], bs #[114, 101, 112, 97, 105, 114], bs #[105, 110, 106, 101, 99, 116], bs #[115, 101, 110, 100], bs #[114, 101, 102, 114, 101, 115, 104]]).getD a_kind.toNat (bs #[]))

def i_EventName (a_kind : Int) : ByteArray := cond (!(i_InRange a_kind 1 9)) (bs #[]) ([bs #[], bs #[116, 105, 99, 107], bs #[100, 101, 108, 105, 118, 101, 114], bs #[100, 114, 111, 112], bs #[100, 117, 112, 108, 105, 99, 97, 116, 101], bs #[102, 97, 105, 108], bs #[114, 101, 112, 97, 105, 114], bs #[105, 110, 106, 101, 99, 116], bs #[115, 101, 110, 100], bs #[114, 101, 102, 114, 101, 115, 104]].getD a_kind.toNat (bs #[]))

def l_FnExactEventName (a_aKind : Int) : Bool := cond (!((i_EventName a_aKind).toList == (s_EventName a_aKind).toList)) false true
end Go.Proofs.Ytdmiboplfgmgiaa
