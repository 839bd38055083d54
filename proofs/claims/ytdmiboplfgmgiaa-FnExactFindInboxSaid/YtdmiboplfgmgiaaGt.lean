/-
  The structs of the program as Lean structures, and their cells. Printed by a program. Conditions: none.
-/
import Derived.Test.YtdmiboplfgmgiaaAbN
namespace Go.Proofs.Ytdmiboplfgmgiaa
open Go.Ab
structure GMessage where
  Data : List Int
def GMessage.zero : GMessage := ⟨[]⟩
def GMessage.enc (x : GMessage) : List T := [.sl (x.Data.map encU)]
structure GHop where
  AS : Int
  Ingress : Int
  Egress : Int
  Expiry : Int
  MAC : Int
def GHop.zero : GHop := ⟨0, 0, 0, 0, 0⟩
def GHop.enc (x : GHop) : List T := [I x.AS, I x.Ingress, I x.Egress, I x.Expiry, I x.MAC]
structure GPathPart where
  Kind : Int
  Timestamp : Int
  Beta : Int
  Hops : List GHop
def GPathPart.zero : GPathPart := ⟨0, 0, 0, []⟩
def GPathPart.enc (x : GPathPart) : List T := [I x.Kind, I x.Timestamp, I x.Beta, .sl (x.Hops.map GHop.enc)]
structure GPath where
  Parts : List GPathPart
def GPath.zero : GPath := ⟨[]⟩
def GPath.enc (x : GPath) : List T := [.sl (x.Parts.map GPathPart.enc)]
structure GRevocation where
  AS : Int
  Interface : Int
  Until : Int
def GRevocation.zero : GRevocation := ⟨0, 0, 0⟩
def GRevocation.enc (x : GRevocation) : List T := [I x.AS, I x.Interface, I x.Until]
structure GFlow where
  Src : Int
  Dst : Int
  ReservationID : Int
  Acknowledged : Int
  Messages : List GMessage
  Paths : List GPath
  Current : Int
  Wait : Int
  Revocations : List GRevocation
def GFlow.zero : GFlow := ⟨0, 0, 0, 0, [], [], 0, 0, []⟩
def GFlow.enc (x : GFlow) : List T := [I x.Src, I x.Dst, I x.ReservationID, I x.Acknowledged, .sl (x.Messages.map GMessage.enc), .sl (x.Paths.map GPath.enc), I x.Current, I x.Wait, .sl (x.Revocations.map GRevocation.enc)]
structure GInbox where
  AS : Int
  Source : Int
  Next : Int
  Received : List GMessage
def GInbox.zero : GInbox := ⟨0, 0, 0, []⟩
def GInbox.enc (x : GInbox) : List T := [I x.AS, I x.Source, I x.Next, .sl (x.Received.map GMessage.enc)]
structure GReservation where
  ID : Int
  AS : Int
  Interface : Int
  Rate : Int
  Until : Int
def GReservation.zero : GReservation := ⟨0, 0, 0, 0, 0⟩
def GReservation.enc (x : GReservation) : List T := [I x.ID, I x.AS, I x.Interface, I x.Rate, I x.Until]
structure GUsage where
  ID : Int
  AS : Int
  Interface : Int
  Count : Int
def GUsage.zero : GUsage := ⟨0, 0, 0, 0⟩
def GUsage.enc (x : GUsage) : List T := [I x.ID, I x.AS, I x.Interface, I x.Count]
structure GScheduler where
  Capacity : Int
  Reservations : List GReservation
  Usages : List GUsage
def GScheduler.zero : GScheduler := ⟨0, [], []⟩
def GScheduler.enc (x : GScheduler) : List T := [I x.Capacity, .sl (x.Reservations.map GReservation.enc), .sl (x.Usages.map GUsage.enc)]
structure Gl1Cur where
  b : List Int
  i : Int
  h : Int
def Gl1Cur.zero : Gl1Cur := ⟨[], 0, 0⟩
def Gl1Cur.enc (x : Gl1Cur) : List T := [.sl (x.b.map encU), I x.i, I x.h]

end Go.Proofs.Ytdmiboplfgmgiaa
