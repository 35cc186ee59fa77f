/-
  An error as the program gives it: nil, or an api.Errno.
-/
import Derived.Test.YtdfgegicfhcmeaaGreatDoorProg
import Derived.WalkKit
namespace Go.Proofs.YtdfgegicfhcmeaaGreatDoor

/-- an error that is nil (0), or an api.Errno -/
def errV (n : Int) : Value := if n = 0 then .nilIface else .iface 33 (.int .i64 n)

end Go.Proofs.YtdfgegicfhcmeaaGreatDoor
