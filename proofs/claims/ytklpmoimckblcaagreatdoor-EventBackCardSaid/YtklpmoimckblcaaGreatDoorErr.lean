/-
  An error as the program gives it: nil, or an api.Errno.
-/
import Derived.Test.YtklpmoimckblcaaGreatDoorProg
import Derived.WalkKit
namespace Go.Proofs.YtklpmoimckblcaaGreatDoor

/-- an error that is nil (0), or an api.Errno -/
def errV (n : Int) : Value := if n = 0 then .nilIface else .iface 27 (.int .i64 n)

end Go.Proofs.YtklpmoimckblcaaGreatDoor
