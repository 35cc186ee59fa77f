/-
  An error as the program gives it: nil, or an api.Errno.
-/
import Derived.Test.YteppafikdpdeaaaGreatDoorProg
import Derived.WalkKit
namespace Go.Proofs.YteppafikdpdeaaaGreatDoor

/-- an error that is nil (0), or an api.Errno -/
def errV (n : Int) : Value := if n = 0 then .nilIface else .iface 23 (.int .i64 n)

end Go.Proofs.YteppafikdpdeaaaGreatDoor
