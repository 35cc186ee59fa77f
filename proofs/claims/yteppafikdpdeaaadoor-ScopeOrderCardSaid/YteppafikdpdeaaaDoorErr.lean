/-
  An error as the program gives it: nil, or an api.Errno.
-/
import Derived.Test.YteppafikdpdeaaaDoorProg
import Derived.WalkKit
namespace Go.Proofs.YteppafikdpdeaaaDoor

/-- an error that is nil (0), or an api.Errno -/
def errV (n : Int) : Value := if n = 0 then .nilIface else .iface 38 (.int .i64 n)

end Go.Proofs.YteppafikdpdeaaaDoor
