/- Part of the proof. -/
import Derived.Conc.Script
theorem Go.Conc.Aside.T{n:Nat}{a b c:Go.World}(h:Go.Conc.Aside n a b)(k:Go.Conc.Aside n b c):Go.Conc.Aside n a c:=h.trans k
