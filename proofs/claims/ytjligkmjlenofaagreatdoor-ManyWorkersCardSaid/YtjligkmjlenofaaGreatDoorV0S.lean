/- Part of the proof. -/
import Derived.Deep.RegionHeld
theorem Go.Shut.O{p:Prop}(h:Go.Shut p):p:=h
