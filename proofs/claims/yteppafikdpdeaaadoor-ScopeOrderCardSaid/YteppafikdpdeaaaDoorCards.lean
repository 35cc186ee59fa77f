/-
  DERIVED. GIVEN WITH THE SEED: THE CARDS: each row of YteppafikdpdeaaaDoorRows.lean that lists a variable, with what it lists TIED to the program's text (the seventh form; the later family's looks); each row that meets fmt, with fmt's text TOLD by the authors' own Lean function (tested against real Go, not proved from fmt's source: count such statements apart). THE CARD IS WHAT COUNTS. Prove the row's statement (the work); the ties are given (YteppafikdpdeaaaDoorTie.lean); close each card by the builder's one call (the guide's Derived/Test/ToyasCard.lean, 'card_holds'). Laid BY PROGRAM, IN A SANDBOX (cutbox-door.mjs). By AI agents, Wed Nov 11 2026. No macro, syntax, notation, axiom, sorry.
-/
import Derived.Test.YteppafikdpdeaaaDoorRows
import GoSem.ClaimSeven
namespace Go.Proofs.YteppafikdpdeaaaDoor
namespace Rows

/-- THE TIED CARD OF 'rotorkeep.ScopeOrder'. -/
def scopeOrderCard : Claim7 := { stood := { row := scopeOrderRow, standIns := [], harness := (true, "d27b59b55b783d40722a221a341fb939eb6b62d5a395c9e8d52e7d209b84e76e"), looks := false }, kinds := [], alts := [], laidByText := true, laidKinds := [.data, .pinned], laidTests := true, laidLooks := .later }
def ScopeOrderCardSaid : Prop := Claim7.holds Tryd.pinned (.plain (OpenSpec.ofChange scopeOrderSpec)) scopeOrderCard

/-- THE SECOND FORM's CARD OF 'rotorkeep.ScopeOrder'. -/
def scopeOrderUptoCard : Claim7 := { stood := { row := scopeOrderUptoRow, standIns := [], harness := (true, "d27b59b55b783d40722a221a341fb939eb6b62d5a395c9e8d52e7d209b84e76e"), looks := false }, kinds := [], alts := [], laidByText := true, laidKinds := [.data, .pinned], laidTests := true, laidLooks := .later }
def ScopeOrderUptoCardSaid : Prop := Claim7.holds Tryd.pinned (.plain (OpenSpec.upto scopeOrderSpec)) scopeOrderUptoCard
end Rows
end Go.Proofs.YteppafikdpdeaaaDoor
