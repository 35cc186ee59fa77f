/-
  DERIVED. GIVEN WITH THE SEED: THE CARDS: each row of YteppafikdpdeaaaGreatDoorRows.lean that lists a variable, with what it lists TIED to the program's text (the seventh form; the later family's looks); each row that meets fmt, with fmt's text TOLD by the authors' own Lean function (tested against real Go, not proved from fmt's source: count such statements apart). THE CARD IS WHAT COUNTS. Prove the row's statement (the work); the ties are given (YteppafikdpdeaaaGreatDoorTie.lean); close each card by the builder's one call (the guide's Derived/Test/ToyasCard.lean, 'card_holds'). Laid BY PROGRAM, IN A SANDBOX (cutbox-door.mjs). By AI agents, Wed Nov 11 2026. No macro, syntax, notation, axiom, sorry.
-/
import Derived.Test.YteppafikdpdeaaaGreatDoorRows
import GoSem.ClaimSeven
namespace Go.Proofs.YteppafikdpdeaaaGreatDoor
namespace Rows

/-- THE TIED CARD OF 'rotorlaw.ScopeReads'. -/
def scopeReadsCard : Claim7 := { stood := { row := scopeReadsRow, standIns := [], harness := (true, "6bfb6cd51d3eed6fb1ecb09010bca83766a538ec6740d593480fce0c5a799ecb"), looks := true }, kinds := [], alts := [], laidByText := true, laidKinds := [.data, .handle, .pinned], laidTests := true, laidLooks := .later }
def ScopeReadsCardSaid : Prop := Claim7.holds Tryz.pinned (.plain (OpenSpec.ofChange scopeReadsSpec)) scopeReadsCard

/-- THE SECOND FORM's CARD OF 'rotorlaw.ScopeReads'. -/
def scopeReadsUptoCard : Claim7 := { stood := { row := scopeReadsUptoRow, standIns := [], harness := (true, "6bfb6cd51d3eed6fb1ecb09010bca83766a538ec6740d593480fce0c5a799ecb"), looks := true }, kinds := [], alts := [], laidByText := true, laidKinds := [.data, .handle, .pinned], laidTests := true, laidLooks := .later }
def ScopeReadsUptoCardSaid : Prop := Claim7.holds Tryz.pinned (.plain (OpenSpec.upto scopeReadsSpec)) scopeReadsUptoCard
end Rows
end Go.Proofs.YteppafikdpdeaaaGreatDoor
