/-
  DERIVED. GIVEN WITH THE SEED: THE CARDS: each row of YtjligkmjlenofaaGreatDoorRows.lean that lists a variable, with what it lists TIED to the program's text (the seventh form; the later family's looks); each row that meets fmt, with fmt's text TOLD by the authors' own Lean function (tested against real Go, not proved from fmt's source: count such statements apart). THE CARD IS WHAT COUNTS. Prove the row's statement (the work); the ties are given (YtjligkmjlenofaaGreatDoorTie.lean); close each card by the builder's one call (the guide's Derived/Test/ToyasCard.lean, 'card_holds'). Laid BY PROGRAM, IN A SANDBOX (cutbox-door.mjs). By AI agents, Wed Nov 11 2026. No macro, syntax, notation, axiom, sorry.
-/
import Derived.Test.YtjligkmjlenofaaGreatDoorRows
import GoSem.ClaimSeven
namespace Go.Proofs.YtjligkmjlenofaaGreatDoor
namespace Rows

/-- THE TIED CARD OF 'rotorkeep.ManyWorkers'. -/
def manyWorkersCard : Claim7 := { stood := { row := manyWorkersRow, standIns := [], harness := (true, "24cc4a037b359442205d6c9d46ebc7cf27ce1a3f782f0713d3ab83fb8ba9c9c3"), looks := true }, kinds := [], alts := [], goes := true, laidByText := true, laidKinds := [.data, .data, .data, .data, .handle, .sentinel, .sentinel, .pinned], laidTests := true, laidLooks := .later }
def ManyWorkersCardSaid : Prop := Claim7.holds Tryz.pinned (.plain (OpenSpec.ofChange manyWorkersSpec)) manyWorkersCard

/-- THE SECOND FORM's CARD OF 'rotorkeep.ManyWorkers'. -/
def manyWorkersUptoCard : Claim7 := { stood := { row := manyWorkersUptoRow, standIns := [], harness := (true, "24cc4a037b359442205d6c9d46ebc7cf27ce1a3f782f0713d3ab83fb8ba9c9c3"), looks := true }, kinds := [], alts := [], goes := true, laidByText := true, laidKinds := [.data, .data, .data, .data, .handle, .sentinel, .sentinel, .pinned], laidTests := true, laidLooks := .later }
def ManyWorkersUptoCardSaid : Prop := Claim7.holds Tryz.pinned (.plain (OpenSpec.upto manyWorkersSpec)) manyWorkersUptoCard
end Rows
end Go.Proofs.YtjligkmjlenofaaGreatDoor
