/-
  DERIVED. GIVEN WITH THE SEED: THE CARDS: each row of YtckohmhhcknmaaaGreatDoorRows.lean that lists a variable, with what it lists TIED to the program's text (the seventh form; the later family's looks); each row that meets fmt, with fmt's text TOLD by the authors' own Lean function (tested against real Go, not proved from fmt's source: count such statements apart). THE CARD IS WHAT COUNTS. Prove the row's statement (the work); the ties are given (YtckohmhhcknmaaaGreatDoorTie.lean); close each card by the builder's one call (the guide's Derived/Test/ToyasCard.lean, 'card_holds'). Laid BY PROGRAM, IN A SANDBOX (cutbox-door.mjs). By AI agents, Wed Nov 11 2026. No macro, syntax, notation, axiom, sorry.
-/
import Derived.Test.YtckohmhhcknmaaaGreatDoorRows
import GoSem.ClaimSeven
namespace Go.Proofs.YtckohmhhcknmaaaGreatDoor
namespace Rows

/-- THE TIED CARD OF 'rotorkeep.ServiceAgain'. -/
def serviceAgainCard : Claim7 := { stood := { row := serviceAgainRow, standIns := [], harness := (true, "8e92a46bd6b8488fffb86dfb7e9b1863337de9b69829bd3180f3da93d0428682"), looks := true }, kinds := [], alts := [], laidByText := true, laidKinds := [.data, .data, .data, .data, .handle, .sentinel, .sentinel, .pinned], laidTests := true, laidLooks := .later }
def ServiceAgainCardSaid : Prop := Claim7.holds Tryz.pinned (.plain (OpenSpec.ofChange serviceAgainSpec)) serviceAgainCard

/-- THE TIED CARD OF 'rotorkeep.ServiceStolen'. -/
def serviceStolenCard : Claim7 := { stood := { row := serviceStolenRow, standIns := [], harness := (true, "8e92a46bd6b8488fffb86dfb7e9b1863337de9b69829bd3180f3da93d0428682"), looks := true }, kinds := [], alts := [], laidByText := true, laidKinds := [.data, .data, .data, .data, .handle, .sentinel, .sentinel, .pinned], laidTests := true, laidLooks := .later }
def ServiceStolenCardSaid : Prop := Claim7.holds Tryz.pinned (.plain (OpenSpec.ofChange serviceStolenSpec)) serviceStolenCard

/-- THE TIED CARD OF 'rotorlaw.ServicePlays'. -/
def servicePlaysCard : Claim7 := { stood := { row := servicePlaysRow, standIns := [], harness := (true, "8e92a46bd6b8488fffb86dfb7e9b1863337de9b69829bd3180f3da93d0428682"), looks := true }, kinds := [], alts := [], laidByText := true, laidKinds := [.data, .data, .data, .data, .handle, .sentinel, .sentinel, .pinned], laidTests := true, laidLooks := .later }
def ServicePlaysCardSaid : Prop := Claim7.holds Tryz.pinned (.plain (OpenSpec.ofChange servicePlaysSpec)) servicePlaysCard

/-- THE SECOND FORM's CARD OF 'rotorkeep.ServiceAgain'. -/
def serviceAgainUptoCard : Claim7 := { stood := { row := serviceAgainUptoRow, standIns := [], harness := (true, "8e92a46bd6b8488fffb86dfb7e9b1863337de9b69829bd3180f3da93d0428682"), looks := true }, kinds := [], alts := [], laidByText := true, laidKinds := [.data, .data, .data, .data, .handle, .sentinel, .sentinel, .pinned], laidTests := true, laidLooks := .later }
def ServiceAgainUptoCardSaid : Prop := Claim7.holds Tryz.pinned (.plain (OpenSpec.upto serviceAgainSpec)) serviceAgainUptoCard

/-- THE SECOND FORM's CARD OF 'rotorkeep.ServiceStolen'. -/
def serviceStolenUptoCard : Claim7 := { stood := { row := serviceStolenUptoRow, standIns := [], harness := (true, "8e92a46bd6b8488fffb86dfb7e9b1863337de9b69829bd3180f3da93d0428682"), looks := true }, kinds := [], alts := [], laidByText := true, laidKinds := [.data, .data, .data, .data, .handle, .sentinel, .sentinel, .pinned], laidTests := true, laidLooks := .later }
def ServiceStolenUptoCardSaid : Prop := Claim7.holds Tryz.pinned (.plain (OpenSpec.upto serviceStolenSpec)) serviceStolenUptoCard

/-- THE SECOND FORM's CARD OF 'rotorlaw.ServicePlays'. -/
def servicePlaysUptoCard : Claim7 := { stood := { row := servicePlaysUptoRow, standIns := [], harness := (true, "8e92a46bd6b8488fffb86dfb7e9b1863337de9b69829bd3180f3da93d0428682"), looks := true }, kinds := [], alts := [], laidByText := true, laidKinds := [.data, .data, .data, .data, .handle, .sentinel, .sentinel, .pinned], laidTests := true, laidLooks := .later }
def ServicePlaysUptoCardSaid : Prop := Claim7.holds Tryz.pinned (.plain (OpenSpec.upto servicePlaysSpec)) servicePlaysUptoCard
end Rows
end Go.Proofs.YtckohmhhcknmaaaGreatDoor
