/-
  DERIVED. GIVEN WITH THE SEED: THE CARDS: each row of YtnkepmfgmfeabaaGreatDoorRows.lean that lists a variable, with what it lists TIED to the program's text (the seventh form; the later family's looks); each row that meets fmt, with fmt's text TOLD by the authors' own Lean function (tested against real Go, not proved from fmt's source: count such statements apart). THE CARD IS WHAT COUNTS. Prove the row's statement (the work); the ties are given (YtnkepmfgmfeabaaGreatDoorTie.lean); close each card by the builder's one call (the guide's Derived/Test/ToyasCard.lean, 'card_holds'). Laid BY PROGRAM, IN A SANDBOX (cutbox-door.mjs). By AI agents, Wed Nov 11 2026. No macro, syntax, notation, axiom, sorry.
-/
import Derived.Test.YtnkepmfgmfeabaaGreatDoorRows
import GoSem.ClaimSeven
namespace Go.Proofs.YtnkepmfgmfeabaaGreatDoor
namespace Rows

/-- THE TIED CARD OF 'customhouselaw29.EnduseBinds'. -/
def enduseBindsCard : Claim7 := { stood := { row := enduseBindsRow, standIns := [], harness := (true, "b27d296cba2005ed52b83e4d02f9a92df942fcb238ec7dd82e27cfb862522592"), looks := false }, kinds := [], alts := [], laidByText := true, laidKinds := [.data, .data, .data, .data, .pinned], laidTests := true, laidLooks := .later }
def EnduseBindsCardSaid : Prop := Claim7.holds Tryz.pinned (.plain (OpenSpec.ofChange enduseBindsSpec)) enduseBindsCard

/-- THE TIED CARD OF 'customhouselaw29.EnduseRevokes'. -/
def enduseRevokesCard : Claim7 := { stood := { row := enduseRevokesRow, standIns := [], harness := (true, "b27d296cba2005ed52b83e4d02f9a92df942fcb238ec7dd82e27cfb862522592"), looks := false }, kinds := [], alts := [], laidByText := true, laidKinds := [.data, .data, .data, .data, .pinned], laidTests := true, laidLooks := .later }
def EnduseRevokesCardSaid : Prop := Claim7.holds Tryz.pinned (.plain (OpenSpec.ofChange enduseRevokesSpec)) enduseRevokesCard

/-- THE SECOND FORM's CARD OF 'customhouselaw29.EnduseBinds'. -/
def enduseBindsUptoCard : Claim7 := { stood := { row := enduseBindsUptoRow, standIns := [], harness := (true, "b27d296cba2005ed52b83e4d02f9a92df942fcb238ec7dd82e27cfb862522592"), looks := false }, kinds := [], alts := [], laidByText := true, laidKinds := [.data, .data, .data, .data, .pinned], laidTests := true, laidLooks := .later }
def EnduseBindsUptoCardSaid : Prop := Claim7.holds Tryz.pinned (.plain (OpenSpec.upto enduseBindsSpec)) enduseBindsUptoCard

/-- THE SECOND FORM's CARD OF 'customhouselaw29.EnduseRevokes'. -/
def enduseRevokesUptoCard : Claim7 := { stood := { row := enduseRevokesUptoRow, standIns := [], harness := (true, "b27d296cba2005ed52b83e4d02f9a92df942fcb238ec7dd82e27cfb862522592"), looks := false }, kinds := [], alts := [], laidByText := true, laidKinds := [.data, .data, .data, .data, .pinned], laidTests := true, laidLooks := .later }
def EnduseRevokesUptoCardSaid : Prop := Claim7.holds Tryz.pinned (.plain (OpenSpec.upto enduseRevokesSpec)) enduseRevokesUptoCard
end Rows
end Go.Proofs.YtnkepmfgmfeabaaGreatDoor
