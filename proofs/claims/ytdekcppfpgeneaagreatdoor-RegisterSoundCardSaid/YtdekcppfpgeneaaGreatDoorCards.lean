/-
  DERIVED. GIVEN WITH THE SEED: THE CARDS: each row of YtdekcppfpgeneaaGreatDoorRows.lean that lists a variable, with what it lists TIED to the program's text (the seventh form; the later family's looks); each row that meets fmt, with fmt's text TOLD by the authors' own Lean function (tested against real Go, not proved from fmt's source: count such statements apart). THE CARD IS WHAT COUNTS. Prove the row's statement (the work); the ties are given (YtdekcppfpgeneaaGreatDoorTie.lean); close each card by the builder's one call (the guide's Derived/Test/ToyasCard.lean, 'card_holds'). Laid BY PROGRAM, IN A SANDBOX (cutbox-door.mjs). By AI agents, Wed Nov 11 2026. No macro, syntax, notation, axiom, sorry.
-/
import Derived.Test.YtdekcppfpgeneaaGreatDoorRows
import GoSem.ClaimSeven
namespace Go.Proofs.YtdekcppfpgeneaaGreatDoor
namespace Rows

/-- THE TIED CARD OF 'customhouselaw17.RegisterSound'. -/
def registerSoundCard : Claim7 := { stood := { row := registerSoundRow, standIns := [], harness := (true, "287c7e8a48d8cdebeeee6b5ff8e25feda8c2e74b56eadba23ec27d4aced4af78"), looks := true }, kinds := [], alts := [], laidByText := true, laidKinds := [.data, .data, .data, .data, .sentinel, .sentinel, .pinned], laidTests := true, laidLooks := .later }
def RegisterSoundCardSaid : Prop := Claim7.holds Tryz.pinned (.plain (OpenSpec.ofChange registerSoundSpec)) registerSoundCard

/-- THE TIED CARD OF 'customhouselaw17.RegisterOrder'. -/
def registerOrderCard : Claim7 := { stood := { row := registerOrderRow, standIns := [], harness := (true, "287c7e8a48d8cdebeeee6b5ff8e25feda8c2e74b56eadba23ec27d4aced4af78"), looks := true }, kinds := [], alts := [], laidByText := true, laidKinds := [.data, .data, .data, .data, .sentinel, .sentinel, .pinned], laidTests := true, laidLooks := .later }
def RegisterOrderCardSaid : Prop := Claim7.holds Tryz.pinned (.plain (OpenSpec.ofChange registerOrderSpec)) registerOrderCard

/-- THE TIED CARD OF 'customhouselaw17.RegisterNominees'. -/
def registerNomineesCard : Claim7 := { stood := { row := registerNomineesRow, standIns := [], harness := (true, "287c7e8a48d8cdebeeee6b5ff8e25feda8c2e74b56eadba23ec27d4aced4af78"), looks := true }, kinds := [], alts := [], laidByText := true, laidKinds := [.data, .data, .data, .data, .sentinel, .sentinel, .pinned], laidTests := true, laidLooks := .later }
def RegisterNomineesCardSaid : Prop := Claim7.holds Tryz.pinned (.plain (OpenSpec.ofChange registerNomineesSpec)) registerNomineesCard

/-- THE TIED CARD OF 'customhouselaw17.RegisterMatchesReference'. -/
def registerMatchesReferenceCard : Claim7 := { stood := { row := registerMatchesReferenceRow, standIns := [], harness := (true, "287c7e8a48d8cdebeeee6b5ff8e25feda8c2e74b56eadba23ec27d4aced4af78"), looks := true }, kinds := [], alts := [], laidByText := true, laidKinds := [.data, .data, .data, .data, .sentinel, .sentinel, .pinned], laidTests := true, laidLooks := .later }
def RegisterMatchesReferenceCardSaid : Prop := Claim7.holds Tryz.pinned (.plain (OpenSpec.ofChange registerMatchesReferenceSpec)) registerMatchesReferenceCard

/-- THE TIED CARD OF 'customhouselaw17.RegisterStays'. -/
def registerStaysCard : Claim7 := { stood := { row := registerStaysRow, standIns := [], harness := (true, "287c7e8a48d8cdebeeee6b5ff8e25feda8c2e74b56eadba23ec27d4aced4af78"), looks := true }, kinds := [], alts := [], laidByText := true, laidKinds := [.data, .data, .data, .data, .sentinel, .sentinel, .pinned], laidTests := true, laidLooks := .later }
def RegisterStaysCardSaid : Prop := Claim7.holds Tryz.pinned (.plain (OpenSpec.ofChange registerStaysSpec)) registerStaysCard

/-- THE TIED CARD OF 'customhouselaw17.RegisterTime'. -/
def registerTimeCard : Claim7 := { stood := { row := registerTimeRow, standIns := [], harness := (true, "287c7e8a48d8cdebeeee6b5ff8e25feda8c2e74b56eadba23ec27d4aced4af78"), looks := true }, kinds := [], alts := [], laidByText := true, laidKinds := [.data, .data, .data, .data, .sentinel, .sentinel, .pinned], laidTests := true, laidLooks := .later }
def RegisterTimeCardSaid : Prop := Claim7.holds Tryz.pinned (.plain (OpenSpec.ofChange registerTimeSpec)) registerTimeCard

/-- THE TIED CARD OF 'customhouselaw17.RegisterSums'. -/
def registerSumsCard : Claim7 := { stood := { row := registerSumsRow, standIns := [], harness := (true, "287c7e8a48d8cdebeeee6b5ff8e25feda8c2e74b56eadba23ec27d4aced4af78"), looks := true }, kinds := [], alts := [], laidByText := true, laidKinds := [.data, .data, .data, .data, .sentinel, .sentinel, .pinned], laidTests := true, laidLooks := .later }
def RegisterSumsCardSaid : Prop := Claim7.holds Tryz.pinned (.plain (OpenSpec.ofChange registerSumsSpec)) registerSumsCard

/-- THE SECOND FORM's CARD OF 'customhouselaw17.RegisterSound'. -/
def registerSoundUptoCard : Claim7 := { stood := { row := registerSoundUptoRow, standIns := [], harness := (true, "287c7e8a48d8cdebeeee6b5ff8e25feda8c2e74b56eadba23ec27d4aced4af78"), looks := true }, kinds := [], alts := [], laidByText := true, laidKinds := [.data, .data, .data, .data, .sentinel, .sentinel, .pinned], laidTests := true, laidLooks := .later }
def RegisterSoundUptoCardSaid : Prop := Claim7.holds Tryz.pinned (.plain (OpenSpec.upto registerSoundSpec)) registerSoundUptoCard

/-- THE SECOND FORM's CARD OF 'customhouselaw17.RegisterOrder'. -/
def registerOrderUptoCard : Claim7 := { stood := { row := registerOrderUptoRow, standIns := [], harness := (true, "287c7e8a48d8cdebeeee6b5ff8e25feda8c2e74b56eadba23ec27d4aced4af78"), looks := true }, kinds := [], alts := [], laidByText := true, laidKinds := [.data, .data, .data, .data, .sentinel, .sentinel, .pinned], laidTests := true, laidLooks := .later }
def RegisterOrderUptoCardSaid : Prop := Claim7.holds Tryz.pinned (.plain (OpenSpec.upto registerOrderSpec)) registerOrderUptoCard

/-- THE SECOND FORM's CARD OF 'customhouselaw17.RegisterNominees'. -/
def registerNomineesUptoCard : Claim7 := { stood := { row := registerNomineesUptoRow, standIns := [], harness := (true, "287c7e8a48d8cdebeeee6b5ff8e25feda8c2e74b56eadba23ec27d4aced4af78"), looks := true }, kinds := [], alts := [], laidByText := true, laidKinds := [.data, .data, .data, .data, .sentinel, .sentinel, .pinned], laidTests := true, laidLooks := .later }
def RegisterNomineesUptoCardSaid : Prop := Claim7.holds Tryz.pinned (.plain (OpenSpec.upto registerNomineesSpec)) registerNomineesUptoCard

/-- THE SECOND FORM's CARD OF 'customhouselaw17.RegisterMatchesReference'. -/
def registerMatchesReferenceUptoCard : Claim7 := { stood := { row := registerMatchesReferenceUptoRow, standIns := [], harness := (true, "287c7e8a48d8cdebeeee6b5ff8e25feda8c2e74b56eadba23ec27d4aced4af78"), looks := true }, kinds := [], alts := [], laidByText := true, laidKinds := [.data, .data, .data, .data, .sentinel, .sentinel, .pinned], laidTests := true, laidLooks := .later }
def RegisterMatchesReferenceUptoCardSaid : Prop := Claim7.holds Tryz.pinned (.plain (OpenSpec.upto registerMatchesReferenceSpec)) registerMatchesReferenceUptoCard

/-- THE SECOND FORM's CARD OF 'customhouselaw17.RegisterStays'. -/
def registerStaysUptoCard : Claim7 := { stood := { row := registerStaysUptoRow, standIns := [], harness := (true, "287c7e8a48d8cdebeeee6b5ff8e25feda8c2e74b56eadba23ec27d4aced4af78"), looks := true }, kinds := [], alts := [], laidByText := true, laidKinds := [.data, .data, .data, .data, .sentinel, .sentinel, .pinned], laidTests := true, laidLooks := .later }
def RegisterStaysUptoCardSaid : Prop := Claim7.holds Tryz.pinned (.plain (OpenSpec.upto registerStaysSpec)) registerStaysUptoCard

/-- THE SECOND FORM's CARD OF 'customhouselaw17.RegisterTime'. -/
def registerTimeUptoCard : Claim7 := { stood := { row := registerTimeUptoRow, standIns := [], harness := (true, "287c7e8a48d8cdebeeee6b5ff8e25feda8c2e74b56eadba23ec27d4aced4af78"), looks := true }, kinds := [], alts := [], laidByText := true, laidKinds := [.data, .data, .data, .data, .sentinel, .sentinel, .pinned], laidTests := true, laidLooks := .later }
def RegisterTimeUptoCardSaid : Prop := Claim7.holds Tryz.pinned (.plain (OpenSpec.upto registerTimeSpec)) registerTimeUptoCard

/-- THE SECOND FORM's CARD OF 'customhouselaw17.RegisterSums'. -/
def registerSumsUptoCard : Claim7 := { stood := { row := registerSumsUptoRow, standIns := [], harness := (true, "287c7e8a48d8cdebeeee6b5ff8e25feda8c2e74b56eadba23ec27d4aced4af78"), looks := true }, kinds := [], alts := [], laidByText := true, laidKinds := [.data, .data, .data, .data, .sentinel, .sentinel, .pinned], laidTests := true, laidLooks := .later }
def RegisterSumsUptoCardSaid : Prop := Claim7.holds Tryz.pinned (.plain (OpenSpec.upto registerSumsSpec)) registerSumsUptoCard
end Rows
end Go.Proofs.YtdekcppfpgeneaaGreatDoor
