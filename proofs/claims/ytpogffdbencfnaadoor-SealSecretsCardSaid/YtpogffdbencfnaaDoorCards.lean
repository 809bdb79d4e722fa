/-
  DERIVED. GIVEN WITH THE SEED: THE CARDS: each row of YtpogffdbencfnaaDoorRows.lean that lists a variable, with what it lists TIED to the program's text (the seventh form; the later family's looks); each row that meets fmt, with fmt's text TOLD by the authors' own Lean function (tested against real Go, not proved from fmt's source: count such statements apart). THE CARD IS WHAT COUNTS. Prove the row's statement (the work); the ties are given (YtpogffdbencfnaaDoorTie.lean); close each card by the builder's one call (the guide's Derived/Test/ToyasCard.lean, 'card_holds'). Laid BY PROGRAM, IN A SANDBOX (cutbox-door.mjs). By AI agents, Wed Nov 11 2026. No macro, syntax, notation, axiom, sorry.
-/
import Derived.Test.YtpogffdbencfnaaDoorRows
import GoSem.ClaimSeven
namespace Go.Proofs.YtpogffdbencfnaaDoor
namespace Rows

/-- THE TIED CARD OF 'customhouselaw03.SealVerifies'. -/
def sealVerifiesCard : Claim7 := { stood := { row := sealVerifiesRow, standIns := [], harness := (true, "a72946739d84be5fd47489ba1f08248dee232730e4e71636273d02e3ec41900b"), looks := false }, kinds := [], alts := [], laidByText := true, laidKinds := [.data, .data, .data, .data, .pinned], laidTests := true, laidLooks := .later }
def SealVerifiesCardSaid : Prop := Claim7.holds Tryd.pinned (.plain (OpenSpec.ofChange sealVerifiesSpec)) sealVerifiesCard

/-- THE TIED CARD OF 'customhouselaw03.SealSecrets'. -/
def sealSecretsCard : Claim7 := { stood := { row := sealSecretsRow, standIns := [], harness := (true, "a72946739d84be5fd47489ba1f08248dee232730e4e71636273d02e3ec41900b"), looks := false }, kinds := [], alts := [], laidByText := true, laidKinds := [.data, .data, .data, .data, .pinned], laidTests := true, laidLooks := .later }
def SealSecretsCardSaid : Prop := Claim7.holds Tryd.pinned (.plain (OpenSpec.ofChange sealSecretsSpec)) sealSecretsCard

/-- THE TIED CARD OF 'customhouselaw03.SealForm'. -/
def sealFormCard : Claim7 := { stood := { row := sealFormRow, standIns := [], harness := (true, "a72946739d84be5fd47489ba1f08248dee232730e4e71636273d02e3ec41900b"), looks := false }, kinds := [], alts := [], laidByText := true, laidKinds := [.data, .data, .data, .data, .pinned], laidTests := true, laidLooks := .later }
def SealFormCardSaid : Prop := Claim7.holds Tryd.pinned (.plain (OpenSpec.ofChange sealFormSpec)) sealFormCard

/-- THE SECOND FORM's CARD OF 'customhouselaw03.SealVerifies'. -/
def sealVerifiesUptoCard : Claim7 := { stood := { row := sealVerifiesUptoRow, standIns := [], harness := (true, "a72946739d84be5fd47489ba1f08248dee232730e4e71636273d02e3ec41900b"), looks := false }, kinds := [], alts := [], laidByText := true, laidKinds := [.data, .data, .data, .data, .pinned], laidTests := true, laidLooks := .later }
def SealVerifiesUptoCardSaid : Prop := Claim7.holds Tryd.pinned (.plain (OpenSpec.upto sealVerifiesSpec)) sealVerifiesUptoCard

/-- THE SECOND FORM's CARD OF 'customhouselaw03.SealSecrets'. -/
def sealSecretsUptoCard : Claim7 := { stood := { row := sealSecretsUptoRow, standIns := [], harness := (true, "a72946739d84be5fd47489ba1f08248dee232730e4e71636273d02e3ec41900b"), looks := false }, kinds := [], alts := [], laidByText := true, laidKinds := [.data, .data, .data, .data, .pinned], laidTests := true, laidLooks := .later }
def SealSecretsUptoCardSaid : Prop := Claim7.holds Tryd.pinned (.plain (OpenSpec.upto sealSecretsSpec)) sealSecretsUptoCard

/-- THE SECOND FORM's CARD OF 'customhouselaw03.SealForm'. -/
def sealFormUptoCard : Claim7 := { stood := { row := sealFormUptoRow, standIns := [], harness := (true, "a72946739d84be5fd47489ba1f08248dee232730e4e71636273d02e3ec41900b"), looks := false }, kinds := [], alts := [], laidByText := true, laidKinds := [.data, .data, .data, .data, .pinned], laidTests := true, laidLooks := .later }
def SealFormUptoCardSaid : Prop := Claim7.holds Tryd.pinned (.plain (OpenSpec.upto sealFormSpec)) sealFormUptoCard
end Rows
end Go.Proofs.YtpogffdbencfnaaDoor
