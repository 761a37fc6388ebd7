/-
  DERIVED. GIVEN WITH THE SEED: THE CARDS: each row of YtfccoiofpmhbdaaDoorRows.lean that lists a variable, with what it lists TIED to the program's text (the seventh form; the later family's looks); each row that meets fmt, with fmt's text TOLD by the authors' own Lean function (tested against real Go, not proved from fmt's source: count such statements apart). THE CARD IS WHAT COUNTS. Prove the row's statement (the work); the ties are given (YtfccoiofpmhbdaaDoorTie.lean); close each card by the builder's one call (the guide's Derived/Test/ToyasCard.lean, 'card_holds'). Laid BY PROGRAM, IN A SANDBOX (cutbox-door.mjs). By AI agents, Wed Nov 11 2026. No macro, syntax, notation, axiom, sorry.
-/
import Derived.Test.YtfccoiofpmhbdaaDoorRows
import GoSem.ClaimSeven
namespace Go.Proofs.YtfccoiofpmhbdaaDoor
namespace Rows

/-- THE TIED CARD OF 'selionlaw04.DiskPlays'. -/
def diskPlaysCard : Claim7 := { stood := { row := diskPlaysRow, standIns := [], harness := (true, "400ee7a54ca9e2ce484aa70c9d9d78b08df6341adf018c59a8ebaa42f4b4a456"), looks := true }, kinds := [], alts := [], laidByText := true, laidKinds := [.data, .data], laidTests := true, laidLooks := .later }
def DiskPlaysCardSaid : Prop := Claim7.holds Tryd.pinned (.plain (OpenSpec.ofChange diskPlaysSpec)) diskPlaysCard

/-- THE TIED CARD OF 'selionlaw04.DiskSteps'. -/
def diskStepsCard : Claim7 := { stood := { row := diskStepsRow, standIns := [], harness := (true, "400ee7a54ca9e2ce484aa70c9d9d78b08df6341adf018c59a8ebaa42f4b4a456"), looks := true }, kinds := [], alts := [], laidByText := true, laidKinds := [.data, .data], laidTests := true, laidLooks := .later }
def DiskStepsCardSaid : Prop := Claim7.holds Tryd.pinned (.plain (OpenSpec.ofChange diskStepsSpec)) diskStepsCard

/-- THE SECOND FORM's CARD OF 'selionlaw04.DiskPlays'. -/
def diskPlaysUptoCard : Claim7 := { stood := { row := diskPlaysUptoRow, standIns := [], harness := (true, "400ee7a54ca9e2ce484aa70c9d9d78b08df6341adf018c59a8ebaa42f4b4a456"), looks := true }, kinds := [], alts := [], laidByText := true, laidKinds := [.data, .data], laidTests := true, laidLooks := .later }
def DiskPlaysUptoCardSaid : Prop := Claim7.holds Tryd.pinned (.plain (OpenSpec.upto diskPlaysSpec)) diskPlaysUptoCard

/-- THE SECOND FORM's CARD OF 'selionlaw04.DiskSteps'. -/
def diskStepsUptoCard : Claim7 := { stood := { row := diskStepsUptoRow, standIns := [], harness := (true, "400ee7a54ca9e2ce484aa70c9d9d78b08df6341adf018c59a8ebaa42f4b4a456"), looks := true }, kinds := [], alts := [], laidByText := true, laidKinds := [.data, .data], laidTests := true, laidLooks := .later }
def DiskStepsUptoCardSaid : Prop := Claim7.holds Tryd.pinned (.plain (OpenSpec.upto diskStepsSpec)) diskStepsUptoCard
end Rows
end Go.Proofs.YtfccoiofpmhbdaaDoor
