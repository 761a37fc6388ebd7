/-
  DERIVED. GIVEN WITH THE SEED: THE CARDS: each row of YtccmalpbejednaaDoorRows.lean that lists a variable, with what it lists TIED to the program's text (the seventh form; the later family's looks); each row that meets fmt, with fmt's text TOLD by the authors' own Lean function (tested against real Go, not proved from fmt's source: count such statements apart). THE CARD IS WHAT COUNTS. Prove the row's statement (the work); the ties are given (YtccmalpbejednaaDoorTie.lean); close each card by the builder's one call (the guide's Derived/Test/ToyasCard.lean, 'card_holds'). Laid BY PROGRAM, IN A SANDBOX (cutbox-door.mjs). By AI agents, Wed Nov 11 2026. No macro, syntax, notation, axiom, sorry.
-/
import Derived.Test.YtccmalpbejednaaDoorRows
import GoSem.ClaimSeven
namespace Go.Proofs.YtccmalpbejednaaDoor
namespace Rows

/-- THE TIED CARD OF 'selionlaw02.SpansOf'. -/
def spansOfCard : Claim7 := { stood := { row := spansOfRow, standIns := [], harness := (true, "c23b3d01926f90f7197370b63a5215d37ef067b8d33808b3282a2502c208c314"), looks := true }, kinds := [], alts := [], laidByText := true, laidKinds := [.data], laidTests := true, laidLooks := .later }
def SpansOfCardSaid : Prop := Claim7.holds Tryd.pinned (.plain (OpenSpec.ofChange spansOfSpec)) spansOfCard

/-- THE TIED CARD OF 'selionlaw03.PowerRuns'. -/
def powerRunsCard : Claim7 := { stood := { row := powerRunsRow, standIns := [], harness := (true, "c23b3d01926f90f7197370b63a5215d37ef067b8d33808b3282a2502c208c314"), looks := true }, kinds := [], alts := [], laidByText := true, laidKinds := [.data], laidTests := true, laidLooks := .later }
def PowerRunsCardSaid : Prop := Claim7.holds Tryd.pinned (.plain (OpenSpec.ofChange powerRunsSpec)) powerRunsCard

/-- THE TIED CARD OF 'selionlaw03.PowerNests'. -/
def powerNestsCard : Claim7 := { stood := { row := powerNestsRow, standIns := [], harness := (true, "c23b3d01926f90f7197370b63a5215d37ef067b8d33808b3282a2502c208c314"), looks := true }, kinds := [], alts := [], laidByText := true, laidKinds := [.data], laidTests := true, laidLooks := .later }
def PowerNestsCardSaid : Prop := Claim7.holds Tryd.pinned (.plain (OpenSpec.ofChange powerNestsSpec)) powerNestsCard

/-- THE TIED CARD OF 'selionlaw03.PowerApart'. -/
def powerApartCard : Claim7 := { stood := { row := powerApartRow, standIns := [], harness := (true, "c23b3d01926f90f7197370b63a5215d37ef067b8d33808b3282a2502c208c314"), looks := true }, kinds := [], alts := [], laidByText := true, laidKinds := [.data], laidTests := true, laidLooks := .later }
def PowerApartCardSaid : Prop := Claim7.holds Tryd.pinned (.plain (OpenSpec.ofChange powerApartSpec)) powerApartCard

/-- THE TIED CARD OF 'selionlaw03.PowerMore'. -/
def powerMoreCard : Claim7 := { stood := { row := powerMoreRow, standIns := [], harness := (true, "c23b3d01926f90f7197370b63a5215d37ef067b8d33808b3282a2502c208c314"), looks := true }, kinds := [], alts := [], laidByText := true, laidKinds := [.data], laidTests := true, laidLooks := .later }
def PowerMoreCardSaid : Prop := Claim7.holds Tryd.pinned (.plain (OpenSpec.ofChange powerMoreSpec)) powerMoreCard

/-- THE TIED CARD OF 'selionlaw03.PowerParts'. -/
def powerPartsCard : Claim7 := { stood := { row := powerPartsRow, standIns := [], harness := (true, "c23b3d01926f90f7197370b63a5215d37ef067b8d33808b3282a2502c208c314"), looks := true }, kinds := [], alts := [], laidByText := true, laidKinds := [.data], laidTests := true, laidLooks := .later }
def PowerPartsCardSaid : Prop := Claim7.holds Tryd.pinned (.plain (OpenSpec.ofChange powerPartsSpec)) powerPartsCard

/-- THE TIED CARD OF 'selionlaw02.SpansHole'. -/
def spansHoleCard : Claim7 := { stood := { row := spansHoleRow, standIns := [], harness := (true, "c23b3d01926f90f7197370b63a5215d37ef067b8d33808b3282a2502c208c314"), looks := true }, kinds := [], alts := [], laidByText := true, laidKinds := [.data], laidTests := true, laidLooks := .later }
def SpansHoleCardSaid : Prop := Claim7.holds Tryd.pinned (.plain (OpenSpec.ofChange spansHoleSpec)) spansHoleCard

/-- THE TIED CARD OF 'selionlaw02.SpansParts'. -/
def spansPartsCard : Claim7 := { stood := { row := spansPartsRow, standIns := [], harness := (true, "c23b3d01926f90f7197370b63a5215d37ef067b8d33808b3282a2502c208c314"), looks := true }, kinds := [], alts := [], laidByText := true, laidKinds := [.data], laidTests := true, laidLooks := .later }
def SpansPartsCardSaid : Prop := Claim7.holds Tryd.pinned (.plain (OpenSpec.ofChange spansPartsSpec)) spansPartsCard

/-- THE TIED CARD OF 'selionlaw02.SpansOrder'. -/
def spansOrderCard : Claim7 := { stood := { row := spansOrderRow, standIns := [], harness := (true, "c23b3d01926f90f7197370b63a5215d37ef067b8d33808b3282a2502c208c314"), looks := true }, kinds := [], alts := [], laidByText := true, laidKinds := [.data], laidTests := true, laidLooks := .later }
def SpansOrderCardSaid : Prop := Claim7.holds Tryd.pinned (.plain (OpenSpec.ofChange spansOrderSpec)) spansOrderCard

/-- THE TIED CARD OF 'selionlaw02.SpansTwo'. -/
def spansTwoCard : Claim7 := { stood := { row := spansTwoRow, standIns := [], harness := (true, "c23b3d01926f90f7197370b63a5215d37ef067b8d33808b3282a2502c208c314"), looks := true }, kinds := [], alts := [], laidByText := true, laidKinds := [.data], laidTests := true, laidLooks := .later }
def SpansTwoCardSaid : Prop := Claim7.holds Tryd.pinned (.plain (OpenSpec.ofChange spansTwoSpec)) spansTwoCard

/-- THE SECOND FORM's CARD OF 'selionlaw02.SpansOf'. -/
def spansOfUptoCard : Claim7 := { stood := { row := spansOfUptoRow, standIns := [], harness := (true, "c23b3d01926f90f7197370b63a5215d37ef067b8d33808b3282a2502c208c314"), looks := true }, kinds := [], alts := [], laidByText := true, laidKinds := [.data], laidTests := true, laidLooks := .later }
def SpansOfUptoCardSaid : Prop := Claim7.holds Tryd.pinned (.plain (OpenSpec.upto spansOfSpec)) spansOfUptoCard

/-- THE SECOND FORM's CARD OF 'selionlaw03.PowerRuns'. -/
def powerRunsUptoCard : Claim7 := { stood := { row := powerRunsUptoRow, standIns := [], harness := (true, "c23b3d01926f90f7197370b63a5215d37ef067b8d33808b3282a2502c208c314"), looks := true }, kinds := [], alts := [], laidByText := true, laidKinds := [.data], laidTests := true, laidLooks := .later }
def PowerRunsUptoCardSaid : Prop := Claim7.holds Tryd.pinned (.plain (OpenSpec.upto powerRunsSpec)) powerRunsUptoCard

/-- THE SECOND FORM's CARD OF 'selionlaw03.PowerNests'. -/
def powerNestsUptoCard : Claim7 := { stood := { row := powerNestsUptoRow, standIns := [], harness := (true, "c23b3d01926f90f7197370b63a5215d37ef067b8d33808b3282a2502c208c314"), looks := true }, kinds := [], alts := [], laidByText := true, laidKinds := [.data], laidTests := true, laidLooks := .later }
def PowerNestsUptoCardSaid : Prop := Claim7.holds Tryd.pinned (.plain (OpenSpec.upto powerNestsSpec)) powerNestsUptoCard

/-- THE SECOND FORM's CARD OF 'selionlaw03.PowerApart'. -/
def powerApartUptoCard : Claim7 := { stood := { row := powerApartUptoRow, standIns := [], harness := (true, "c23b3d01926f90f7197370b63a5215d37ef067b8d33808b3282a2502c208c314"), looks := true }, kinds := [], alts := [], laidByText := true, laidKinds := [.data], laidTests := true, laidLooks := .later }
def PowerApartUptoCardSaid : Prop := Claim7.holds Tryd.pinned (.plain (OpenSpec.upto powerApartSpec)) powerApartUptoCard

/-- THE SECOND FORM's CARD OF 'selionlaw03.PowerMore'. -/
def powerMoreUptoCard : Claim7 := { stood := { row := powerMoreUptoRow, standIns := [], harness := (true, "c23b3d01926f90f7197370b63a5215d37ef067b8d33808b3282a2502c208c314"), looks := true }, kinds := [], alts := [], laidByText := true, laidKinds := [.data], laidTests := true, laidLooks := .later }
def PowerMoreUptoCardSaid : Prop := Claim7.holds Tryd.pinned (.plain (OpenSpec.upto powerMoreSpec)) powerMoreUptoCard

/-- THE SECOND FORM's CARD OF 'selionlaw03.PowerParts'. -/
def powerPartsUptoCard : Claim7 := { stood := { row := powerPartsUptoRow, standIns := [], harness := (true, "c23b3d01926f90f7197370b63a5215d37ef067b8d33808b3282a2502c208c314"), looks := true }, kinds := [], alts := [], laidByText := true, laidKinds := [.data], laidTests := true, laidLooks := .later }
def PowerPartsUptoCardSaid : Prop := Claim7.holds Tryd.pinned (.plain (OpenSpec.upto powerPartsSpec)) powerPartsUptoCard

/-- THE SECOND FORM's CARD OF 'selionlaw02.SpansHole'. -/
def spansHoleUptoCard : Claim7 := { stood := { row := spansHoleUptoRow, standIns := [], harness := (true, "c23b3d01926f90f7197370b63a5215d37ef067b8d33808b3282a2502c208c314"), looks := true }, kinds := [], alts := [], laidByText := true, laidKinds := [.data], laidTests := true, laidLooks := .later }
def SpansHoleUptoCardSaid : Prop := Claim7.holds Tryd.pinned (.plain (OpenSpec.upto spansHoleSpec)) spansHoleUptoCard

/-- THE SECOND FORM's CARD OF 'selionlaw02.SpansParts'. -/
def spansPartsUptoCard : Claim7 := { stood := { row := spansPartsUptoRow, standIns := [], harness := (true, "c23b3d01926f90f7197370b63a5215d37ef067b8d33808b3282a2502c208c314"), looks := true }, kinds := [], alts := [], laidByText := true, laidKinds := [.data], laidTests := true, laidLooks := .later }
def SpansPartsUptoCardSaid : Prop := Claim7.holds Tryd.pinned (.plain (OpenSpec.upto spansPartsSpec)) spansPartsUptoCard

/-- THE SECOND FORM's CARD OF 'selionlaw02.SpansOrder'. -/
def spansOrderUptoCard : Claim7 := { stood := { row := spansOrderUptoRow, standIns := [], harness := (true, "c23b3d01926f90f7197370b63a5215d37ef067b8d33808b3282a2502c208c314"), looks := true }, kinds := [], alts := [], laidByText := true, laidKinds := [.data], laidTests := true, laidLooks := .later }
def SpansOrderUptoCardSaid : Prop := Claim7.holds Tryd.pinned (.plain (OpenSpec.upto spansOrderSpec)) spansOrderUptoCard

/-- THE SECOND FORM's CARD OF 'selionlaw02.SpansTwo'. -/
def spansTwoUptoCard : Claim7 := { stood := { row := spansTwoUptoRow, standIns := [], harness := (true, "c23b3d01926f90f7197370b63a5215d37ef067b8d33808b3282a2502c208c314"), looks := true }, kinds := [], alts := [], laidByText := true, laidKinds := [.data], laidTests := true, laidLooks := .later }
def SpansTwoUptoCardSaid : Prop := Claim7.holds Tryd.pinned (.plain (OpenSpec.upto spansTwoSpec)) spansTwoUptoCard
end Rows
end Go.Proofs.YtccmalpbejednaaDoor
