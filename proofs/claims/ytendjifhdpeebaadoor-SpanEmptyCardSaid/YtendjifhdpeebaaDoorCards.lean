/-
  DERIVED. GIVEN WITH THE SEED: THE CARDS: each row of YtendjifhdpeebaaDoorRows.lean that lists a variable, with what it lists TIED to the program's text (the seventh form; the later family's looks); each row that meets fmt, with fmt's text TOLD by the authors' own Lean function (tested against real Go, not proved from fmt's source: count such statements apart). THE CARD IS WHAT COUNTS. Prove the row's statement (the work); the ties are given (YtendjifhdpeebaaDoorTie.lean); close each card by the builder's one call (the guide's Derived/Test/ToyasCard.lean, 'card_holds'). Laid BY PROGRAM, IN A SANDBOX (cutbox-door.mjs). By AI agents, Wed Nov 11 2026. No macro, syntax, notation, axiom, sorry.
-/
import Derived.Test.YtendjifhdpeebaaDoorRows
import GoSem.ClaimSeven
namespace Go.Proofs.YtendjifhdpeebaaDoor
namespace Rows

/-- THE TIED CARD OF 'selionlaw01.SpanHas'. -/
def spanHasCard : Claim7 := { stood := { row := spanHasRow, standIns := [], harness := (true, "788cf7b89d3185649f528712eaffd8f67f52cd5c340f06971a76d18d9cf6cc13"), looks := false }, kinds := [], alts := [], laidByText := true, laidKinds := [.data], laidTests := true, laidLooks := .later }
def SpanHasCardSaid : Prop := Claim7.holds Tryd.pinned (.plain (OpenSpec.ofChange spanHasSpec)) spanHasCard

/-- THE TIED CARD OF 'selionlaw01.SpanCuts'. -/
def spanCutsCard : Claim7 := { stood := { row := spanCutsRow, standIns := [], harness := (true, "788cf7b89d3185649f528712eaffd8f67f52cd5c340f06971a76d18d9cf6cc13"), looks := false }, kinds := [], alts := [], laidByText := true, laidKinds := [.data], laidTests := true, laidLooks := .later }
def SpanCutsCardSaid : Prop := Claim7.holds Tryd.pinned (.plain (OpenSpec.ofChange spanCutsSpec)) spanCutsCard

/-- THE TIED CARD OF 'selionlaw01.SpanLess'. -/
def spanLessCard : Claim7 := { stood := { row := spanLessRow, standIns := [], harness := (true, "788cf7b89d3185649f528712eaffd8f67f52cd5c340f06971a76d18d9cf6cc13"), looks := false }, kinds := [], alts := [], laidByText := true, laidKinds := [.data], laidTests := true, laidLooks := .later }
def SpanLessCardSaid : Prop := Claim7.holds Tryd.pinned (.plain (OpenSpec.ofChange spanLessSpec)) spanLessCard

/-- THE TIED CARD OF 'selionlaw01.SpanMeets'. -/
def spanMeetsCard : Claim7 := { stood := { row := spanMeetsRow, standIns := [], harness := (true, "788cf7b89d3185649f528712eaffd8f67f52cd5c340f06971a76d18d9cf6cc13"), looks := false }, kinds := [], alts := [], laidByText := true, laidKinds := [.data], laidTests := true, laidLooks := .later }
def SpanMeetsCardSaid : Prop := Claim7.holds Tryd.pinned (.plain (OpenSpec.ofChange spanMeetsSpec)) spanMeetsCard

/-- THE TIED CARD OF 'selionlaw01.SpanParts'. -/
def spanPartsCard : Claim7 := { stood := { row := spanPartsRow, standIns := [], harness := (true, "788cf7b89d3185649f528712eaffd8f67f52cd5c340f06971a76d18d9cf6cc13"), looks := false }, kinds := [], alts := [], laidByText := true, laidKinds := [.data], laidTests := true, laidLooks := .later }
def SpanPartsCardSaid : Prop := Claim7.holds Tryd.pinned (.plain (OpenSpec.ofChange spanPartsSpec)) spanPartsCard

/-- THE TIED CARD OF 'selionlaw01.SpanEmpty'. -/
def spanEmptyCard : Claim7 := { stood := { row := spanEmptyRow, standIns := [], harness := (true, "788cf7b89d3185649f528712eaffd8f67f52cd5c340f06971a76d18d9cf6cc13"), looks := false }, kinds := [], alts := [], laidByText := true, laidKinds := [.data], laidTests := true, laidLooks := .later }
def SpanEmptyCardSaid : Prop := Claim7.holds Tryd.pinned (.plain (OpenSpec.ofChange spanEmptySpec)) spanEmptyCard

/-- THE SECOND FORM's CARD OF 'selionlaw01.SpanHas'. -/
def spanHasUptoCard : Claim7 := { stood := { row := spanHasUptoRow, standIns := [], harness := (true, "788cf7b89d3185649f528712eaffd8f67f52cd5c340f06971a76d18d9cf6cc13"), looks := false }, kinds := [], alts := [], laidByText := true, laidKinds := [.data], laidTests := true, laidLooks := .later }
def SpanHasUptoCardSaid : Prop := Claim7.holds Tryd.pinned (.plain (OpenSpec.upto spanHasSpec)) spanHasUptoCard

/-- THE SECOND FORM's CARD OF 'selionlaw01.SpanCuts'. -/
def spanCutsUptoCard : Claim7 := { stood := { row := spanCutsUptoRow, standIns := [], harness := (true, "788cf7b89d3185649f528712eaffd8f67f52cd5c340f06971a76d18d9cf6cc13"), looks := false }, kinds := [], alts := [], laidByText := true, laidKinds := [.data], laidTests := true, laidLooks := .later }
def SpanCutsUptoCardSaid : Prop := Claim7.holds Tryd.pinned (.plain (OpenSpec.upto spanCutsSpec)) spanCutsUptoCard

/-- THE SECOND FORM's CARD OF 'selionlaw01.SpanLess'. -/
def spanLessUptoCard : Claim7 := { stood := { row := spanLessUptoRow, standIns := [], harness := (true, "788cf7b89d3185649f528712eaffd8f67f52cd5c340f06971a76d18d9cf6cc13"), looks := false }, kinds := [], alts := [], laidByText := true, laidKinds := [.data], laidTests := true, laidLooks := .later }
def SpanLessUptoCardSaid : Prop := Claim7.holds Tryd.pinned (.plain (OpenSpec.upto spanLessSpec)) spanLessUptoCard

/-- THE SECOND FORM's CARD OF 'selionlaw01.SpanMeets'. -/
def spanMeetsUptoCard : Claim7 := { stood := { row := spanMeetsUptoRow, standIns := [], harness := (true, "788cf7b89d3185649f528712eaffd8f67f52cd5c340f06971a76d18d9cf6cc13"), looks := false }, kinds := [], alts := [], laidByText := true, laidKinds := [.data], laidTests := true, laidLooks := .later }
def SpanMeetsUptoCardSaid : Prop := Claim7.holds Tryd.pinned (.plain (OpenSpec.upto spanMeetsSpec)) spanMeetsUptoCard

/-- THE SECOND FORM's CARD OF 'selionlaw01.SpanParts'. -/
def spanPartsUptoCard : Claim7 := { stood := { row := spanPartsUptoRow, standIns := [], harness := (true, "788cf7b89d3185649f528712eaffd8f67f52cd5c340f06971a76d18d9cf6cc13"), looks := false }, kinds := [], alts := [], laidByText := true, laidKinds := [.data], laidTests := true, laidLooks := .later }
def SpanPartsUptoCardSaid : Prop := Claim7.holds Tryd.pinned (.plain (OpenSpec.upto spanPartsSpec)) spanPartsUptoCard

/-- THE SECOND FORM's CARD OF 'selionlaw01.SpanEmpty'. -/
def spanEmptyUptoCard : Claim7 := { stood := { row := spanEmptyUptoRow, standIns := [], harness := (true, "788cf7b89d3185649f528712eaffd8f67f52cd5c340f06971a76d18d9cf6cc13"), looks := false }, kinds := [], alts := [], laidByText := true, laidKinds := [.data], laidTests := true, laidLooks := .later }
def SpanEmptyUptoCardSaid : Prop := Claim7.holds Tryd.pinned (.plain (OpenSpec.upto spanEmptySpec)) spanEmptyUptoCard
end Rows
end Go.Proofs.YtendjifhdpeebaaDoor
