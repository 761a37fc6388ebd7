/-
  DERIVED. GIVEN WITH THE SEED: THE CARDS: each row of YtocgfcboigiigaaDoorRows.lean that lists a variable, with what it lists TIED to the program's text (the seventh form; the later family's looks); each row that meets fmt, with fmt's text TOLD by the authors' own Lean function (tested against real Go, not proved from fmt's source: count such statements apart). THE CARD IS WHAT COUNTS. Prove the row's statement (the work); the ties are given (YtocgfcboigiigaaDoorTie.lean); close each card by the builder's one call (the guide's Derived/Test/ToyasCard.lean, 'card_holds'). Laid BY PROGRAM, IN A SANDBOX (cutbox-door.mjs). By AI agents, Wed Nov 11 2026. No macro, syntax, notation, axiom, sorry.
-/
import Derived.Test.YtocgfcboigiigaaDoorRows
import GoSem.ClaimSeven
namespace Go.Proofs.YtocgfcboigiigaaDoor
namespace Rows

/-- THE TIED CARD OF 'selionlaw06.FrameTurns'. -/
def frameTurnsCard : Claim7 := { stood := { row := frameTurnsRow, standIns := [], harness := (true, "afcccc43c0787be25765be06901d9a1841f5ed2d95c9cf599adfe5ba2c8ffbdb"), looks := true }, kinds := [], alts := [], laidByText := true, laidKinds := [.data], laidTests := true, laidLooks := .later }
def FrameTurnsCardSaid : Prop := Claim7.holds Tryd.pinned (.plain (OpenSpec.ofChange frameTurnsSpec)) frameTurnsCard

/-- THE TIED CARD OF 'selionlaw06.FrameApart'. -/
def frameApartCard : Claim7 := { stood := { row := frameApartRow, standIns := [], harness := (true, "afcccc43c0787be25765be06901d9a1841f5ed2d95c9cf599adfe5ba2c8ffbdb"), looks := true }, kinds := [], alts := [], laidByText := true, laidKinds := [.data], laidTests := true, laidLooks := .later }
def FrameApartCardSaid : Prop := Claim7.holds Tryd.pinned (.plain (OpenSpec.ofChange frameApartSpec)) frameApartCard

/-- THE TIED CARD OF 'selionlaw06.FrameSums'. -/
def frameSumsCard : Claim7 := { stood := { row := frameSumsRow, standIns := [], harness := (true, "afcccc43c0787be25765be06901d9a1841f5ed2d95c9cf599adfe5ba2c8ffbdb"), looks := true }, kinds := [], alts := [], laidByText := true, laidKinds := [.data], laidTests := true, laidLooks := .later }
def FrameSumsCardSaid : Prop := Claim7.holds Tryd.pinned (.plain (OpenSpec.ofChange frameSumsSpec)) frameSumsCard

/-- THE TIED CARD OF 'selionlaw06.FrameCut'. -/
def frameCutCard : Claim7 := { stood := { row := frameCutRow, standIns := [], harness := (true, "afcccc43c0787be25765be06901d9a1841f5ed2d95c9cf599adfe5ba2c8ffbdb"), looks := true }, kinds := [], alts := [], laidByText := true, laidKinds := [.data], laidTests := true, laidLooks := .later }
def FrameCutCardSaid : Prop := Claim7.holds Tryd.pinned (.plain (OpenSpec.ofChange frameCutSpec)) frameCutCard

/-- THE TIED CARD OF 'selionlaw06.FrameSplits'. -/
def frameSplitsCard : Claim7 := { stood := { row := frameSplitsRow, standIns := [], harness := (true, "afcccc43c0787be25765be06901d9a1841f5ed2d95c9cf599adfe5ba2c8ffbdb"), looks := true }, kinds := [], alts := [], laidByText := true, laidKinds := [.data], laidTests := true, laidLooks := .later }
def FrameSplitsCardSaid : Prop := Claim7.holds Tryd.pinned (.plain (OpenSpec.ofChange frameSplitsSpec)) frameSplitsCard

/-- THE TIED CARD OF 'selionlaw06.FrameJoins'. -/
def frameJoinsCard : Claim7 := { stood := { row := frameJoinsRow, standIns := [], harness := (true, "afcccc43c0787be25765be06901d9a1841f5ed2d95c9cf599adfe5ba2c8ffbdb"), looks := true }, kinds := [], alts := [], laidByText := true, laidKinds := [.data], laidTests := true, laidLooks := .later }
def FrameJoinsCardSaid : Prop := Claim7.holds Tryd.pinned (.plain (OpenSpec.ofChange frameJoinsSpec)) frameJoinsCard

/-- THE TIED CARD OF 'selionlaw07.WalTwo'. -/
def walTwoCard : Claim7 := { stood := { row := walTwoRow, standIns := [], harness := (true, "afcccc43c0787be25765be06901d9a1841f5ed2d95c9cf599adfe5ba2c8ffbdb"), looks := true }, kinds := [], alts := [], laidByText := true, laidKinds := [.data], laidTests := true, laidLooks := .later }
def WalTwoCardSaid : Prop := Claim7.holds Tryd.pinned (.plain (OpenSpec.ofChange walTwoSpec)) walTwoCard

/-- THE TIED CARD OF 'selionlaw07.WalAgain'. -/
def walAgainCard : Claim7 := { stood := { row := walAgainRow, standIns := [], harness := (true, "afcccc43c0787be25765be06901d9a1841f5ed2d95c9cf599adfe5ba2c8ffbdb"), looks := true }, kinds := [], alts := [], laidByText := true, laidKinds := [.data], laidTests := true, laidLooks := .later }
def WalAgainCardSaid : Prop := Claim7.holds Tryd.pinned (.plain (OpenSpec.ofChange walAgainSpec)) walAgainCard

/-- THE TIED CARD OF 'selionlaw07.WalCut'. -/
def walCutCard : Claim7 := { stood := { row := walCutRow, standIns := [], harness := (true, "afcccc43c0787be25765be06901d9a1841f5ed2d95c9cf599adfe5ba2c8ffbdb"), looks := true }, kinds := [], alts := [], laidByText := true, laidKinds := [.data], laidTests := true, laidLooks := .later }
def WalCutCardSaid : Prop := Claim7.holds Tryd.pinned (.plain (OpenSpec.ofChange walCutSpec)) walCutCard

/-- THE TIED CARD OF 'selionlaw07.WalAppends'. -/
def walAppendsCard : Claim7 := { stood := { row := walAppendsRow, standIns := [], harness := (true, "afcccc43c0787be25765be06901d9a1841f5ed2d95c9cf599adfe5ba2c8ffbdb"), looks := true }, kinds := [], alts := [], laidByText := true, laidKinds := [.data], laidTests := true, laidLooks := .later }
def WalAppendsCardSaid : Prop := Claim7.holds Tryd.pinned (.plain (OpenSpec.ofChange walAppendsSpec)) walAppendsCard

/-- THE TIED CARD OF 'selionlaw07.WalClears'. -/
def walClearsCard : Claim7 := { stood := { row := walClearsRow, standIns := [], harness := (true, "afcccc43c0787be25765be06901d9a1841f5ed2d95c9cf599adfe5ba2c8ffbdb"), looks := true }, kinds := [], alts := [], laidByText := true, laidKinds := [.data], laidTests := true, laidLooks := .later }
def WalClearsCardSaid : Prop := Claim7.holds Tryd.pinned (.plain (OpenSpec.ofChange walClearsSpec)) walClearsCard

/-- THE TIED CARD OF 'selionlaw07.WalRaw'. -/
def walRawCard : Claim7 := { stood := { row := walRawRow, standIns := [], harness := (true, "afcccc43c0787be25765be06901d9a1841f5ed2d95c9cf599adfe5ba2c8ffbdb"), looks := true }, kinds := [], alts := [], laidByText := true, laidKinds := [.data], laidTests := true, laidLooks := .later }
def WalRawCardSaid : Prop := Claim7.holds Tryd.pinned (.plain (OpenSpec.ofChange walRawSpec)) walRawCard

/-- THE SECOND FORM's CARD OF 'selionlaw06.FrameTurns'. -/
def frameTurnsUptoCard : Claim7 := { stood := { row := frameTurnsUptoRow, standIns := [], harness := (true, "afcccc43c0787be25765be06901d9a1841f5ed2d95c9cf599adfe5ba2c8ffbdb"), looks := true }, kinds := [], alts := [], laidByText := true, laidKinds := [.data], laidTests := true, laidLooks := .later }
def FrameTurnsUptoCardSaid : Prop := Claim7.holds Tryd.pinned (.plain (OpenSpec.upto frameTurnsSpec)) frameTurnsUptoCard

/-- THE SECOND FORM's CARD OF 'selionlaw06.FrameApart'. -/
def frameApartUptoCard : Claim7 := { stood := { row := frameApartUptoRow, standIns := [], harness := (true, "afcccc43c0787be25765be06901d9a1841f5ed2d95c9cf599adfe5ba2c8ffbdb"), looks := true }, kinds := [], alts := [], laidByText := true, laidKinds := [.data], laidTests := true, laidLooks := .later }
def FrameApartUptoCardSaid : Prop := Claim7.holds Tryd.pinned (.plain (OpenSpec.upto frameApartSpec)) frameApartUptoCard

/-- THE SECOND FORM's CARD OF 'selionlaw06.FrameSums'. -/
def frameSumsUptoCard : Claim7 := { stood := { row := frameSumsUptoRow, standIns := [], harness := (true, "afcccc43c0787be25765be06901d9a1841f5ed2d95c9cf599adfe5ba2c8ffbdb"), looks := true }, kinds := [], alts := [], laidByText := true, laidKinds := [.data], laidTests := true, laidLooks := .later }
def FrameSumsUptoCardSaid : Prop := Claim7.holds Tryd.pinned (.plain (OpenSpec.upto frameSumsSpec)) frameSumsUptoCard

/-- THE SECOND FORM's CARD OF 'selionlaw06.FrameCut'. -/
def frameCutUptoCard : Claim7 := { stood := { row := frameCutUptoRow, standIns := [], harness := (true, "afcccc43c0787be25765be06901d9a1841f5ed2d95c9cf599adfe5ba2c8ffbdb"), looks := true }, kinds := [], alts := [], laidByText := true, laidKinds := [.data], laidTests := true, laidLooks := .later }
def FrameCutUptoCardSaid : Prop := Claim7.holds Tryd.pinned (.plain (OpenSpec.upto frameCutSpec)) frameCutUptoCard

/-- THE SECOND FORM's CARD OF 'selionlaw06.FrameSplits'. -/
def frameSplitsUptoCard : Claim7 := { stood := { row := frameSplitsUptoRow, standIns := [], harness := (true, "afcccc43c0787be25765be06901d9a1841f5ed2d95c9cf599adfe5ba2c8ffbdb"), looks := true }, kinds := [], alts := [], laidByText := true, laidKinds := [.data], laidTests := true, laidLooks := .later }
def FrameSplitsUptoCardSaid : Prop := Claim7.holds Tryd.pinned (.plain (OpenSpec.upto frameSplitsSpec)) frameSplitsUptoCard

/-- THE SECOND FORM's CARD OF 'selionlaw06.FrameJoins'. -/
def frameJoinsUptoCard : Claim7 := { stood := { row := frameJoinsUptoRow, standIns := [], harness := (true, "afcccc43c0787be25765be06901d9a1841f5ed2d95c9cf599adfe5ba2c8ffbdb"), looks := true }, kinds := [], alts := [], laidByText := true, laidKinds := [.data], laidTests := true, laidLooks := .later }
def FrameJoinsUptoCardSaid : Prop := Claim7.holds Tryd.pinned (.plain (OpenSpec.upto frameJoinsSpec)) frameJoinsUptoCard

/-- THE SECOND FORM's CARD OF 'selionlaw07.WalTwo'. -/
def walTwoUptoCard : Claim7 := { stood := { row := walTwoUptoRow, standIns := [], harness := (true, "afcccc43c0787be25765be06901d9a1841f5ed2d95c9cf599adfe5ba2c8ffbdb"), looks := true }, kinds := [], alts := [], laidByText := true, laidKinds := [.data], laidTests := true, laidLooks := .later }
def WalTwoUptoCardSaid : Prop := Claim7.holds Tryd.pinned (.plain (OpenSpec.upto walTwoSpec)) walTwoUptoCard

/-- THE SECOND FORM's CARD OF 'selionlaw07.WalAgain'. -/
def walAgainUptoCard : Claim7 := { stood := { row := walAgainUptoRow, standIns := [], harness := (true, "afcccc43c0787be25765be06901d9a1841f5ed2d95c9cf599adfe5ba2c8ffbdb"), looks := true }, kinds := [], alts := [], laidByText := true, laidKinds := [.data], laidTests := true, laidLooks := .later }
def WalAgainUptoCardSaid : Prop := Claim7.holds Tryd.pinned (.plain (OpenSpec.upto walAgainSpec)) walAgainUptoCard

/-- THE SECOND FORM's CARD OF 'selionlaw07.WalCut'. -/
def walCutUptoCard : Claim7 := { stood := { row := walCutUptoRow, standIns := [], harness := (true, "afcccc43c0787be25765be06901d9a1841f5ed2d95c9cf599adfe5ba2c8ffbdb"), looks := true }, kinds := [], alts := [], laidByText := true, laidKinds := [.data], laidTests := true, laidLooks := .later }
def WalCutUptoCardSaid : Prop := Claim7.holds Tryd.pinned (.plain (OpenSpec.upto walCutSpec)) walCutUptoCard

/-- THE SECOND FORM's CARD OF 'selionlaw07.WalAppends'. -/
def walAppendsUptoCard : Claim7 := { stood := { row := walAppendsUptoRow, standIns := [], harness := (true, "afcccc43c0787be25765be06901d9a1841f5ed2d95c9cf599adfe5ba2c8ffbdb"), looks := true }, kinds := [], alts := [], laidByText := true, laidKinds := [.data], laidTests := true, laidLooks := .later }
def WalAppendsUptoCardSaid : Prop := Claim7.holds Tryd.pinned (.plain (OpenSpec.upto walAppendsSpec)) walAppendsUptoCard

/-- THE SECOND FORM's CARD OF 'selionlaw07.WalClears'. -/
def walClearsUptoCard : Claim7 := { stood := { row := walClearsUptoRow, standIns := [], harness := (true, "afcccc43c0787be25765be06901d9a1841f5ed2d95c9cf599adfe5ba2c8ffbdb"), looks := true }, kinds := [], alts := [], laidByText := true, laidKinds := [.data], laidTests := true, laidLooks := .later }
def WalClearsUptoCardSaid : Prop := Claim7.holds Tryd.pinned (.plain (OpenSpec.upto walClearsSpec)) walClearsUptoCard

/-- THE SECOND FORM's CARD OF 'selionlaw07.WalRaw'. -/
def walRawUptoCard : Claim7 := { stood := { row := walRawUptoRow, standIns := [], harness := (true, "afcccc43c0787be25765be06901d9a1841f5ed2d95c9cf599adfe5ba2c8ffbdb"), looks := true }, kinds := [], alts := [], laidByText := true, laidKinds := [.data], laidTests := true, laidLooks := .later }
def WalRawUptoCardSaid : Prop := Claim7.holds Tryd.pinned (.plain (OpenSpec.upto walRawSpec)) walRawUptoCard
end Rows
end Go.Proofs.YtocgfcboigiigaaDoor
