/-
  NARROWER THAN 'FOR EVERY INPUT', by the rows' own cells (each row's printed sentence says how): FrameTurns: laid · FrameApart: laid · FrameSums: laid · FrameCut: laid · FrameSplits: laid · FrameJoins: laid · WalTwo: laid · WalAgain: laid · WalCut: laid · WalAppends: laid · WalClears: laid · WalRaw: laid.
  DERIVED. THE GIVEN ROWS OF THIS SEAT. 12 by the template 'for every input the law returns true; each argument reads behind the call as it read before'; 0 by the template 'total and deterministic' (their statements: YtocgfcboigiigaaDoorTotals.lean).
  GIVEN WITH THE SEED: the statements are not yours to turn. If you find one false, say at which input.
  Laid BY PROGRAM, IN A SANDBOX (cutbox-rows.mjs): the forced cells as the released guide's own fill.sh prints them over the translation c34905f2aac81017… (all of the seat's roots in one cut). By AI agents, Wed Nov 11 2026. No macro, syntax, notation, axiom, sorry.
-/
import Derived.Test.YtocgfcboigiigaaDoorChecked
import GoSem.Claim
import GoSem.ClaimJoined
import GoSem.ClaimMapViews
import Derived.JoinedTies
import Derived.KernelRfl
namespace Go.Proofs.YtocgfcboigiigaaDoor
/- THE CELL 'sum', in the pinned program and in every row, IS THE sha256 OF THE DUMP (.gsa) THAT YtocgfcboigiigaaDoorProg.lean LOADS. Nothing in Lean hashes anything: it is a label: what it is worth is what the hold of that sum in a sandbox is worth. -/
noncomputable def Tryd.pinned : Pinned := { name := "ytocgfcboigiigaadoor", sum := "c34905f2aac81017f5f63e9b9cac1d8a4ce07a5ef9fa0550fdc0f3bea607095a", checked := Tryd.checked }
namespace Rows
def none {H : Type} : Left H := { results := [], args := [] }

/- WHAT THE LISTED PACKAGE-LEVEL VARIABLES READ AS WHEN THE CALL BEGINS. Each datum BY PROGRAM (the guide's laid-datum.mjs) off the statement by which the dump's own 'gosem.cut.vars' lays the variable. In a bare row this is a premise. The card (YtocgfcboigiigaaDoorCards.lean) ties it to the program's text. -/
def laid_selion_span_none {H : Type} : DataW H := .agg [.lit (.int .u64 1), .lit (.int .u64 0)]

/-- 'selionlaw06.FrameTurns': WHATEVER THE INPUT: true; the input reads as it did. -/
def frameTurnsSpec : ChangeSpec := { name := "frameTurns", fn := fun _ => fun
  | [d1, d2] => { results := [.lit (.bool true)], args := [d1, d2] }
  | _ => none }
def frameTurnsRow : OpenClaim := { program := "ytocgfcboigiigaadoor", sum := "c34905f2aac81017f5f63e9b9cac1d8a4ce07a5ef9fa0550fdc0f3bea607095a", func := "selion/selionlaw06.FrameTurns", spec := "frameTurns", unfollowed := true, recurses := true, named := ["selion/span.none"], apart := false, laid := [("selion/span.none", laid_selion_span_none)] }
def FrameTurnsSaid : Prop := frameTurnsRow.holds Tryd.pinned (OpenSpec.ofChange frameTurnsSpec)

/-- ITS FALSE NEIGHBOUR: 'it returns false'. Refute it at one input. -/
def frameTurnsWrong : ChangeSpec := { name := "frameTurns", fn := fun _ => fun
  | [d1, d2] => { results := [.lit (.bool false)], args := [d1, d2] }
  | _ => none }
def FrameTurnsWrongFalsely : Prop := frameTurnsRow.holds Tryd.pinned (OpenSpec.ofChange frameTurnsWrong)

/-- 'selionlaw06.FrameApart': WHATEVER THE INPUT: true; the input reads as it did. -/
def frameApartSpec : ChangeSpec := { name := "frameApart", fn := fun _ => fun
  | [d1, d2] => { results := [.lit (.bool true)], args := [d1, d2] }
  | _ => none }
def frameApartRow : OpenClaim := { program := "ytocgfcboigiigaadoor", sum := "c34905f2aac81017f5f63e9b9cac1d8a4ce07a5ef9fa0550fdc0f3bea607095a", func := "selion/selionlaw06.FrameApart", spec := "frameApart", unfollowed := true, recurses := true, named := ["selion/span.none"], apart := false, laid := [("selion/span.none", laid_selion_span_none)] }
def FrameApartSaid : Prop := frameApartRow.holds Tryd.pinned (OpenSpec.ofChange frameApartSpec)

/-- ITS FALSE NEIGHBOUR: 'it returns false'. Refute it at one input. -/
def frameApartWrong : ChangeSpec := { name := "frameApart", fn := fun _ => fun
  | [d1, d2] => { results := [.lit (.bool false)], args := [d1, d2] }
  | _ => none }
def FrameApartWrongFalsely : Prop := frameApartRow.holds Tryd.pinned (OpenSpec.ofChange frameApartWrong)

/-- 'selionlaw06.FrameSums': WHATEVER THE INPUT: true; the input reads as it did. -/
def frameSumsSpec : ChangeSpec := { name := "frameSums", fn := fun _ => fun
  | [d] => { results := [.lit (.bool true)], args := [d] }
  | _ => none }
def frameSumsRow : OpenClaim := { program := "ytocgfcboigiigaadoor", sum := "c34905f2aac81017f5f63e9b9cac1d8a4ce07a5ef9fa0550fdc0f3bea607095a", func := "selion/selionlaw06.FrameSums", spec := "frameSums", unfollowed := true, recurses := true, named := ["selion/span.none"], apart := false, laid := [("selion/span.none", laid_selion_span_none)] }
def FrameSumsSaid : Prop := frameSumsRow.holds Tryd.pinned (OpenSpec.ofChange frameSumsSpec)

/-- ITS FALSE NEIGHBOUR: 'it returns false'. Refute it at one input. -/
def frameSumsWrong : ChangeSpec := { name := "frameSums", fn := fun _ => fun
  | [d] => { results := [.lit (.bool false)], args := [d] }
  | _ => none }
def FrameSumsWrongFalsely : Prop := frameSumsRow.holds Tryd.pinned (OpenSpec.ofChange frameSumsWrong)

/-- 'selionlaw06.FrameCut': WHATEVER THE INPUT: true; the input reads as it did. -/
def frameCutSpec : ChangeSpec := { name := "frameCut", fn := fun _ => fun
  | [d1, d2] => { results := [.lit (.bool true)], args := [d1, d2] }
  | _ => none }
def frameCutRow : OpenClaim := { program := "ytocgfcboigiigaadoor", sum := "c34905f2aac81017f5f63e9b9cac1d8a4ce07a5ef9fa0550fdc0f3bea607095a", func := "selion/selionlaw06.FrameCut", spec := "frameCut", unfollowed := true, recurses := true, named := ["selion/span.none"], apart := false, laid := [("selion/span.none", laid_selion_span_none)] }
def FrameCutSaid : Prop := frameCutRow.holds Tryd.pinned (OpenSpec.ofChange frameCutSpec)

/-- ITS FALSE NEIGHBOUR: 'it returns false'. Refute it at one input. -/
def frameCutWrong : ChangeSpec := { name := "frameCut", fn := fun _ => fun
  | [d1, d2] => { results := [.lit (.bool false)], args := [d1, d2] }
  | _ => none }
def FrameCutWrongFalsely : Prop := frameCutRow.holds Tryd.pinned (OpenSpec.ofChange frameCutWrong)

/-- 'selionlaw06.FrameSplits': WHATEVER THE INPUT: true; the input reads as it did. -/
def frameSplitsSpec : ChangeSpec := { name := "frameSplits", fn := fun _ => fun
  | [d1, d2, d3, d4] => { results := [.lit (.bool true)], args := [d1, d2, d3, d4] }
  | _ => none }
def frameSplitsRow : OpenClaim := { program := "ytocgfcboigiigaadoor", sum := "c34905f2aac81017f5f63e9b9cac1d8a4ce07a5ef9fa0550fdc0f3bea607095a", func := "selion/selionlaw06.FrameSplits", spec := "frameSplits", unfollowed := true, recurses := true, named := ["selion/span.none"], apart := false, laid := [("selion/span.none", laid_selion_span_none)] }
def FrameSplitsSaid : Prop := frameSplitsRow.holds Tryd.pinned (OpenSpec.ofChange frameSplitsSpec)

/-- ITS FALSE NEIGHBOUR: 'it returns false'. Refute it at one input. -/
def frameSplitsWrong : ChangeSpec := { name := "frameSplits", fn := fun _ => fun
  | [d1, d2, d3, d4] => { results := [.lit (.bool false)], args := [d1, d2, d3, d4] }
  | _ => none }
def FrameSplitsWrongFalsely : Prop := frameSplitsRow.holds Tryd.pinned (OpenSpec.ofChange frameSplitsWrong)

/-- 'selionlaw06.FrameJoins': WHATEVER THE INPUT: true; the input reads as it did. -/
def frameJoinsSpec : ChangeSpec := { name := "frameJoins", fn := fun _ => fun
  | [d1, d2] => { results := [.lit (.bool true)], args := [d1, d2] }
  | _ => none }
def frameJoinsRow : OpenClaim := { program := "ytocgfcboigiigaadoor", sum := "c34905f2aac81017f5f63e9b9cac1d8a4ce07a5ef9fa0550fdc0f3bea607095a", func := "selion/selionlaw06.FrameJoins", spec := "frameJoins", unfollowed := true, recurses := true, named := ["selion/span.none"], apart := false, laid := [("selion/span.none", laid_selion_span_none)] }
def FrameJoinsSaid : Prop := frameJoinsRow.holds Tryd.pinned (OpenSpec.ofChange frameJoinsSpec)

/-- ITS FALSE NEIGHBOUR: 'it returns false'. Refute it at one input. -/
def frameJoinsWrong : ChangeSpec := { name := "frameJoins", fn := fun _ => fun
  | [d1, d2] => { results := [.lit (.bool false)], args := [d1, d2] }
  | _ => none }
def FrameJoinsWrongFalsely : Prop := frameJoinsRow.holds Tryd.pinned (OpenSpec.ofChange frameJoinsWrong)

/-- 'selionlaw07.WalTwo': WHATEVER THE INPUT: true; the input reads as it did. -/
def walTwoSpec : ChangeSpec := { name := "walTwo", fn := fun _ => fun
  | [d1, d2] => { results := [.lit (.bool true)], args := [d1, d2] }
  | _ => none }
def walTwoRow : OpenClaim := { program := "ytocgfcboigiigaadoor", sum := "c34905f2aac81017f5f63e9b9cac1d8a4ce07a5ef9fa0550fdc0f3bea607095a", func := "selion/selionlaw07.WalTwo", spec := "walTwo", unfollowed := true, recurses := true, named := ["selion/span.none"], apart := false, laid := [("selion/span.none", laid_selion_span_none)] }
def WalTwoSaid : Prop := walTwoRow.holds Tryd.pinned (OpenSpec.ofChange walTwoSpec)

/-- ITS FALSE NEIGHBOUR: 'it returns false'. Refute it at one input. -/
def walTwoWrong : ChangeSpec := { name := "walTwo", fn := fun _ => fun
  | [d1, d2] => { results := [.lit (.bool false)], args := [d1, d2] }
  | _ => none }
def WalTwoWrongFalsely : Prop := walTwoRow.holds Tryd.pinned (OpenSpec.ofChange walTwoWrong)

/-- 'selionlaw07.WalAgain': WHATEVER THE INPUT: true; the input reads as it did. -/
def walAgainSpec : ChangeSpec := { name := "walAgain", fn := fun _ => fun
  | [d1, d2, d3] => { results := [.lit (.bool true)], args := [d1, d2, d3] }
  | _ => none }
def walAgainRow : OpenClaim := { program := "ytocgfcboigiigaadoor", sum := "c34905f2aac81017f5f63e9b9cac1d8a4ce07a5ef9fa0550fdc0f3bea607095a", func := "selion/selionlaw07.WalAgain", spec := "walAgain", unfollowed := true, recurses := true, named := ["selion/span.none"], apart := false, laid := [("selion/span.none", laid_selion_span_none)] }
def WalAgainSaid : Prop := walAgainRow.holds Tryd.pinned (OpenSpec.ofChange walAgainSpec)

/-- ITS FALSE NEIGHBOUR: 'it returns false'. Refute it at one input. -/
def walAgainWrong : ChangeSpec := { name := "walAgain", fn := fun _ => fun
  | [d1, d2, d3] => { results := [.lit (.bool false)], args := [d1, d2, d3] }
  | _ => none }
def WalAgainWrongFalsely : Prop := walAgainRow.holds Tryd.pinned (OpenSpec.ofChange walAgainWrong)

/-- 'selionlaw07.WalCut': WHATEVER THE INPUT: true; the input reads as it did. -/
def walCutSpec : ChangeSpec := { name := "walCut", fn := fun _ => fun
  | [d1, d2, d3, d4, d5] => { results := [.lit (.bool true)], args := [d1, d2, d3, d4, d5] }
  | _ => none }
def walCutRow : OpenClaim := { program := "ytocgfcboigiigaadoor", sum := "c34905f2aac81017f5f63e9b9cac1d8a4ce07a5ef9fa0550fdc0f3bea607095a", func := "selion/selionlaw07.WalCut", spec := "walCut", unfollowed := true, recurses := true, named := ["selion/span.none"], apart := false, laid := [("selion/span.none", laid_selion_span_none)] }
def WalCutSaid : Prop := walCutRow.holds Tryd.pinned (OpenSpec.ofChange walCutSpec)

/-- ITS FALSE NEIGHBOUR: 'it returns false'. Refute it at one input. -/
def walCutWrong : ChangeSpec := { name := "walCut", fn := fun _ => fun
  | [d1, d2, d3, d4, d5] => { results := [.lit (.bool false)], args := [d1, d2, d3, d4, d5] }
  | _ => none }
def WalCutWrongFalsely : Prop := walCutRow.holds Tryd.pinned (OpenSpec.ofChange walCutWrong)

/-- 'selionlaw07.WalAppends': WHATEVER THE INPUT: true; the input reads as it did. -/
def walAppendsSpec : ChangeSpec := { name := "walAppends", fn := fun _ => fun
  | [d1, d2, d3] => { results := [.lit (.bool true)], args := [d1, d2, d3] }
  | _ => none }
def walAppendsRow : OpenClaim := { program := "ytocgfcboigiigaadoor", sum := "c34905f2aac81017f5f63e9b9cac1d8a4ce07a5ef9fa0550fdc0f3bea607095a", func := "selion/selionlaw07.WalAppends", spec := "walAppends", unfollowed := true, recurses := true, named := ["selion/span.none"], apart := false, laid := [("selion/span.none", laid_selion_span_none)] }
def WalAppendsSaid : Prop := walAppendsRow.holds Tryd.pinned (OpenSpec.ofChange walAppendsSpec)

/-- ITS FALSE NEIGHBOUR: 'it returns false'. Refute it at one input. -/
def walAppendsWrong : ChangeSpec := { name := "walAppends", fn := fun _ => fun
  | [d1, d2, d3] => { results := [.lit (.bool false)], args := [d1, d2, d3] }
  | _ => none }
def WalAppendsWrongFalsely : Prop := walAppendsRow.holds Tryd.pinned (OpenSpec.ofChange walAppendsWrong)

/-- 'selionlaw07.WalClears': WHATEVER THE INPUT: true; the input reads as it did. -/
def walClearsSpec : ChangeSpec := { name := "walClears", fn := fun _ => fun
  | [d1, d2, d3] => { results := [.lit (.bool true)], args := [d1, d2, d3] }
  | _ => none }
def walClearsRow : OpenClaim := { program := "ytocgfcboigiigaadoor", sum := "c34905f2aac81017f5f63e9b9cac1d8a4ce07a5ef9fa0550fdc0f3bea607095a", func := "selion/selionlaw07.WalClears", spec := "walClears", unfollowed := true, recurses := true, named := ["selion/span.none"], apart := false, laid := [("selion/span.none", laid_selion_span_none)] }
def WalClearsSaid : Prop := walClearsRow.holds Tryd.pinned (OpenSpec.ofChange walClearsSpec)

/-- ITS FALSE NEIGHBOUR: 'it returns false'. Refute it at one input. -/
def walClearsWrong : ChangeSpec := { name := "walClears", fn := fun _ => fun
  | [d1, d2, d3] => { results := [.lit (.bool false)], args := [d1, d2, d3] }
  | _ => none }
def WalClearsWrongFalsely : Prop := walClearsRow.holds Tryd.pinned (OpenSpec.ofChange walClearsWrong)

/-- 'selionlaw07.WalRaw': WHATEVER THE INPUT: true; the input reads as it did. -/
def walRawSpec : ChangeSpec := { name := "walRaw", fn := fun _ => fun
  | [d1, d2, d3, d4, d5] => { results := [.lit (.bool true)], args := [d1, d2, d3, d4, d5] }
  | _ => none }
def walRawRow : OpenClaim := { program := "ytocgfcboigiigaadoor", sum := "c34905f2aac81017f5f63e9b9cac1d8a4ce07a5ef9fa0550fdc0f3bea607095a", func := "selion/selionlaw07.WalRaw", spec := "walRaw", unfollowed := true, recurses := true, named := ["selion/span.none"], apart := false, laid := [("selion/span.none", laid_selion_span_none)] }
def WalRawSaid : Prop := walRawRow.holds Tryd.pinned (OpenSpec.ofChange walRawSpec)

/-- ITS FALSE NEIGHBOUR: 'it returns false'. Refute it at one input. -/
def walRawWrong : ChangeSpec := { name := "walRaw", fn := fun _ => fun
  | [d1, d2, d3, d4, d5] => { results := [.lit (.bool false)], args := [d1, d2, d3, d4, d5] }
  | _ => none }
def WalRawWrongFalsely : Prop := walRawRow.holds Tryd.pinned (OpenSpec.ofChange walRawWrong)

/- THE SECOND FORM. 'bulk': how many values and letters a reading holds, each counted each time it is reached (what is shared counts as often as it is met; a slice's spare places count too). A statement '..UptoSaid' is the law's where the arguments, and the package variables that the reading takes, are together of bulk at most 1048576: NARROWER than '..Said'. Prove '..Said' where nothing that the law and all that it calls make is longer than what came in: it says more and counts as full. Else prove '..UptoSaid'. A law counts once. -/
mutual
def uptoBulk {H : Type} : DataW H → Nat
  | .lit (.string bytes) => bytes.length + 1
  | .lit _ => 1
  | .nil => 1
  | .ptr d => uptoBulk d + 1
  | .slice elems spare => uptoBulkAll elems + uptoBulkAll spare + 1
  | .agg parts => uptoBulkAll parts + 1
  | .iface _ d => uptoBulk d + 1
  | .map entries => uptoBulkEntries entries + 1
  | .held _ => 1
def uptoBulkAll {H : Type} : List (DataW H) → Nat
  | [] => 0
  | d :: r => uptoBulk d + uptoBulkAll r
def uptoBulkEntries {H : Type} : List (Lit × DataW H) → Nat
  | [] => 0
  | x :: r => uptoBulkEntry x + uptoBulkEntries r
def uptoBulkEntry {H : Type} : Lit × DataW H → Nat
  | (.string bytes, d) => bytes.length + uptoBulk d + 1
  | (_, d) => uptoBulk d + 1
 end
def uptoSmall : (H : Type) → List (DataW H) → Bool := fun _ ds => decide (uptoBulkAll ds ≤ 1048576)
def OpenSpec.upto (s : _root_.Go.ChangeSpec) : _root_.Go.OpenSpec := { _root_.Go.OpenSpec.ofChange s with cond := some uptoSmall }

/-- 'selionlaw06.FrameTurns', WHERE WHAT IT READS IS OF BULK AT MOST 1048576: true; the input reads as it did. -/
def frameTurnsUptoRow : OpenClaim := { program := "ytocgfcboigiigaadoor", sum := "c34905f2aac81017f5f63e9b9cac1d8a4ce07a5ef9fa0550fdc0f3bea607095a", func := "selion/selionlaw06.FrameTurns", spec := "frameTurns", unfollowed := true, recurses := true, named := ["selion/span.none"], apart := false, laid := [("selion/span.none", laid_selion_span_none)], narrowed := true }
def FrameTurnsUptoSaid : Prop := frameTurnsUptoRow.holds Tryd.pinned (OpenSpec.upto frameTurnsSpec)

/-- 'selionlaw06.FrameApart', WHERE WHAT IT READS IS OF BULK AT MOST 1048576: true; the input reads as it did. -/
def frameApartUptoRow : OpenClaim := { program := "ytocgfcboigiigaadoor", sum := "c34905f2aac81017f5f63e9b9cac1d8a4ce07a5ef9fa0550fdc0f3bea607095a", func := "selion/selionlaw06.FrameApart", spec := "frameApart", unfollowed := true, recurses := true, named := ["selion/span.none"], apart := false, laid := [("selion/span.none", laid_selion_span_none)], narrowed := true }
def FrameApartUptoSaid : Prop := frameApartUptoRow.holds Tryd.pinned (OpenSpec.upto frameApartSpec)

/-- 'selionlaw06.FrameSums', WHERE WHAT IT READS IS OF BULK AT MOST 1048576: true; the input reads as it did. -/
def frameSumsUptoRow : OpenClaim := { program := "ytocgfcboigiigaadoor", sum := "c34905f2aac81017f5f63e9b9cac1d8a4ce07a5ef9fa0550fdc0f3bea607095a", func := "selion/selionlaw06.FrameSums", spec := "frameSums", unfollowed := true, recurses := true, named := ["selion/span.none"], apart := false, laid := [("selion/span.none", laid_selion_span_none)], narrowed := true }
def FrameSumsUptoSaid : Prop := frameSumsUptoRow.holds Tryd.pinned (OpenSpec.upto frameSumsSpec)

/-- 'selionlaw06.FrameCut', WHERE WHAT IT READS IS OF BULK AT MOST 1048576: true; the input reads as it did. -/
def frameCutUptoRow : OpenClaim := { program := "ytocgfcboigiigaadoor", sum := "c34905f2aac81017f5f63e9b9cac1d8a4ce07a5ef9fa0550fdc0f3bea607095a", func := "selion/selionlaw06.FrameCut", spec := "frameCut", unfollowed := true, recurses := true, named := ["selion/span.none"], apart := false, laid := [("selion/span.none", laid_selion_span_none)], narrowed := true }
def FrameCutUptoSaid : Prop := frameCutUptoRow.holds Tryd.pinned (OpenSpec.upto frameCutSpec)

/-- 'selionlaw06.FrameSplits', WHERE WHAT IT READS IS OF BULK AT MOST 1048576: true; the input reads as it did. -/
def frameSplitsUptoRow : OpenClaim := { program := "ytocgfcboigiigaadoor", sum := "c34905f2aac81017f5f63e9b9cac1d8a4ce07a5ef9fa0550fdc0f3bea607095a", func := "selion/selionlaw06.FrameSplits", spec := "frameSplits", unfollowed := true, recurses := true, named := ["selion/span.none"], apart := false, laid := [("selion/span.none", laid_selion_span_none)], narrowed := true }
def FrameSplitsUptoSaid : Prop := frameSplitsUptoRow.holds Tryd.pinned (OpenSpec.upto frameSplitsSpec)

/-- 'selionlaw06.FrameJoins', WHERE WHAT IT READS IS OF BULK AT MOST 1048576: true; the input reads as it did. -/
def frameJoinsUptoRow : OpenClaim := { program := "ytocgfcboigiigaadoor", sum := "c34905f2aac81017f5f63e9b9cac1d8a4ce07a5ef9fa0550fdc0f3bea607095a", func := "selion/selionlaw06.FrameJoins", spec := "frameJoins", unfollowed := true, recurses := true, named := ["selion/span.none"], apart := false, laid := [("selion/span.none", laid_selion_span_none)], narrowed := true }
def FrameJoinsUptoSaid : Prop := frameJoinsUptoRow.holds Tryd.pinned (OpenSpec.upto frameJoinsSpec)

/-- 'selionlaw07.WalTwo', WHERE WHAT IT READS IS OF BULK AT MOST 1048576: true; the input reads as it did. -/
def walTwoUptoRow : OpenClaim := { program := "ytocgfcboigiigaadoor", sum := "c34905f2aac81017f5f63e9b9cac1d8a4ce07a5ef9fa0550fdc0f3bea607095a", func := "selion/selionlaw07.WalTwo", spec := "walTwo", unfollowed := true, recurses := true, named := ["selion/span.none"], apart := false, laid := [("selion/span.none", laid_selion_span_none)], narrowed := true }
def WalTwoUptoSaid : Prop := walTwoUptoRow.holds Tryd.pinned (OpenSpec.upto walTwoSpec)

/-- 'selionlaw07.WalAgain', WHERE WHAT IT READS IS OF BULK AT MOST 1048576: true; the input reads as it did. -/
def walAgainUptoRow : OpenClaim := { program := "ytocgfcboigiigaadoor", sum := "c34905f2aac81017f5f63e9b9cac1d8a4ce07a5ef9fa0550fdc0f3bea607095a", func := "selion/selionlaw07.WalAgain", spec := "walAgain", unfollowed := true, recurses := true, named := ["selion/span.none"], apart := false, laid := [("selion/span.none", laid_selion_span_none)], narrowed := true }
def WalAgainUptoSaid : Prop := walAgainUptoRow.holds Tryd.pinned (OpenSpec.upto walAgainSpec)

/-- 'selionlaw07.WalCut', WHERE WHAT IT READS IS OF BULK AT MOST 1048576: true; the input reads as it did. -/
def walCutUptoRow : OpenClaim := { program := "ytocgfcboigiigaadoor", sum := "c34905f2aac81017f5f63e9b9cac1d8a4ce07a5ef9fa0550fdc0f3bea607095a", func := "selion/selionlaw07.WalCut", spec := "walCut", unfollowed := true, recurses := true, named := ["selion/span.none"], apart := false, laid := [("selion/span.none", laid_selion_span_none)], narrowed := true }
def WalCutUptoSaid : Prop := walCutUptoRow.holds Tryd.pinned (OpenSpec.upto walCutSpec)

/-- 'selionlaw07.WalAppends', WHERE WHAT IT READS IS OF BULK AT MOST 1048576: true; the input reads as it did. -/
def walAppendsUptoRow : OpenClaim := { program := "ytocgfcboigiigaadoor", sum := "c34905f2aac81017f5f63e9b9cac1d8a4ce07a5ef9fa0550fdc0f3bea607095a", func := "selion/selionlaw07.WalAppends", spec := "walAppends", unfollowed := true, recurses := true, named := ["selion/span.none"], apart := false, laid := [("selion/span.none", laid_selion_span_none)], narrowed := true }
def WalAppendsUptoSaid : Prop := walAppendsUptoRow.holds Tryd.pinned (OpenSpec.upto walAppendsSpec)

/-- 'selionlaw07.WalClears', WHERE WHAT IT READS IS OF BULK AT MOST 1048576: true; the input reads as it did. -/
def walClearsUptoRow : OpenClaim := { program := "ytocgfcboigiigaadoor", sum := "c34905f2aac81017f5f63e9b9cac1d8a4ce07a5ef9fa0550fdc0f3bea607095a", func := "selion/selionlaw07.WalClears", spec := "walClears", unfollowed := true, recurses := true, named := ["selion/span.none"], apart := false, laid := [("selion/span.none", laid_selion_span_none)], narrowed := true }
def WalClearsUptoSaid : Prop := walClearsUptoRow.holds Tryd.pinned (OpenSpec.upto walClearsSpec)

/-- 'selionlaw07.WalRaw', WHERE WHAT IT READS IS OF BULK AT MOST 1048576: true; the input reads as it did. -/
def walRawUptoRow : OpenClaim := { program := "ytocgfcboigiigaadoor", sum := "c34905f2aac81017f5f63e9b9cac1d8a4ce07a5ef9fa0550fdc0f3bea607095a", func := "selion/selionlaw07.WalRaw", spec := "walRaw", unfollowed := true, recurses := true, named := ["selion/span.none"], apart := false, laid := [("selion/span.none", laid_selion_span_none)], narrowed := true }
def WalRawUptoSaid : Prop := walRawUptoRow.holds Tryd.pinned (OpenSpec.upto walRawSpec)

end Rows
end Go.Proofs.YtocgfcboigiigaaDoor
