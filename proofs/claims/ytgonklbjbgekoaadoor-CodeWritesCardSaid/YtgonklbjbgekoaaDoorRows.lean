/-
  NARROWER THAN 'FOR EVERY INPUT', by the rows' own cells (each row's printed sentence says how): DiskApart: laid · CodeApart: laid · CodeSizes: laid · DiskRoom: laid · DiskPlays: laid · DiskSteps: laid · CodeReads: laid · CodeWrites: laid · DiskKeeps: laid · DiskMoves: laid · CodeCut: laid.
  DERIVED. THE GIVEN ROWS OF THIS SEAT. 11 by the template 'for every input the law returns true; each argument reads behind the call as it read before'; 0 by the template 'total and deterministic' (their statements: YtgonklbjbgekoaaDoorTotals.lean).
  GIVEN WITH THE SEED: the statements are not yours to turn. If you find one false, say at which input.
  Laid BY PROGRAM, IN A SANDBOX (cutbox-rows.mjs): the forced cells as the released guide's own fill.sh prints them over the translation 2ac5e1e0fc50a53f… (all of the seat's roots in one cut). By AI agents, Wed Nov 11 2026. No macro, syntax, notation, axiom, sorry.
-/
import Derived.Test.YtgonklbjbgekoaaDoorChecked
import GoSem.Claim
import GoSem.ClaimJoined
import GoSem.ClaimMapViews
import Derived.JoinedTies
import Derived.KernelRfl
namespace Go.Proofs.YtgonklbjbgekoaaDoor
/- THE CELL 'sum', in the pinned program and in every row, IS THE sha256 OF THE DUMP (.gsa) THAT YtgonklbjbgekoaaDoorProg.lean LOADS. Nothing in Lean hashes anything: it is a label: what it is worth is what the hold of that sum in a sandbox is worth. -/
noncomputable def Tryd.pinned : Pinned := { name := "ytgonklbjbgekoaadoor", sum := "2ac5e1e0fc50a53f6c89126435b53f5de348bafec22251cacb3d221a799e4fe5", checked := Tryd.checked }
namespace Rows
def none {H : Type} : Left H := { results := [], args := [] }

/- WHAT THE LISTED PACKAGE-LEVEL VARIABLES READ AS WHEN THE CALL BEGINS. Each datum BY PROGRAM (the guide's laid-datum.mjs) off the statement by which the dump's own 'gosem.cut.vars' lays the variable. In a bare row this is a premise. The card (YtgonklbjbgekoaaDoorCards.lean) ties it to the program's text. -/
def laid_selion_span_none {H : Type} : DataW H := .agg [.lit (.int .u64 1), .lit (.int .u64 0)]
def laid_selion_selionlaw04_names {H : Type} : DataW H := .slice [.lit (.string [97]), .lit (.string [98]), .lit (.string [108, 111, 103]), .lit (.string [])] []

/-- 'selionlaw04.DiskApart': WHATEVER THE INPUT: true; the input reads as it did. -/
def diskApartSpec : ChangeSpec := { name := "diskApart", fn := fun _ => fun
  | [d1, d2] => { results := [.lit (.bool true)], args := [d1, d2] }
  | _ => none }
def diskApartRow : OpenClaim := { program := "ytgonklbjbgekoaadoor", sum := "2ac5e1e0fc50a53f6c89126435b53f5de348bafec22251cacb3d221a799e4fe5", func := "selion/selionlaw04.DiskApart", spec := "diskApart", unfollowed := true, recurses := true, named := ["selion/span.none"], apart := false, laid := [("selion/span.none", laid_selion_span_none)] }
def DiskApartSaid : Prop := diskApartRow.holds Tryd.pinned (OpenSpec.ofChange diskApartSpec)

/-- ITS FALSE NEIGHBOUR: 'it returns false'. Refute it at one input. -/
def diskApartWrong : ChangeSpec := { name := "diskApart", fn := fun _ => fun
  | [d1, d2] => { results := [.lit (.bool false)], args := [d1, d2] }
  | _ => none }
def DiskApartWrongFalsely : Prop := diskApartRow.holds Tryd.pinned (OpenSpec.ofChange diskApartWrong)

/-- 'selionlaw05.CodeApart': WHATEVER THE INPUT: true; the input reads as it did. -/
def codeApartSpec : ChangeSpec := { name := "codeApart", fn := fun _ => fun
  | [d1, d2, d3] => { results := [.lit (.bool true)], args := [d1, d2, d3] }
  | _ => none }
def codeApartRow : OpenClaim := { program := "ytgonklbjbgekoaadoor", sum := "2ac5e1e0fc50a53f6c89126435b53f5de348bafec22251cacb3d221a799e4fe5", func := "selion/selionlaw05.CodeApart", spec := "codeApart", unfollowed := true, recurses := true, named := ["selion/span.none"], apart := false, laid := [("selion/span.none", laid_selion_span_none)] }
def CodeApartSaid : Prop := codeApartRow.holds Tryd.pinned (OpenSpec.ofChange codeApartSpec)

/-- ITS FALSE NEIGHBOUR: 'it returns false'. Refute it at one input. -/
def codeApartWrong : ChangeSpec := { name := "codeApart", fn := fun _ => fun
  | [d1, d2, d3] => { results := [.lit (.bool false)], args := [d1, d2, d3] }
  | _ => none }
def CodeApartWrongFalsely : Prop := codeApartRow.holds Tryd.pinned (OpenSpec.ofChange codeApartWrong)

/-- 'selionlaw05.CodeSizes': WHATEVER THE INPUT: true; the input reads as it did. -/
def codeSizesSpec : ChangeSpec := { name := "codeSizes", fn := fun _ => fun
  | [d1, d2, d3] => { results := [.lit (.bool true)], args := [d1, d2, d3] }
  | _ => none }
def codeSizesRow : OpenClaim := { program := "ytgonklbjbgekoaadoor", sum := "2ac5e1e0fc50a53f6c89126435b53f5de348bafec22251cacb3d221a799e4fe5", func := "selion/selionlaw05.CodeSizes", spec := "codeSizes", unfollowed := true, recurses := true, named := ["selion/span.none"], apart := false, laid := [("selion/span.none", laid_selion_span_none)] }
def CodeSizesSaid : Prop := codeSizesRow.holds Tryd.pinned (OpenSpec.ofChange codeSizesSpec)

/-- ITS FALSE NEIGHBOUR: 'it returns false'. Refute it at one input. -/
def codeSizesWrong : ChangeSpec := { name := "codeSizes", fn := fun _ => fun
  | [d1, d2, d3] => { results := [.lit (.bool false)], args := [d1, d2, d3] }
  | _ => none }
def CodeSizesWrongFalsely : Prop := codeSizesRow.holds Tryd.pinned (OpenSpec.ofChange codeSizesWrong)

/-- 'selionlaw04.DiskRoom': WHATEVER THE INPUT: true; the input reads as it did. -/
def diskRoomSpec : ChangeSpec := { name := "diskRoom", fn := fun _ => fun
  | [d1, d2, d3] => { results := [.lit (.bool true)], args := [d1, d2, d3] }
  | _ => none }
def diskRoomRow : OpenClaim := { program := "ytgonklbjbgekoaadoor", sum := "2ac5e1e0fc50a53f6c89126435b53f5de348bafec22251cacb3d221a799e4fe5", func := "selion/selionlaw04.DiskRoom", spec := "diskRoom", unfollowed := true, recurses := true, named := ["selion/span.none"], apart := false, laid := [("selion/span.none", laid_selion_span_none)] }
def DiskRoomSaid : Prop := diskRoomRow.holds Tryd.pinned (OpenSpec.ofChange diskRoomSpec)

/-- ITS FALSE NEIGHBOUR: 'it returns false'. Refute it at one input. -/
def diskRoomWrong : ChangeSpec := { name := "diskRoom", fn := fun _ => fun
  | [d1, d2, d3] => { results := [.lit (.bool false)], args := [d1, d2, d3] }
  | _ => none }
def DiskRoomWrongFalsely : Prop := diskRoomRow.holds Tryd.pinned (OpenSpec.ofChange diskRoomWrong)

/-- 'selionlaw04.DiskPlays': WHATEVER THE INPUT: true; the input reads as it did. -/
def diskPlaysSpec : ChangeSpec := { name := "diskPlays", fn := fun _ => fun
  | [d1, d2] => { results := [.lit (.bool true)], args := [d1, d2] }
  | _ => none }
def diskPlaysRow : OpenClaim := { program := "ytgonklbjbgekoaadoor", sum := "2ac5e1e0fc50a53f6c89126435b53f5de348bafec22251cacb3d221a799e4fe5", func := "selion/selionlaw04.DiskPlays", spec := "diskPlays", unfollowed := true, recurses := true, named := ["selion/span.none", "selion/selionlaw04.names"], apart := false, laid := [("selion/span.none", laid_selion_span_none), ("selion/selionlaw04.names", laid_selion_selionlaw04_names)] }
def DiskPlaysSaid : Prop := diskPlaysRow.holds Tryd.pinned (OpenSpec.ofChange diskPlaysSpec)

/-- ITS FALSE NEIGHBOUR: 'it returns false'. Refute it at one input. -/
def diskPlaysWrong : ChangeSpec := { name := "diskPlays", fn := fun _ => fun
  | [d1, d2] => { results := [.lit (.bool false)], args := [d1, d2] }
  | _ => none }
def DiskPlaysWrongFalsely : Prop := diskPlaysRow.holds Tryd.pinned (OpenSpec.ofChange diskPlaysWrong)

/-- 'selionlaw04.DiskSteps': WHATEVER THE INPUT: true; the input reads as it did. -/
def diskStepsSpec : ChangeSpec := { name := "diskSteps", fn := fun _ => fun
  | [d1, d2] => { results := [.lit (.bool true)], args := [d1, d2] }
  | _ => none }
def diskStepsRow : OpenClaim := { program := "ytgonklbjbgekoaadoor", sum := "2ac5e1e0fc50a53f6c89126435b53f5de348bafec22251cacb3d221a799e4fe5", func := "selion/selionlaw04.DiskSteps", spec := "diskSteps", unfollowed := true, recurses := true, named := ["selion/selionlaw04.names", "selion/span.none"], apart := false, laid := [("selion/span.none", laid_selion_span_none), ("selion/selionlaw04.names", laid_selion_selionlaw04_names)] }
def DiskStepsSaid : Prop := diskStepsRow.holds Tryd.pinned (OpenSpec.ofChange diskStepsSpec)

/-- ITS FALSE NEIGHBOUR: 'it returns false'. Refute it at one input. -/
def diskStepsWrong : ChangeSpec := { name := "diskSteps", fn := fun _ => fun
  | [d1, d2] => { results := [.lit (.bool false)], args := [d1, d2] }
  | _ => none }
def DiskStepsWrongFalsely : Prop := diskStepsRow.holds Tryd.pinned (OpenSpec.ofChange diskStepsWrong)

/-- 'selionlaw05.CodeReads': WHATEVER THE INPUT: true; the input reads as it did. -/
def codeReadsSpec : ChangeSpec := { name := "codeReads", fn := fun _ => fun
  | [d1, d2, d3] => { results := [.lit (.bool true)], args := [d1, d2, d3] }
  | _ => none }
def codeReadsRow : OpenClaim := { program := "ytgonklbjbgekoaadoor", sum := "2ac5e1e0fc50a53f6c89126435b53f5de348bafec22251cacb3d221a799e4fe5", func := "selion/selionlaw05.CodeReads", spec := "codeReads", unfollowed := true, recurses := true, named := ["selion/span.none"], apart := false, laid := [("selion/span.none", laid_selion_span_none)] }
def CodeReadsSaid : Prop := codeReadsRow.holds Tryd.pinned (OpenSpec.ofChange codeReadsSpec)

/-- ITS FALSE NEIGHBOUR: 'it returns false'. Refute it at one input. -/
def codeReadsWrong : ChangeSpec := { name := "codeReads", fn := fun _ => fun
  | [d1, d2, d3] => { results := [.lit (.bool false)], args := [d1, d2, d3] }
  | _ => none }
def CodeReadsWrongFalsely : Prop := codeReadsRow.holds Tryd.pinned (OpenSpec.ofChange codeReadsWrong)

/-- 'selionlaw05.CodeWrites': WHATEVER THE INPUT: true; the input reads as it did. -/
def codeWritesSpec : ChangeSpec := { name := "codeWrites", fn := fun _ => fun
  | [d1, d2] => { results := [.lit (.bool true)], args := [d1, d2] }
  | _ => none }
def codeWritesRow : OpenClaim := { program := "ytgonklbjbgekoaadoor", sum := "2ac5e1e0fc50a53f6c89126435b53f5de348bafec22251cacb3d221a799e4fe5", func := "selion/selionlaw05.CodeWrites", spec := "codeWrites", unfollowed := true, recurses := true, named := ["selion/span.none"], apart := false, laid := [("selion/span.none", laid_selion_span_none)] }
def CodeWritesSaid : Prop := codeWritesRow.holds Tryd.pinned (OpenSpec.ofChange codeWritesSpec)

/-- ITS FALSE NEIGHBOUR: 'it returns false'. Refute it at one input. -/
def codeWritesWrong : ChangeSpec := { name := "codeWrites", fn := fun _ => fun
  | [d1, d2] => { results := [.lit (.bool false)], args := [d1, d2] }
  | _ => none }
def CodeWritesWrongFalsely : Prop := codeWritesRow.holds Tryd.pinned (OpenSpec.ofChange codeWritesWrong)

/-- 'selionlaw04.DiskKeeps': WHATEVER THE INPUT: true; the input reads as it did. -/
def diskKeepsSpec : ChangeSpec := { name := "diskKeeps", fn := fun _ => fun
  | [d1, d2, d3, d4] => { results := [.lit (.bool true)], args := [d1, d2, d3, d4] }
  | _ => none }
def diskKeepsRow : OpenClaim := { program := "ytgonklbjbgekoaadoor", sum := "2ac5e1e0fc50a53f6c89126435b53f5de348bafec22251cacb3d221a799e4fe5", func := "selion/selionlaw04.DiskKeeps", spec := "diskKeeps", unfollowed := true, recurses := true, named := ["selion/span.none"], apart := false, laid := [("selion/span.none", laid_selion_span_none)] }
def DiskKeepsSaid : Prop := diskKeepsRow.holds Tryd.pinned (OpenSpec.ofChange diskKeepsSpec)

/-- ITS FALSE NEIGHBOUR: 'it returns false'. Refute it at one input. -/
def diskKeepsWrong : ChangeSpec := { name := "diskKeeps", fn := fun _ => fun
  | [d1, d2, d3, d4] => { results := [.lit (.bool false)], args := [d1, d2, d3, d4] }
  | _ => none }
def DiskKeepsWrongFalsely : Prop := diskKeepsRow.holds Tryd.pinned (OpenSpec.ofChange diskKeepsWrong)

/-- 'selionlaw04.DiskMoves': WHATEVER THE INPUT: true; the input reads as it did. -/
def diskMovesSpec : ChangeSpec := { name := "diskMoves", fn := fun _ => fun
  | [d1, d2, d3, d4] => { results := [.lit (.bool true)], args := [d1, d2, d3, d4] }
  | _ => none }
def diskMovesRow : OpenClaim := { program := "ytgonklbjbgekoaadoor", sum := "2ac5e1e0fc50a53f6c89126435b53f5de348bafec22251cacb3d221a799e4fe5", func := "selion/selionlaw04.DiskMoves", spec := "diskMoves", unfollowed := true, recurses := true, named := ["selion/span.none"], apart := false, laid := [("selion/span.none", laid_selion_span_none)] }
def DiskMovesSaid : Prop := diskMovesRow.holds Tryd.pinned (OpenSpec.ofChange diskMovesSpec)

/-- ITS FALSE NEIGHBOUR: 'it returns false'. Refute it at one input. -/
def diskMovesWrong : ChangeSpec := { name := "diskMoves", fn := fun _ => fun
  | [d1, d2, d3, d4] => { results := [.lit (.bool false)], args := [d1, d2, d3, d4] }
  | _ => none }
def DiskMovesWrongFalsely : Prop := diskMovesRow.holds Tryd.pinned (OpenSpec.ofChange diskMovesWrong)

/-- 'selionlaw05.CodeCut': WHATEVER THE INPUT: true; the input reads as it did. -/
def codeCutSpec : ChangeSpec := { name := "codeCut", fn := fun _ => fun
  | [d1, d2, d3, d4] => { results := [.lit (.bool true)], args := [d1, d2, d3, d4] }
  | _ => none }
def codeCutRow : OpenClaim := { program := "ytgonklbjbgekoaadoor", sum := "2ac5e1e0fc50a53f6c89126435b53f5de348bafec22251cacb3d221a799e4fe5", func := "selion/selionlaw05.CodeCut", spec := "codeCut", unfollowed := true, recurses := true, named := ["selion/span.none"], apart := false, laid := [("selion/span.none", laid_selion_span_none)] }
def CodeCutSaid : Prop := codeCutRow.holds Tryd.pinned (OpenSpec.ofChange codeCutSpec)

/-- ITS FALSE NEIGHBOUR: 'it returns false'. Refute it at one input. -/
def codeCutWrong : ChangeSpec := { name := "codeCut", fn := fun _ => fun
  | [d1, d2, d3, d4] => { results := [.lit (.bool false)], args := [d1, d2, d3, d4] }
  | _ => none }
def CodeCutWrongFalsely : Prop := codeCutRow.holds Tryd.pinned (OpenSpec.ofChange codeCutWrong)

/- THE SECOND FORM. 'bulk': how many values and letters a reading holds, each counted each time it is reached (what is shared counts as often as it is met; a slice's spare places count too). A statement '..UptoSaid' is the law's where the arguments, and the package variables that the reading takes, are together of bulk at most 1048576: NARROWER than '..Said'. Prove '..Said' where nothing that the law and all that it calls make is longer than what came in: it says more and counts as full. Else prove '..UptoSaid'. A law counts once. -/
mutual
def uptoBulk {H : Type} : DataW H → Nat
  | .lit (.string bytes) => bytes.length + 1
  | .lit _ => 1
  | .nil => 1
  | .ptr d => uptoBulk d + 1
  | .slice elems spare => uptoBulkAll elems + uptoBulkAll spare + 1
  | .agg parts => uptoBulkAll parts + 1
  | .iface _ d => uptoBulk d + 1
  | .map entries => uptoBulkEntries entries + 1
  | .held _ => 1
def uptoBulkAll {H : Type} : List (DataW H) → Nat
  | [] => 0
  | d :: r => uptoBulk d + uptoBulkAll r
def uptoBulkEntries {H : Type} : List (Lit × DataW H) → Nat
  | [] => 0
  | x :: r => uptoBulkEntry x + uptoBulkEntries r
def uptoBulkEntry {H : Type} : Lit × DataW H → Nat
  | (.string bytes, d) => bytes.length + uptoBulk d + 1
  | (_, d) => uptoBulk d + 1
 end
def uptoSmall : (H : Type) → List (DataW H) → Bool := fun _ ds => decide (uptoBulkAll ds ≤ 1048576)
def OpenSpec.upto (s : _root_.Go.ChangeSpec) : _root_.Go.OpenSpec := { _root_.Go.OpenSpec.ofChange s with cond := some uptoSmall }

/-- 'selionlaw04.DiskApart', WHERE WHAT IT READS IS OF BULK AT MOST 1048576: true; the input reads as it did. -/
def diskApartUptoRow : OpenClaim := { program := "ytgonklbjbgekoaadoor", sum := "2ac5e1e0fc50a53f6c89126435b53f5de348bafec22251cacb3d221a799e4fe5", func := "selion/selionlaw04.DiskApart", spec := "diskApart", unfollowed := true, recurses := true, named := ["selion/span.none"], apart := false, laid := [("selion/span.none", laid_selion_span_none)], narrowed := true }
def DiskApartUptoSaid : Prop := diskApartUptoRow.holds Tryd.pinned (OpenSpec.upto diskApartSpec)

/-- 'selionlaw05.CodeApart', WHERE WHAT IT READS IS OF BULK AT MOST 1048576: true; the input reads as it did. -/
def codeApartUptoRow : OpenClaim := { program := "ytgonklbjbgekoaadoor", sum := "2ac5e1e0fc50a53f6c89126435b53f5de348bafec22251cacb3d221a799e4fe5", func := "selion/selionlaw05.CodeApart", spec := "codeApart", unfollowed := true, recurses := true, named := ["selion/span.none"], apart := false, laid := [("selion/span.none", laid_selion_span_none)], narrowed := true }
def CodeApartUptoSaid : Prop := codeApartUptoRow.holds Tryd.pinned (OpenSpec.upto codeApartSpec)

/-- 'selionlaw05.CodeSizes', WHERE WHAT IT READS IS OF BULK AT MOST 1048576: true; the input reads as it did. -/
def codeSizesUptoRow : OpenClaim := { program := "ytgonklbjbgekoaadoor", sum := "2ac5e1e0fc50a53f6c89126435b53f5de348bafec22251cacb3d221a799e4fe5", func := "selion/selionlaw05.CodeSizes", spec := "codeSizes", unfollowed := true, recurses := true, named := ["selion/span.none"], apart := false, laid := [("selion/span.none", laid_selion_span_none)], narrowed := true }
def CodeSizesUptoSaid : Prop := codeSizesUptoRow.holds Tryd.pinned (OpenSpec.upto codeSizesSpec)

/-- 'selionlaw04.DiskRoom', WHERE WHAT IT READS IS OF BULK AT MOST 1048576: true; the input reads as it did. -/
def diskRoomUptoRow : OpenClaim := { program := "ytgonklbjbgekoaadoor", sum := "2ac5e1e0fc50a53f6c89126435b53f5de348bafec22251cacb3d221a799e4fe5", func := "selion/selionlaw04.DiskRoom", spec := "diskRoom", unfollowed := true, recurses := true, named := ["selion/span.none"], apart := false, laid := [("selion/span.none", laid_selion_span_none)], narrowed := true }
def DiskRoomUptoSaid : Prop := diskRoomUptoRow.holds Tryd.pinned (OpenSpec.upto diskRoomSpec)

/-- 'selionlaw04.DiskPlays', WHERE WHAT IT READS IS OF BULK AT MOST 1048576: true; the input reads as it did. -/
def diskPlaysUptoRow : OpenClaim := { program := "ytgonklbjbgekoaadoor", sum := "2ac5e1e0fc50a53f6c89126435b53f5de348bafec22251cacb3d221a799e4fe5", func := "selion/selionlaw04.DiskPlays", spec := "diskPlays", unfollowed := true, recurses := true, named := ["selion/span.none", "selion/selionlaw04.names"], apart := false, laid := [("selion/span.none", laid_selion_span_none), ("selion/selionlaw04.names", laid_selion_selionlaw04_names)], narrowed := true }
def DiskPlaysUptoSaid : Prop := diskPlaysUptoRow.holds Tryd.pinned (OpenSpec.upto diskPlaysSpec)

/-- 'selionlaw04.DiskSteps', WHERE WHAT IT READS IS OF BULK AT MOST 1048576: true; the input reads as it did. -/
def diskStepsUptoRow : OpenClaim := { program := "ytgonklbjbgekoaadoor", sum := "2ac5e1e0fc50a53f6c89126435b53f5de348bafec22251cacb3d221a799e4fe5", func := "selion/selionlaw04.DiskSteps", spec := "diskSteps", unfollowed := true, recurses := true, named := ["selion/selionlaw04.names", "selion/span.none"], apart := false, laid := [("selion/span.none", laid_selion_span_none), ("selion/selionlaw04.names", laid_selion_selionlaw04_names)], narrowed := true }
def DiskStepsUptoSaid : Prop := diskStepsUptoRow.holds Tryd.pinned (OpenSpec.upto diskStepsSpec)

/-- 'selionlaw05.CodeReads', WHERE WHAT IT READS IS OF BULK AT MOST 1048576: true; the input reads as it did. -/
def codeReadsUptoRow : OpenClaim := { program := "ytgonklbjbgekoaadoor", sum := "2ac5e1e0fc50a53f6c89126435b53f5de348bafec22251cacb3d221a799e4fe5", func := "selion/selionlaw05.CodeReads", spec := "codeReads", unfollowed := true, recurses := true, named := ["selion/span.none"], apart := false, laid := [("selion/span.none", laid_selion_span_none)], narrowed := true }
def CodeReadsUptoSaid : Prop := codeReadsUptoRow.holds Tryd.pinned (OpenSpec.upto codeReadsSpec)

/-- 'selionlaw05.CodeWrites', WHERE WHAT IT READS IS OF BULK AT MOST 1048576: true; the input reads as it did. -/
def codeWritesUptoRow : OpenClaim := { program := "ytgonklbjbgekoaadoor", sum := "2ac5e1e0fc50a53f6c89126435b53f5de348bafec22251cacb3d221a799e4fe5", func := "selion/selionlaw05.CodeWrites", spec := "codeWrites", unfollowed := true, recurses := true, named := ["selion/span.none"], apart := false, laid := [("selion/span.none", laid_selion_span_none)], narrowed := true }
def CodeWritesUptoSaid : Prop := codeWritesUptoRow.holds Tryd.pinned (OpenSpec.upto codeWritesSpec)

/-- 'selionlaw04.DiskKeeps', WHERE WHAT IT READS IS OF BULK AT MOST 1048576: true; the input reads as it did. -/
def diskKeepsUptoRow : OpenClaim := { program := "ytgonklbjbgekoaadoor", sum := "2ac5e1e0fc50a53f6c89126435b53f5de348bafec22251cacb3d221a799e4fe5", func := "selion/selionlaw04.DiskKeeps", spec := "diskKeeps", unfollowed := true, recurses := true, named := ["selion/span.none"], apart := false, laid := [("selion/span.none", laid_selion_span_none)], narrowed := true }
def DiskKeepsUptoSaid : Prop := diskKeepsUptoRow.holds Tryd.pinned (OpenSpec.upto diskKeepsSpec)

/-- 'selionlaw04.DiskMoves', WHERE WHAT IT READS IS OF BULK AT MOST 1048576: true; the input reads as it did. -/
def diskMovesUptoRow : OpenClaim := { program := "ytgonklbjbgekoaadoor", sum := "2ac5e1e0fc50a53f6c89126435b53f5de348bafec22251cacb3d221a799e4fe5", func := "selion/selionlaw04.DiskMoves", spec := "diskMoves", unfollowed := true, recurses := true, named := ["selion/span.none"], apart := false, laid := [("selion/span.none", laid_selion_span_none)], narrowed := true }
def DiskMovesUptoSaid : Prop := diskMovesUptoRow.holds Tryd.pinned (OpenSpec.upto diskMovesSpec)

/-- 'selionlaw05.CodeCut', WHERE WHAT IT READS IS OF BULK AT MOST 1048576: true; the input reads as it did. -/
def codeCutUptoRow : OpenClaim := { program := "ytgonklbjbgekoaadoor", sum := "2ac5e1e0fc50a53f6c89126435b53f5de348bafec22251cacb3d221a799e4fe5", func := "selion/selionlaw05.CodeCut", spec := "codeCut", unfollowed := true, recurses := true, named := ["selion/span.none"], apart := false, laid := [("selion/span.none", laid_selion_span_none)], narrowed := true }
def CodeCutUptoSaid : Prop := codeCutUptoRow.holds Tryd.pinned (OpenSpec.upto codeCutSpec)

end Rows
end Go.Proofs.YtgonklbjbgekoaaDoor
