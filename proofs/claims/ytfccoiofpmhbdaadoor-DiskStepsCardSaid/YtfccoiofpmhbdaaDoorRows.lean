/-
  NARROWER THAN 'FOR EVERY INPUT', by the rows' own cells (each row's printed sentence says how): DiskPlays: laid · DiskSteps: laid.
  DERIVED. THE GIVEN ROWS OF THIS SEAT. 2 by the template 'for every input the law returns true; each argument reads behind the call as it read before'; 0 by the template 'total and deterministic' (their statements: YtfccoiofpmhbdaaDoorTotals.lean).
  GIVEN WITH THE SEED: the statements are not yours to turn. If you find one false, say at which input.
  Laid BY PROGRAM, IN A SANDBOX (cutbox-rows.mjs): the forced cells as the released guide's own fill.sh prints them over the translation 755859c93164c590… (all of the seat's roots in one cut). By AI agents, Wed Nov 11 2026. No macro, syntax, notation, axiom, sorry.
-/
import Derived.Test.YtfccoiofpmhbdaaDoorChecked
import GoSem.Claim
import GoSem.ClaimJoined
import GoSem.ClaimMapViews
import Derived.JoinedTies
import Derived.KernelRfl
namespace Go.Proofs.YtfccoiofpmhbdaaDoor
/- THE CELL 'sum', in the pinned program and in every row, IS THE sha256 OF THE DUMP (.gsa) THAT YtfccoiofpmhbdaaDoorProg.lean LOADS. Nothing in Lean hashes anything: it is a label: what it is worth is what the hold of that sum in a sandbox is worth. -/
noncomputable def Tryd.pinned : Pinned := { name := "ytfccoiofpmhbdaadoor", sum := "755859c93164c590cd1ba5c229db473903d6c1851dfac67d1ff5f6ec6e91e44a", checked := Tryd.checked }
namespace Rows
def none {H : Type} : Left H := { results := [], args := [] }

/- WHAT THE LISTED PACKAGE-LEVEL VARIABLES READ AS WHEN THE CALL BEGINS. Each datum BY PROGRAM (the guide's laid-datum.mjs) off the statement by which the dump's own 'gosem.cut.vars' lays the variable. In a bare row this is a premise. The card (YtfccoiofpmhbdaaDoorCards.lean) ties it to the program's text. -/
def laid_selion_span_none {H : Type} : DataW H := .agg [.lit (.int .u64 1), .lit (.int .u64 0)]
def laid_selion_selionlaw04_names {H : Type} : DataW H := .slice [.lit (.string [97]), .lit (.string [98]), .lit (.string [108, 111, 103]), .lit (.string [])] []

/-- 'selionlaw04.DiskPlays': WHATEVER THE INPUT: true; the input reads as it did. -/
def diskPlaysSpec : ChangeSpec := { name := "diskPlays", fn := fun _ => fun
  | [d1, d2] => { results := [.lit (.bool true)], args := [d1, d2] }
  | _ => none }
def diskPlaysRow : OpenClaim := { program := "ytfccoiofpmhbdaadoor", sum := "755859c93164c590cd1ba5c229db473903d6c1851dfac67d1ff5f6ec6e91e44a", func := "selion/selionlaw04.DiskPlays", spec := "diskPlays", unfollowed := true, recurses := true, named := ["selion/span.none", "selion/selionlaw04.names"], apart := false, laid := [("selion/span.none", laid_selion_span_none), ("selion/selionlaw04.names", laid_selion_selionlaw04_names)] }
def DiskPlaysSaid : Prop := diskPlaysRow.holds Tryd.pinned (OpenSpec.ofChange diskPlaysSpec)

/-- ITS FALSE NEIGHBOUR: 'it returns false'. Refute it at one input. -/
def diskPlaysWrong : ChangeSpec := { name := "diskPlays", fn := fun _ => fun
  | [d1, d2] => { results := [.lit (.bool false)], args := [d1, d2] }
  | _ => none }
def DiskPlaysWrongFalsely : Prop := diskPlaysRow.holds Tryd.pinned (OpenSpec.ofChange diskPlaysWrong)

/-- 'selionlaw04.DiskSteps': WHATEVER THE INPUT: true; the input reads as it did. -/
def diskStepsSpec : ChangeSpec := { name := "diskSteps", fn := fun _ => fun
  | [d1, d2] => { results := [.lit (.bool true)], args := [d1, d2] }
  | _ => none }
def diskStepsRow : OpenClaim := { program := "ytfccoiofpmhbdaadoor", sum := "755859c93164c590cd1ba5c229db473903d6c1851dfac67d1ff5f6ec6e91e44a", func := "selion/selionlaw04.DiskSteps", spec := "diskSteps", unfollowed := true, recurses := true, named := ["selion/selionlaw04.names", "selion/span.none"], apart := false, laid := [("selion/span.none", laid_selion_span_none), ("selion/selionlaw04.names", laid_selion_selionlaw04_names)] }
def DiskStepsSaid : Prop := diskStepsRow.holds Tryd.pinned (OpenSpec.ofChange diskStepsSpec)

/-- ITS FALSE NEIGHBOUR: 'it returns false'. Refute it at one input. -/
def diskStepsWrong : ChangeSpec := { name := "diskSteps", fn := fun _ => fun
  | [d1, d2] => { results := [.lit (.bool false)], args := [d1, d2] }
  | _ => none }
def DiskStepsWrongFalsely : Prop := diskStepsRow.holds Tryd.pinned (OpenSpec.ofChange diskStepsWrong)

/- THE SECOND FORM. 'bulk': how many values and letters a reading holds, each counted each time it is reached (what is shared counts as often as it is met; a slice's spare places count too). A statement '..UptoSaid' is the law's where the arguments, and the package variables that the reading takes, are together of bulk at most 1048576: NARROWER than '..Said'. Prove '..Said' where nothing that the law and all that it calls make is longer than what came in: it says more and counts as full. Else prove '..UptoSaid'. A law counts once. -/
mutual
def uptoBulk {H : Type} : DataW H → Nat
  | .lit (.string bytes) => bytes.length + 1
  | .lit _ => 1
  | .nil => 1
  | .ptr d => uptoBulk d + 1
  | .slice elems spare => uptoBulkAll elems + uptoBulkAll spare + 1
  | .agg parts => uptoBulkAll parts + 1
  | .iface _ d => uptoBulk d + 1
  | .map entries => uptoBulkEntries entries + 1
  | .held _ => 1
def uptoBulkAll {H : Type} : List (DataW H) → Nat
  | [] => 0
  | d :: r => uptoBulk d + uptoBulkAll r
def uptoBulkEntries {H : Type} : List (Lit × DataW H) → Nat
  | [] => 0
  | x :: r => uptoBulkEntry x + uptoBulkEntries r
def uptoBulkEntry {H : Type} : Lit × DataW H → Nat
  | (.string bytes, d) => bytes.length + uptoBulk d + 1
  | (_, d) => uptoBulk d + 1
 end
def uptoSmall : (H : Type) → List (DataW H) → Bool := fun _ ds => decide (uptoBulkAll ds ≤ 1048576)
def OpenSpec.upto (s : _root_.Go.ChangeSpec) : _root_.Go.OpenSpec := { _root_.Go.OpenSpec.ofChange s with cond := some uptoSmall }

/-- 'selionlaw04.DiskPlays', WHERE WHAT IT READS IS OF BULK AT MOST 1048576: true; the input reads as it did. -/
def diskPlaysUptoRow : OpenClaim := { program := "ytfccoiofpmhbdaadoor", sum := "755859c93164c590cd1ba5c229db473903d6c1851dfac67d1ff5f6ec6e91e44a", func := "selion/selionlaw04.DiskPlays", spec := "diskPlays", unfollowed := true, recurses := true, named := ["selion/span.none", "selion/selionlaw04.names"], apart := false, laid := [("selion/span.none", laid_selion_span_none), ("selion/selionlaw04.names", laid_selion_selionlaw04_names)], narrowed := true }
def DiskPlaysUptoSaid : Prop := diskPlaysUptoRow.holds Tryd.pinned (OpenSpec.upto diskPlaysSpec)

/-- 'selionlaw04.DiskSteps', WHERE WHAT IT READS IS OF BULK AT MOST 1048576: true; the input reads as it did. -/
def diskStepsUptoRow : OpenClaim := { program := "ytfccoiofpmhbdaadoor", sum := "755859c93164c590cd1ba5c229db473903d6c1851dfac67d1ff5f6ec6e91e44a", func := "selion/selionlaw04.DiskSteps", spec := "diskSteps", unfollowed := true, recurses := true, named := ["selion/selionlaw04.names", "selion/span.none"], apart := false, laid := [("selion/span.none", laid_selion_span_none), ("selion/selionlaw04.names", laid_selion_selionlaw04_names)], narrowed := true }
def DiskStepsUptoSaid : Prop := diskStepsUptoRow.holds Tryd.pinned (OpenSpec.upto diskStepsSpec)

end Rows
end Go.Proofs.YtfccoiofpmhbdaaDoor
