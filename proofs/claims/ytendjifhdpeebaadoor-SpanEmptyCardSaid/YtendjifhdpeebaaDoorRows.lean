/-
  NARROWER THAN 'FOR EVERY INPUT', by the rows' own cells (each row's printed sentence says how): SpanHas: laid · SpanCuts: laid · SpanLess: laid · SpanMeets: laid · SpanParts: laid · SpanEmpty: laid.
  DERIVED. THE GIVEN ROWS OF THIS SEAT. 6 by the template 'for every input the law returns true; each argument reads behind the call as it read before'; 0 by the template 'total and deterministic' (their statements: YtendjifhdpeebaaDoorTotals.lean).
  GIVEN WITH THE SEED: the statements are not yours to turn. If you find one false, say at which input.
  Laid BY PROGRAM, IN A SANDBOX (cutbox-rows.mjs): the forced cells as the released guide's own fill.sh prints them over the translation f8e23d38668acffa… (all of the seat's roots in one cut). By AI agents, Wed Nov 11 2026. No macro, syntax, notation, axiom, sorry.
-/
import Derived.Test.YtendjifhdpeebaaDoorChecked
import GoSem.Claim
import GoSem.ClaimJoined
import GoSem.ClaimMapViews
import Derived.JoinedTies
import Derived.KernelRfl
namespace Go.Proofs.YtendjifhdpeebaaDoor
/- THE CELL 'sum', in the pinned program and in every row, IS THE sha256 OF THE DUMP (.gsa) THAT YtendjifhdpeebaaDoorProg.lean LOADS. Nothing in Lean hashes anything: it is a label: what it is worth is what the hold of that sum in a sandbox is worth. -/
noncomputable def Tryd.pinned : Pinned := { name := "ytendjifhdpeebaadoor", sum := "f8e23d38668acffa5cab8c7d9800009766729907ede15b9519b93a87964b92e1", checked := Tryd.checked }
namespace Rows
def none {H : Type} : Left H := { results := [], args := [] }

/- WHAT THE LISTED PACKAGE-LEVEL VARIABLES READ AS WHEN THE CALL BEGINS. Each datum BY PROGRAM (the guide's laid-datum.mjs) off the statement by which the dump's own 'gosem.cut.vars' lays the variable. In a bare row this is a premise. The card (YtendjifhdpeebaaDoorCards.lean) ties it to the program's text. -/
def laid_selion_span_none {H : Type} : DataW H := .agg [.lit (.int .u64 1), .lit (.int .u64 0)]

/-- 'selionlaw01.SpanHas': WHATEVER THE INPUT: true; the input reads as it did. -/
def spanHasSpec : ChangeSpec := { name := "spanHas", fn := fun _ => fun
  | [d1, d2] => { results := [.lit (.bool true)], args := [d1, d2] }
  | _ => none }
def spanHasRow : OpenClaim := { program := "ytendjifhdpeebaadoor", sum := "f8e23d38668acffa5cab8c7d9800009766729907ede15b9519b93a87964b92e1", func := "selion/selionlaw01.SpanHas", spec := "spanHas", named := ["selion/span.none"], apart := false, laid := [("selion/span.none", laid_selion_span_none)] }
def SpanHasSaid : Prop := spanHasRow.holds Tryd.pinned (OpenSpec.ofChange spanHasSpec)

/-- ITS FALSE NEIGHBOUR: 'it returns false'. Refute it at one input. -/
def spanHasWrong : ChangeSpec := { name := "spanHas", fn := fun _ => fun
  | [d1, d2] => { results := [.lit (.bool false)], args := [d1, d2] }
  | _ => none }
def SpanHasWrongFalsely : Prop := spanHasRow.holds Tryd.pinned (OpenSpec.ofChange spanHasWrong)

/-- 'selionlaw01.SpanCuts': WHATEVER THE INPUT: true; the input reads as it did. -/
def spanCutsSpec : ChangeSpec := { name := "spanCuts", fn := fun _ => fun
  | [d1, d2, d3] => { results := [.lit (.bool true)], args := [d1, d2, d3] }
  | _ => none }
def spanCutsRow : OpenClaim := { program := "ytendjifhdpeebaadoor", sum := "f8e23d38668acffa5cab8c7d9800009766729907ede15b9519b93a87964b92e1", func := "selion/selionlaw01.SpanCuts", spec := "spanCuts", named := ["selion/span.none"], apart := false, laid := [("selion/span.none", laid_selion_span_none)] }
def SpanCutsSaid : Prop := spanCutsRow.holds Tryd.pinned (OpenSpec.ofChange spanCutsSpec)

/-- ITS FALSE NEIGHBOUR: 'it returns false'. Refute it at one input. -/
def spanCutsWrong : ChangeSpec := { name := "spanCuts", fn := fun _ => fun
  | [d1, d2, d3] => { results := [.lit (.bool false)], args := [d1, d2, d3] }
  | _ => none }
def SpanCutsWrongFalsely : Prop := spanCutsRow.holds Tryd.pinned (OpenSpec.ofChange spanCutsWrong)

/-- 'selionlaw01.SpanLess': WHATEVER THE INPUT: true; the input reads as it did. -/
def spanLessSpec : ChangeSpec := { name := "spanLess", fn := fun _ => fun
  | [d1, d2, d3] => { results := [.lit (.bool true)], args := [d1, d2, d3] }
  | _ => none }
def spanLessRow : OpenClaim := { program := "ytendjifhdpeebaadoor", sum := "f8e23d38668acffa5cab8c7d9800009766729907ede15b9519b93a87964b92e1", func := "selion/selionlaw01.SpanLess", spec := "spanLess", named := ["selion/span.none"], apart := false, laid := [("selion/span.none", laid_selion_span_none)] }
def SpanLessSaid : Prop := spanLessRow.holds Tryd.pinned (OpenSpec.ofChange spanLessSpec)

/-- ITS FALSE NEIGHBOUR: 'it returns false'. Refute it at one input. -/
def spanLessWrong : ChangeSpec := { name := "spanLess", fn := fun _ => fun
  | [d1, d2, d3] => { results := [.lit (.bool false)], args := [d1, d2, d3] }
  | _ => none }
def SpanLessWrongFalsely : Prop := spanLessRow.holds Tryd.pinned (OpenSpec.ofChange spanLessWrong)

/-- 'selionlaw01.SpanMeets': WHATEVER THE INPUT: true; the input reads as it did. -/
def spanMeetsSpec : ChangeSpec := { name := "spanMeets", fn := fun _ => fun
  | [d1, d2, d3] => { results := [.lit (.bool true)], args := [d1, d2, d3] }
  | _ => none }
def spanMeetsRow : OpenClaim := { program := "ytendjifhdpeebaadoor", sum := "f8e23d38668acffa5cab8c7d9800009766729907ede15b9519b93a87964b92e1", func := "selion/selionlaw01.SpanMeets", spec := "spanMeets", named := ["selion/span.none"], apart := false, laid := [("selion/span.none", laid_selion_span_none)] }
def SpanMeetsSaid : Prop := spanMeetsRow.holds Tryd.pinned (OpenSpec.ofChange spanMeetsSpec)

/-- ITS FALSE NEIGHBOUR: 'it returns false'. Refute it at one input. -/
def spanMeetsWrong : ChangeSpec := { name := "spanMeets", fn := fun _ => fun
  | [d1, d2, d3] => { results := [.lit (.bool false)], args := [d1, d2, d3] }
  | _ => none }
def SpanMeetsWrongFalsely : Prop := spanMeetsRow.holds Tryd.pinned (OpenSpec.ofChange spanMeetsWrong)

/-- 'selionlaw01.SpanParts': WHATEVER THE INPUT: true; the input reads as it did. -/
def spanPartsSpec : ChangeSpec := { name := "spanParts", fn := fun _ => fun
  | [d1, d2, d3] => { results := [.lit (.bool true)], args := [d1, d2, d3] }
  | _ => none }
def spanPartsRow : OpenClaim := { program := "ytendjifhdpeebaadoor", sum := "f8e23d38668acffa5cab8c7d9800009766729907ede15b9519b93a87964b92e1", func := "selion/selionlaw01.SpanParts", spec := "spanParts", named := ["selion/span.none"], apart := false, laid := [("selion/span.none", laid_selion_span_none)] }
def SpanPartsSaid : Prop := spanPartsRow.holds Tryd.pinned (OpenSpec.ofChange spanPartsSpec)

/-- ITS FALSE NEIGHBOUR: 'it returns false'. Refute it at one input. -/
def spanPartsWrong : ChangeSpec := { name := "spanParts", fn := fun _ => fun
  | [d1, d2, d3] => { results := [.lit (.bool false)], args := [d1, d2, d3] }
  | _ => none }
def SpanPartsWrongFalsely : Prop := spanPartsRow.holds Tryd.pinned (OpenSpec.ofChange spanPartsWrong)

/-- 'selionlaw01.SpanEmpty': WHATEVER THE INPUT: true; the input reads as it did. -/
def spanEmptySpec : ChangeSpec := { name := "spanEmpty", fn := fun _ => fun
  | [d1, d2, d3, d4] => { results := [.lit (.bool true)], args := [d1, d2, d3, d4] }
  | _ => none }
def spanEmptyRow : OpenClaim := { program := "ytendjifhdpeebaadoor", sum := "f8e23d38668acffa5cab8c7d9800009766729907ede15b9519b93a87964b92e1", func := "selion/selionlaw01.SpanEmpty", spec := "spanEmpty", named := ["selion/span.none"], apart := false, laid := [("selion/span.none", laid_selion_span_none)] }
def SpanEmptySaid : Prop := spanEmptyRow.holds Tryd.pinned (OpenSpec.ofChange spanEmptySpec)

/-- ITS FALSE NEIGHBOUR: 'it returns false'. Refute it at one input. -/
def spanEmptyWrong : ChangeSpec := { name := "spanEmpty", fn := fun _ => fun
  | [d1, d2, d3, d4] => { results := [.lit (.bool false)], args := [d1, d2, d3, d4] }
  | _ => none }
def SpanEmptyWrongFalsely : Prop := spanEmptyRow.holds Tryd.pinned (OpenSpec.ofChange spanEmptyWrong)

/- THE SECOND FORM. 'bulk': how many values and letters a reading holds, each counted each time it is reached (what is shared counts as often as it is met; a slice's spare places count too). A statement '..UptoSaid' is the law's where the arguments, and the package variables that the reading takes, are together of bulk at most 1048576: NARROWER than '..Said'. Prove '..Said' where nothing that the law and all that it calls make is longer than what came in: it says more and counts as full. Else prove '..UptoSaid'. A law counts once. -/
mutual
def uptoBulk {H : Type} : DataW H → Nat
  | .lit (.string bytes) => bytes.length + 1
  | .lit _ => 1
  | .nil => 1
  | .ptr d => uptoBulk d + 1
  | .slice elems spare => uptoBulkAll elems + uptoBulkAll spare + 1
  | .agg parts => uptoBulkAll parts + 1
  | .iface _ d => uptoBulk d + 1
  | .map entries => uptoBulkEntries entries + 1
  | .held _ => 1
def uptoBulkAll {H : Type} : List (DataW H) → Nat
  | [] => 0
  | d :: r => uptoBulk d + uptoBulkAll r
def uptoBulkEntries {H : Type} : List (Lit × DataW H) → Nat
  | [] => 0
  | x :: r => uptoBulkEntry x + uptoBulkEntries r
def uptoBulkEntry {H : Type} : Lit × DataW H → Nat
  | (.string bytes, d) => bytes.length + uptoBulk d + 1
  | (_, d) => uptoBulk d + 1
 end
def uptoSmall : (H : Type) → List (DataW H) → Bool := fun _ ds => decide (uptoBulkAll ds ≤ 1048576)
def OpenSpec.upto (s : _root_.Go.ChangeSpec) : _root_.Go.OpenSpec := { _root_.Go.OpenSpec.ofChange s with cond := some uptoSmall }

/-- 'selionlaw01.SpanHas', WHERE WHAT IT READS IS OF BULK AT MOST 1048576: true; the input reads as it did. -/
def spanHasUptoRow : OpenClaim := { program := "ytendjifhdpeebaadoor", sum := "f8e23d38668acffa5cab8c7d9800009766729907ede15b9519b93a87964b92e1", func := "selion/selionlaw01.SpanHas", spec := "spanHas", named := ["selion/span.none"], apart := false, laid := [("selion/span.none", laid_selion_span_none)], narrowed := true }
def SpanHasUptoSaid : Prop := spanHasUptoRow.holds Tryd.pinned (OpenSpec.upto spanHasSpec)

/-- 'selionlaw01.SpanCuts', WHERE WHAT IT READS IS OF BULK AT MOST 1048576: true; the input reads as it did. -/
def spanCutsUptoRow : OpenClaim := { program := "ytendjifhdpeebaadoor", sum := "f8e23d38668acffa5cab8c7d9800009766729907ede15b9519b93a87964b92e1", func := "selion/selionlaw01.SpanCuts", spec := "spanCuts", named := ["selion/span.none"], apart := false, laid := [("selion/span.none", laid_selion_span_none)], narrowed := true }
def SpanCutsUptoSaid : Prop := spanCutsUptoRow.holds Tryd.pinned (OpenSpec.upto spanCutsSpec)

/-- 'selionlaw01.SpanLess', WHERE WHAT IT READS IS OF BULK AT MOST 1048576: true; the input reads as it did. -/
def spanLessUptoRow : OpenClaim := { program := "ytendjifhdpeebaadoor", sum := "f8e23d38668acffa5cab8c7d9800009766729907ede15b9519b93a87964b92e1", func := "selion/selionlaw01.SpanLess", spec := "spanLess", named := ["selion/span.none"], apart := false, laid := [("selion/span.none", laid_selion_span_none)], narrowed := true }
def SpanLessUptoSaid : Prop := spanLessUptoRow.holds Tryd.pinned (OpenSpec.upto spanLessSpec)

/-- 'selionlaw01.SpanMeets', WHERE WHAT IT READS IS OF BULK AT MOST 1048576: true; the input reads as it did. -/
def spanMeetsUptoRow : OpenClaim := { program := "ytendjifhdpeebaadoor", sum := "f8e23d38668acffa5cab8c7d9800009766729907ede15b9519b93a87964b92e1", func := "selion/selionlaw01.SpanMeets", spec := "spanMeets", named := ["selion/span.none"], apart := false, laid := [("selion/span.none", laid_selion_span_none)], narrowed := true }
def SpanMeetsUptoSaid : Prop := spanMeetsUptoRow.holds Tryd.pinned (OpenSpec.upto spanMeetsSpec)

/-- 'selionlaw01.SpanParts', WHERE WHAT IT READS IS OF BULK AT MOST 1048576: true; the input reads as it did. -/
def spanPartsUptoRow : OpenClaim := { program := "ytendjifhdpeebaadoor", sum := "f8e23d38668acffa5cab8c7d9800009766729907ede15b9519b93a87964b92e1", func := "selion/selionlaw01.SpanParts", spec := "spanParts", named := ["selion/span.none"], apart := false, laid := [("selion/span.none", laid_selion_span_none)], narrowed := true }
def SpanPartsUptoSaid : Prop := spanPartsUptoRow.holds Tryd.pinned (OpenSpec.upto spanPartsSpec)

/-- 'selionlaw01.SpanEmpty', WHERE WHAT IT READS IS OF BULK AT MOST 1048576: true; the input reads as it did. -/
def spanEmptyUptoRow : OpenClaim := { program := "ytendjifhdpeebaadoor", sum := "f8e23d38668acffa5cab8c7d9800009766729907ede15b9519b93a87964b92e1", func := "selion/selionlaw01.SpanEmpty", spec := "spanEmpty", named := ["selion/span.none"], apart := false, laid := [("selion/span.none", laid_selion_span_none)], narrowed := true }
def SpanEmptyUptoSaid : Prop := spanEmptyUptoRow.holds Tryd.pinned (OpenSpec.upto spanEmptySpec)

end Rows
end Go.Proofs.YtendjifhdpeebaaDoor
