/-
  NARROWER THAN 'FOR EVERY INPUT', by the rows' own cells (each row's printed sentence says how): SpansOf: laid · PowerRuns: laid · PowerNests: laid · PowerApart: laid · PowerMore: laid · PowerParts: laid · SpansHole: laid · SpansParts: laid · SpansOrder: laid · SpansTwo: laid.
  DERIVED. THE GIVEN ROWS OF THIS SEAT. 10 by the template 'for every input the law returns true; each argument reads behind the call as it read before'; 0 by the template 'total and deterministic' (their statements: YtccmalpbejednaaDoorTotals.lean).
  GIVEN WITH THE SEED: the statements are not yours to turn. If you find one false, say at which input.
  Laid BY PROGRAM, IN A SANDBOX (cutbox-rows.mjs): the forced cells as the released guide's own fill.sh prints them over the translation 9fa7a9d78bca694a… (all of the seat's roots in one cut). By AI agents, Wed Nov 11 2026. No macro, syntax, notation, axiom, sorry.
-/
import Derived.Test.YtccmalpbejednaaDoorChecked
import GoSem.Claim
import GoSem.ClaimJoined
import GoSem.ClaimMapViews
import Derived.JoinedTies
import Derived.KernelRfl
namespace Go.Proofs.YtccmalpbejednaaDoor
/- THE CELL 'sum', in the pinned program and in every row, IS THE sha256 OF THE DUMP (.gsa) THAT YtccmalpbejednaaDoorProg.lean LOADS. Nothing in Lean hashes anything: it is a label: what it is worth is what the hold of that sum in a sandbox is worth. -/
noncomputable def Tryd.pinned : Pinned := { name := "ytccmalpbejednaadoor", sum := "9fa7a9d78bca694a8da0aee6c7ec33a11d6f2f9e282c8b1910017b960eb1acbc", checked := Tryd.checked }
namespace Rows
def none {H : Type} : Left H := { results := [], args := [] }

/- WHAT THE LISTED PACKAGE-LEVEL VARIABLES READ AS WHEN THE CALL BEGINS. Each datum BY PROGRAM (the guide's laid-datum.mjs) off the statement by which the dump's own 'gosem.cut.vars' lays the variable. In a bare row this is a premise. The card (YtccmalpbejednaaDoorCards.lean) ties it to the program's text. -/
def laid_selion_span_none {H : Type} : DataW H := .agg [.lit (.int .u64 1), .lit (.int .u64 0)]

/-- 'selionlaw02.SpansOf': WHATEVER THE INPUT: true; the input reads as it did. -/
def spansOfSpec : ChangeSpec := { name := "spansOf", fn := fun _ => fun
  | [d] => { results := [.lit (.bool true)], args := [d] }
  | _ => none }
def spansOfRow : OpenClaim := { program := "ytccmalpbejednaadoor", sum := "9fa7a9d78bca694a8da0aee6c7ec33a11d6f2f9e282c8b1910017b960eb1acbc", func := "selion/selionlaw02.SpansOf", spec := "spansOf", unfollowed := true, recurses := true, named := ["selion/span.none"], apart := false, laid := [("selion/span.none", laid_selion_span_none)] }
def SpansOfSaid : Prop := spansOfRow.holds Tryd.pinned (OpenSpec.ofChange spansOfSpec)

/-- ITS FALSE NEIGHBOUR: 'it returns false'. Refute it at one input. -/
def spansOfWrong : ChangeSpec := { name := "spansOf", fn := fun _ => fun
  | [d] => { results := [.lit (.bool false)], args := [d] }
  | _ => none }
def SpansOfWrongFalsely : Prop := spansOfRow.holds Tryd.pinned (OpenSpec.ofChange spansOfWrong)

/-- 'selionlaw03.PowerRuns': WHATEVER THE INPUT: true; the input reads as it did. -/
def powerRunsSpec : ChangeSpec := { name := "powerRuns", fn := fun _ => fun
  | [d1, d2, d3] => { results := [.lit (.bool true)], args := [d1, d2, d3] }
  | _ => none }
def powerRunsRow : OpenClaim := { program := "ytccmalpbejednaadoor", sum := "9fa7a9d78bca694a8da0aee6c7ec33a11d6f2f9e282c8b1910017b960eb1acbc", func := "selion/selionlaw03.PowerRuns", spec := "powerRuns", unfollowed := true, recurses := true, named := ["selion/span.none"], apart := false, laid := [("selion/span.none", laid_selion_span_none)] }
def PowerRunsSaid : Prop := powerRunsRow.holds Tryd.pinned (OpenSpec.ofChange powerRunsSpec)

/-- ITS FALSE NEIGHBOUR: 'it returns false'. Refute it at one input. -/
def powerRunsWrong : ChangeSpec := { name := "powerRuns", fn := fun _ => fun
  | [d1, d2, d3] => { results := [.lit (.bool false)], args := [d1, d2, d3] }
  | _ => none }
def PowerRunsWrongFalsely : Prop := powerRunsRow.holds Tryd.pinned (OpenSpec.ofChange powerRunsWrong)

/-- 'selionlaw03.PowerNests': WHATEVER THE INPUT: true; the input reads as it did. -/
def powerNestsSpec : ChangeSpec := { name := "powerNests", fn := fun _ => fun
  | [d1, d2, d3] => { results := [.lit (.bool true)], args := [d1, d2, d3] }
  | _ => none }
def powerNestsRow : OpenClaim := { program := "ytccmalpbejednaadoor", sum := "9fa7a9d78bca694a8da0aee6c7ec33a11d6f2f9e282c8b1910017b960eb1acbc", func := "selion/selionlaw03.PowerNests", spec := "powerNests", unfollowed := true, recurses := true, named := ["selion/span.none"], apart := false, laid := [("selion/span.none", laid_selion_span_none)] }
def PowerNestsSaid : Prop := powerNestsRow.holds Tryd.pinned (OpenSpec.ofChange powerNestsSpec)

/-- ITS FALSE NEIGHBOUR: 'it returns false'. Refute it at one input. -/
def powerNestsWrong : ChangeSpec := { name := "powerNests", fn := fun _ => fun
  | [d1, d2, d3] => { results := [.lit (.bool false)], args := [d1, d2, d3] }
  | _ => none }
def PowerNestsWrongFalsely : Prop := powerNestsRow.holds Tryd.pinned (OpenSpec.ofChange powerNestsWrong)

/-- 'selionlaw03.PowerApart': WHATEVER THE INPUT: true; the input reads as it did. -/
def powerApartSpec : ChangeSpec := { name := "powerApart", fn := fun _ => fun
  | [d1, d2, d3] => { results := [.lit (.bool true)], args := [d1, d2, d3] }
  | _ => none }
def powerApartRow : OpenClaim := { program := "ytccmalpbejednaadoor", sum := "9fa7a9d78bca694a8da0aee6c7ec33a11d6f2f9e282c8b1910017b960eb1acbc", func := "selion/selionlaw03.PowerApart", spec := "powerApart", unfollowed := true, recurses := true, named := ["selion/span.none"], apart := false, laid := [("selion/span.none", laid_selion_span_none)] }
def PowerApartSaid : Prop := powerApartRow.holds Tryd.pinned (OpenSpec.ofChange powerApartSpec)

/-- ITS FALSE NEIGHBOUR: 'it returns false'. Refute it at one input. -/
def powerApartWrong : ChangeSpec := { name := "powerApart", fn := fun _ => fun
  | [d1, d2, d3] => { results := [.lit (.bool false)], args := [d1, d2, d3] }
  | _ => none }
def PowerApartWrongFalsely : Prop := powerApartRow.holds Tryd.pinned (OpenSpec.ofChange powerApartWrong)

/-- 'selionlaw03.PowerMore': WHATEVER THE INPUT: true; the input reads as it did. -/
def powerMoreSpec : ChangeSpec := { name := "powerMore", fn := fun _ => fun
  | [d1, d2, d3] => { results := [.lit (.bool true)], args := [d1, d2, d3] }
  | _ => none }
def powerMoreRow : OpenClaim := { program := "ytccmalpbejednaadoor", sum := "9fa7a9d78bca694a8da0aee6c7ec33a11d6f2f9e282c8b1910017b960eb1acbc", func := "selion/selionlaw03.PowerMore", spec := "powerMore", unfollowed := true, recurses := true, named := ["selion/span.none"], apart := false, laid := [("selion/span.none", laid_selion_span_none)] }
def PowerMoreSaid : Prop := powerMoreRow.holds Tryd.pinned (OpenSpec.ofChange powerMoreSpec)

/-- ITS FALSE NEIGHBOUR: 'it returns false'. Refute it at one input. -/
def powerMoreWrong : ChangeSpec := { name := "powerMore", fn := fun _ => fun
  | [d1, d2, d3] => { results := [.lit (.bool false)], args := [d1, d2, d3] }
  | _ => none }
def PowerMoreWrongFalsely : Prop := powerMoreRow.holds Tryd.pinned (OpenSpec.ofChange powerMoreWrong)

/-- 'selionlaw03.PowerParts': WHATEVER THE INPUT: true; the input reads as it did. -/
def powerPartsSpec : ChangeSpec := { name := "powerParts", fn := fun _ => fun
  | [d1, d2, d3] => { results := [.lit (.bool true)], args := [d1, d2, d3] }
  | _ => none }
def powerPartsRow : OpenClaim := { program := "ytccmalpbejednaadoor", sum := "9fa7a9d78bca694a8da0aee6c7ec33a11d6f2f9e282c8b1910017b960eb1acbc", func := "selion/selionlaw03.PowerParts", spec := "powerParts", unfollowed := true, recurses := true, named := ["selion/span.none"], apart := false, laid := [("selion/span.none", laid_selion_span_none)] }
def PowerPartsSaid : Prop := powerPartsRow.holds Tryd.pinned (OpenSpec.ofChange powerPartsSpec)

/-- ITS FALSE NEIGHBOUR: 'it returns false'. Refute it at one input. -/
def powerPartsWrong : ChangeSpec := { name := "powerParts", fn := fun _ => fun
  | [d1, d2, d3] => { results := [.lit (.bool false)], args := [d1, d2, d3] }
  | _ => none }
def PowerPartsWrongFalsely : Prop := powerPartsRow.holds Tryd.pinned (OpenSpec.ofChange powerPartsWrong)

/-- 'selionlaw02.SpansHole': WHATEVER THE INPUT: true; the input reads as it did. -/
def spansHoleSpec : ChangeSpec := { name := "spansHole", fn := fun _ => fun
  | [d1, d2, d3] => { results := [.lit (.bool true)], args := [d1, d2, d3] }
  | _ => none }
def spansHoleRow : OpenClaim := { program := "ytccmalpbejednaadoor", sum := "9fa7a9d78bca694a8da0aee6c7ec33a11d6f2f9e282c8b1910017b960eb1acbc", func := "selion/selionlaw02.SpansHole", spec := "spansHole", unfollowed := true, recurses := true, named := ["selion/span.none"], apart := false, laid := [("selion/span.none", laid_selion_span_none)] }
def SpansHoleSaid : Prop := spansHoleRow.holds Tryd.pinned (OpenSpec.ofChange spansHoleSpec)

/-- ITS FALSE NEIGHBOUR: 'it returns false'. Refute it at one input. -/
def spansHoleWrong : ChangeSpec := { name := "spansHole", fn := fun _ => fun
  | [d1, d2, d3] => { results := [.lit (.bool false)], args := [d1, d2, d3] }
  | _ => none }
def SpansHoleWrongFalsely : Prop := spansHoleRow.holds Tryd.pinned (OpenSpec.ofChange spansHoleWrong)

/-- 'selionlaw02.SpansParts': WHATEVER THE INPUT: true; the input reads as it did. -/
def spansPartsSpec : ChangeSpec := { name := "spansParts", fn := fun _ => fun
  | [d1, d2] => { results := [.lit (.bool true)], args := [d1, d2] }
  | _ => none }
def spansPartsRow : OpenClaim := { program := "ytccmalpbejednaadoor", sum := "9fa7a9d78bca694a8da0aee6c7ec33a11d6f2f9e282c8b1910017b960eb1acbc", func := "selion/selionlaw02.SpansParts", spec := "spansParts", unfollowed := true, recurses := true, named := ["selion/span.none"], apart := false, laid := [("selion/span.none", laid_selion_span_none)] }
def SpansPartsSaid : Prop := spansPartsRow.holds Tryd.pinned (OpenSpec.ofChange spansPartsSpec)

/-- ITS FALSE NEIGHBOUR: 'it returns false'. Refute it at one input. -/
def spansPartsWrong : ChangeSpec := { name := "spansParts", fn := fun _ => fun
  | [d1, d2] => { results := [.lit (.bool false)], args := [d1, d2] }
  | _ => none }
def SpansPartsWrongFalsely : Prop := spansPartsRow.holds Tryd.pinned (OpenSpec.ofChange spansPartsWrong)

/-- 'selionlaw02.SpansOrder': WHATEVER THE INPUT: true; the input reads as it did. -/
def spansOrderSpec : ChangeSpec := { name := "spansOrder", fn := fun _ => fun
  | [d1, d2] => { results := [.lit (.bool true)], args := [d1, d2] }
  | _ => none }
def spansOrderRow : OpenClaim := { program := "ytccmalpbejednaadoor", sum := "9fa7a9d78bca694a8da0aee6c7ec33a11d6f2f9e282c8b1910017b960eb1acbc", func := "selion/selionlaw02.SpansOrder", spec := "spansOrder", unfollowed := true, recurses := true, named := ["selion/span.none"], apart := false, laid := [("selion/span.none", laid_selion_span_none)] }
def SpansOrderSaid : Prop := spansOrderRow.holds Tryd.pinned (OpenSpec.ofChange spansOrderSpec)

/-- ITS FALSE NEIGHBOUR: 'it returns false'. Refute it at one input. -/
def spansOrderWrong : ChangeSpec := { name := "spansOrder", fn := fun _ => fun
  | [d1, d2] => { results := [.lit (.bool false)], args := [d1, d2] }
  | _ => none }
def SpansOrderWrongFalsely : Prop := spansOrderRow.holds Tryd.pinned (OpenSpec.ofChange spansOrderWrong)

/-- 'selionlaw02.SpansTwo': WHATEVER THE INPUT: true; the input reads as it did. -/
def spansTwoSpec : ChangeSpec := { name := "spansTwo", fn := fun _ => fun
  | [d1, d2] => { results := [.lit (.bool true)], args := [d1, d2] }
  | _ => none }
def spansTwoRow : OpenClaim := { program := "ytccmalpbejednaadoor", sum := "9fa7a9d78bca694a8da0aee6c7ec33a11d6f2f9e282c8b1910017b960eb1acbc", func := "selion/selionlaw02.SpansTwo", spec := "spansTwo", unfollowed := true, recurses := true, named := ["selion/span.none"], apart := false, laid := [("selion/span.none", laid_selion_span_none)] }
def SpansTwoSaid : Prop := spansTwoRow.holds Tryd.pinned (OpenSpec.ofChange spansTwoSpec)

/-- ITS FALSE NEIGHBOUR: 'it returns false'. Refute it at one input. -/
def spansTwoWrong : ChangeSpec := { name := "spansTwo", fn := fun _ => fun
  | [d1, d2] => { results := [.lit (.bool false)], args := [d1, d2] }
  | _ => none }
def SpansTwoWrongFalsely : Prop := spansTwoRow.holds Tryd.pinned (OpenSpec.ofChange spansTwoWrong)

/- THE SECOND FORM. 'bulk': how many values and letters a reading holds, each counted each time it is reached (what is shared counts as often as it is met; a slice's spare places count too). A statement '..UptoSaid' is the law's where the arguments, and the package variables that the reading takes, are together of bulk at most 1048576: NARROWER than '..Said'. Prove '..Said' where nothing that the law and all that it calls make is longer than what came in: it says more and counts as full. Else prove '..UptoSaid'. A law counts once. -/
mutual
def uptoBulk {H : Type} : DataW H → Nat
  | .lit (.string bytes) => bytes.length + 1
  | .lit _ => 1
  | .nil => 1
  | .ptr d => uptoBulk d + 1
  | .slice elems spare => uptoBulkAll elems + uptoBulkAll spare + 1
  | .agg parts => uptoBulkAll parts + 1
  | .iface _ d => uptoBulk d + 1
  | .map entries => uptoBulkEntries entries + 1
  | .held _ => 1
def uptoBulkAll {H : Type} : List (DataW H) → Nat
  | [] => 0
  | d :: r => uptoBulk d + uptoBulkAll r
def uptoBulkEntries {H : Type} : List (Lit × DataW H) → Nat
  | [] => 0
  | x :: r => uptoBulkEntry x + uptoBulkEntries r
def uptoBulkEntry {H : Type} : Lit × DataW H → Nat
  | (.string bytes, d) => bytes.length + uptoBulk d + 1
  | (_, d) => uptoBulk d + 1
 end
def uptoSmall : (H : Type) → List (DataW H) → Bool := fun _ ds => decide (uptoBulkAll ds ≤ 1048576)
def OpenSpec.upto (s : _root_.Go.ChangeSpec) : _root_.Go.OpenSpec := { _root_.Go.OpenSpec.ofChange s with cond := some uptoSmall }

/-- 'selionlaw02.SpansOf', WHERE WHAT IT READS IS OF BULK AT MOST 1048576: true; the input reads as it did. -/
def spansOfUptoRow : OpenClaim := { program := "ytccmalpbejednaadoor", sum := "9fa7a9d78bca694a8da0aee6c7ec33a11d6f2f9e282c8b1910017b960eb1acbc", func := "selion/selionlaw02.SpansOf", spec := "spansOf", unfollowed := true, recurses := true, named := ["selion/span.none"], apart := false, laid := [("selion/span.none", laid_selion_span_none)], narrowed := true }
def SpansOfUptoSaid : Prop := spansOfUptoRow.holds Tryd.pinned (OpenSpec.upto spansOfSpec)

/-- 'selionlaw03.PowerRuns', WHERE WHAT IT READS IS OF BULK AT MOST 1048576: true; the input reads as it did. -/
def powerRunsUptoRow : OpenClaim := { program := "ytccmalpbejednaadoor", sum := "9fa7a9d78bca694a8da0aee6c7ec33a11d6f2f9e282c8b1910017b960eb1acbc", func := "selion/selionlaw03.PowerRuns", spec := "powerRuns", unfollowed := true, recurses := true, named := ["selion/span.none"], apart := false, laid := [("selion/span.none", laid_selion_span_none)], narrowed := true }
def PowerRunsUptoSaid : Prop := powerRunsUptoRow.holds Tryd.pinned (OpenSpec.upto powerRunsSpec)

/-- 'selionlaw03.PowerNests', WHERE WHAT IT READS IS OF BULK AT MOST 1048576: true; the input reads as it did. -/
def powerNestsUptoRow : OpenClaim := { program := "ytccmalpbejednaadoor", sum := "9fa7a9d78bca694a8da0aee6c7ec33a11d6f2f9e282c8b1910017b960eb1acbc", func := "selion/selionlaw03.PowerNests", spec := "powerNests", unfollowed := true, recurses := true, named := ["selion/span.none"], apart := false, laid := [("selion/span.none", laid_selion_span_none)], narrowed := true }
def PowerNestsUptoSaid : Prop := powerNestsUptoRow.holds Tryd.pinned (OpenSpec.upto powerNestsSpec)

/-- 'selionlaw03.PowerApart', WHERE WHAT IT READS IS OF BULK AT MOST 1048576: true; the input reads as it did. -/
def powerApartUptoRow : OpenClaim := { program := "ytccmalpbejednaadoor", sum := "9fa7a9d78bca694a8da0aee6c7ec33a11d6f2f9e282c8b1910017b960eb1acbc", func := "selion/selionlaw03.PowerApart", spec := "powerApart", unfollowed := true, recurses := true, named := ["selion/span.none"], apart := false, laid := [("selion/span.none", laid_selion_span_none)], narrowed := true }
def PowerApartUptoSaid : Prop := powerApartUptoRow.holds Tryd.pinned (OpenSpec.upto powerApartSpec)

/-- 'selionlaw03.PowerMore', WHERE WHAT IT READS IS OF BULK AT MOST 1048576: true; the input reads as it did. -/
def powerMoreUptoRow : OpenClaim := { program := "ytccmalpbejednaadoor", sum := "9fa7a9d78bca694a8da0aee6c7ec33a11d6f2f9e282c8b1910017b960eb1acbc", func := "selion/selionlaw03.PowerMore", spec := "powerMore", unfollowed := true, recurses := true, named := ["selion/span.none"], apart := false, laid := [("selion/span.none", laid_selion_span_none)], narrowed := true }
def PowerMoreUptoSaid : Prop := powerMoreUptoRow.holds Tryd.pinned (OpenSpec.upto powerMoreSpec)

/-- 'selionlaw03.PowerParts', WHERE WHAT IT READS IS OF BULK AT MOST 1048576: true; the input reads as it did. -/
def powerPartsUptoRow : OpenClaim := { program := "ytccmalpbejednaadoor", sum := "9fa7a9d78bca694a8da0aee6c7ec33a11d6f2f9e282c8b1910017b960eb1acbc", func := "selion/selionlaw03.PowerParts", spec := "powerParts", unfollowed := true, recurses := true, named := ["selion/span.none"], apart := false, laid := [("selion/span.none", laid_selion_span_none)], narrowed := true }
def PowerPartsUptoSaid : Prop := powerPartsUptoRow.holds Tryd.pinned (OpenSpec.upto powerPartsSpec)

/-- 'selionlaw02.SpansHole', WHERE WHAT IT READS IS OF BULK AT MOST 1048576: true; the input reads as it did. -/
def spansHoleUptoRow : OpenClaim := { program := "ytccmalpbejednaadoor", sum := "9fa7a9d78bca694a8da0aee6c7ec33a11d6f2f9e282c8b1910017b960eb1acbc", func := "selion/selionlaw02.SpansHole", spec := "spansHole", unfollowed := true, recurses := true, named := ["selion/span.none"], apart := false, laid := [("selion/span.none", laid_selion_span_none)], narrowed := true }
def SpansHoleUptoSaid : Prop := spansHoleUptoRow.holds Tryd.pinned (OpenSpec.upto spansHoleSpec)

/-- 'selionlaw02.SpansParts', WHERE WHAT IT READS IS OF BULK AT MOST 1048576: true; the input reads as it did. -/
def spansPartsUptoRow : OpenClaim := { program := "ytccmalpbejednaadoor", sum := "9fa7a9d78bca694a8da0aee6c7ec33a11d6f2f9e282c8b1910017b960eb1acbc", func := "selion/selionlaw02.SpansParts", spec := "spansParts", unfollowed := true, recurses := true, named := ["selion/span.none"], apart := false, laid := [("selion/span.none", laid_selion_span_none)], narrowed := true }
def SpansPartsUptoSaid : Prop := spansPartsUptoRow.holds Tryd.pinned (OpenSpec.upto spansPartsSpec)

/-- 'selionlaw02.SpansOrder', WHERE WHAT IT READS IS OF BULK AT MOST 1048576: true; the input reads as it did. -/
def spansOrderUptoRow : OpenClaim := { program := "ytccmalpbejednaadoor", sum := "9fa7a9d78bca694a8da0aee6c7ec33a11d6f2f9e282c8b1910017b960eb1acbc", func := "selion/selionlaw02.SpansOrder", spec := "spansOrder", unfollowed := true, recurses := true, named := ["selion/span.none"], apart := false, laid := [("selion/span.none", laid_selion_span_none)], narrowed := true }
def SpansOrderUptoSaid : Prop := spansOrderUptoRow.holds Tryd.pinned (OpenSpec.upto spansOrderSpec)

/-- 'selionlaw02.SpansTwo', WHERE WHAT IT READS IS OF BULK AT MOST 1048576: true; the input reads as it did. -/
def spansTwoUptoRow : OpenClaim := { program := "ytccmalpbejednaadoor", sum := "9fa7a9d78bca694a8da0aee6c7ec33a11d6f2f9e282c8b1910017b960eb1acbc", func := "selion/selionlaw02.SpansTwo", spec := "spansTwo", unfollowed := true, recurses := true, named := ["selion/span.none"], apart := false, laid := [("selion/span.none", laid_selion_span_none)], narrowed := true }
def SpansTwoUptoSaid : Prop := spansTwoUptoRow.holds Tryd.pinned (OpenSpec.upto spansTwoSpec)

end Rows
end Go.Proofs.YtccmalpbejednaaDoor
