/- The helper 'ends' of the first layer's statements: it answers some numbers, each of its kind, in memory of its own. -/
import Derived.Test.YtfccoiofpmhbdaaDoorBase
namespace Go.Proofs.YtfccoiofpmhbdaaDoor
open Go Go.Proofs Go.RowKit

theorem info_u64 : (Tryd.prog.info? 32).map (fun i => (i.zero, i.size, i.bytes)) = some (some (.int .u64 0), 1, 8) := by kernel_rfl

/-- Some numbers, each of its kind, in a slice of the call's own. -/
def Nums (w : World) (n : Nat) (e : Ending) (w' : World) : Prop :=
  ∃ (v : Value) (zs : List Int), e = .returned v ∧ w'.ownsRow w.heap.size 32 1 v zs.length (zs.map (Value.int .u64)) ∧ (∀ z ∈ zs, (0 : Int) ≤ z ∧ z < 18446744073709551616) ∧ zs.length = n ∧ Below w.heap.size w w'

end Go.Proofs.YtfccoiofpmhbdaaDoor
