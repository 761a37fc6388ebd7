/- The first layer's statements' fixed fact, and SpanHas: each answers true and leaves what was there as it was. Condition: the package's variable 'none' holds what its text lays. -/
import Derived.Test.YtfccoiofpmhbdaaDoorLess
import Derived.Test.YtfccoiofpmhbdaaDoorTimes
namespace Go.Proofs.YtfccoiofpmhbdaaDoor
open Go Go.Proofs Go.RowKit

theorem lessF_awake : lessF 2 9 4 5 = ((2, 3), (6, 9)) := by decide
theorem less_awake (w : World) (hn : NoneLaid w) :
    Calls Tryd.prog 50 #[.agg #[.int .u64 2, .int .u64 9], .agg #[.int .u64 4, .int .u64 5]] w fun e w' =>
      e = .returned (.tuple #[.agg #[.int .u64 2, .int .u64 3], .agg #[.int .u64 6, .int .u64 9]]) ∧ Below w.heap.size w w' := by
  have h := less_any 2 9 4 5 w hn (by omega) (by omega) (by omega) (by omega)
  rw [lessF_awake] at h
  exact h

theorem awake_any (w : World) (hn : NoneLaid w) :
    Calls Tryd.prog 44 #[] w fun e w' => e = .returned (.bool true) ∧ Below w.heap.size w w' := by
  go_enter Tryd.func44, Tryd.ntmps44
  go_wp2_with (first | (go_at_call 50; refine (less_awake _ hn).mono ?_; rintro e w1 ⟨rfl, hb1⟩; have hz1 := hb1.size; (try simp at hz1); ) | (go_at_call 51; refine (has_any _ _ _ _).mono ?_; rintro e w2 ⟨rfl, hb2⟩; have hz2 := hb2.size; (try simp at hz2); ))
  go_ret
  refine ⟨rfl, ?_⟩
  repeat (first | exact Below.refl _ _ | assumption | refine Below.drew ?_ | refine Below.setCell ?_ (by first | (simp; done) | omega | (simp; omega)) _ | refine Below.alloc ?_ (by first | (simp; done) | omega | (simp; omega)) _ | refine bdrewN ?_ _ | refine bstep ?_ (by assumption) (by first | (simp; done) | omega | (simp; omega)))

end Go.Proofs.YtfccoiofpmhbdaaDoor
