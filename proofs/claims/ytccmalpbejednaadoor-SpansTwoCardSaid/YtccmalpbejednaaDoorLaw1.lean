/- The first layer's statements' fixed fact, and SpanHas: each answers true and leaves what was there as it was. Condition: the package's variable 'none' holds what its text lays. -/
import Derived.Test.YtccmalpbejednaaDoorLess
import Derived.Test.YtccmalpbejednaaDoorTimes
namespace Go.Proofs.YtccmalpbejednaaDoor
open Go Go.Proofs Go.RowKit

theorem lessF_awake : lessF 2 9 4 5 = ((2, 3), (6, 9)) := by decide
theorem less_awake (w : World) (hn : NoneLaid w) :
    Calls Tryd.prog 58 #[.agg #[.int .u64 2, .int .u64 9], .agg #[.int .u64 4, .int .u64 5]] w fun e w' =>
      e = .returned (.tuple #[.agg #[.int .u64 2, .int .u64 3], .agg #[.int .u64 6, .int .u64 9]]) ∧ Below w.heap.size w w' := by
  have h := less_any 2 9 4 5 w hn (by omega) (by omega) (by omega) (by omega)
  rw [lessF_awake] at h
  exact h

theorem awake_any (w : World) (hn : NoneLaid w) :
    Calls Tryd.prog 43 #[] w fun e w' => e = .returned (.bool true) ∧ Below w.heap.size w w' := by
  go_enter Tryd.func43, Tryd.ntmps43
  go_wp2_with (first | (go_at_call 58; refine (less_awake _ hn).mono ?_; rintro e w1 ⟨rfl, hb1⟩; have hz1 := hb1.size; (try simp at hz1); ) | (go_at_call 53; refine (has_any _ _ _ _).mono ?_; rintro e w2 ⟨rfl, hb2⟩; have hz2 := hb2.size; (try simp at hz2); ))
  go_ret
  refine ⟨rfl, ?_⟩
  repeat (first | exact Below.refl _ _ | assumption | refine Below.drew ?_ | refine Below.setCell ?_ (by first | (simp; done) | omega | (simp; omega)) _ | refine Below.alloc ?_ (by first | (simp; done) | omega | (simp; omega)) _ | refine bdrewN ?_ _ | refine bstep ?_ (by assumption) (by first | (simp; done) | omega | (simp; omega)))

theorem make_some (lo hi near : Int) (w : World) (h1 : 0 ≤ lo) (h2 : lo < 18446744073709551616) (h3 : 0 ≤ hi) (h4 : hi < 18446744073709551616) (h5 : 0 ≤ near) (h6 : near < 256) :
    Calls Tryd.prog 44 #[.agg #[.int .u64 lo, .int .u64 hi, .int .u8 near]] w fun e w' => ∃ a b, ((0 ≤ a ∧ a < 18446744073709551616) ∧ 0 ≤ b ∧ b < 18446744073709551616) ∧ e = .returned (.agg #[.int .u64 a, .int .u64 b]) ∧ Below w.heap.size w w' :=
  (make_any lo hi near w h1 h2 h3 h4 h5 h6).mono fun _ _ ⟨he, hb⟩ => ⟨_, _, makeF_range lo hi near h1 h2 h3 h4, he, hb⟩

end Go.Proofs.YtccmalpbejednaaDoor
