/- The fixed fact of layer 6. Condition: the package's variable 'none' holds what its text lays. -/
import Derived.Test.YtocgfcboigiigaaDoorFrm3
import Derived.Test.YtocgfcboigiigaaDoorCode2
namespace Go.Proofs.YtocgfcboigiigaaDoor
open Go Go.Proofs Go.RowKit

theorem sum_fixed : sumB [49, 50, 51, 52, 53, 54, 55, 56, 57] = 3421780262 := by decide +kernel
set_option maxHeartbeats 2000000 in
set_option maxRecDepth 100000 in
theorem awake6_any (w : World) (hn : NoneLaid w) : Calls Tryd.prog 15 #[] w fun e w' => e = .returned (.bool true) ∧ Below w.heap.size w w' := by
  have kc := fun (w : World) (C : Array Value) (n c : Nat) => Lib.run_convert_bytes_const (P := Tryd.prog) w 22 5 C n c Tryd.underlying22 Tryd.underlying5
  go_enter Tryd.func15, Tryd.ntmps15
  go_wp2_with (fail)
  refine (awake5_any w hn).mono ?_
  rintro e w1 ⟨rfl, hb1⟩
  clear hn
  go_wp2_with (fail)
  have hrd := reads_new [49, 50, 51, 52, 53, 54, 55, 56, 57] (w := w1.alloc (.cells #[.int .u8 49, .int .u8 50, .int .u8 51, .int .u8 52, .int .u8 53, .int .u8 54, .int .u8 55, .int .u8 56, .int .u8 57] 5 (9, 10))) (g := w1.heap.size) (t := 5) (n := 9) (by rw [show (bv [49, 50, 51, 52, 53, 54, 55, 56, 57]).toArray = #[.int .u8 49, .int .u8 50, .int .u8 51, .int .u8 52, .int .u8 53, .int .u8 54, .int .u8 55, .int .u8 56, .int .u8 57] from by simp [bv, byteV]]; exact heap_alloc_new _ _) rfl
  have hs := sumC (some ⟨w1.heap.size, 0, none⟩) 9 9 _ _ _ hrd (by omega)
  rw [sum_fixed] at hs
  refine hs.mono ?_
  rintro e w2 ⟨rfl, rfl⟩
  have hb2 := hb1.alloc hb1.size (.cells #[.int .u8 49, .int .u8 50, .int .u8 51, .int .u8 52, .int .u8 53, .int .u8 54, .int .u8 55, .int .u8 56, .int .u8 57] 5 (9, 10))
  clear hrd hs
  generalize w1.alloc (.cells #[.int .u8 49, .int .u8 50, .int .u8 51, .int .u8 52, .int .u8 53, .int .u8 54, .int .u8 55, .int .u8 56, .int .u8 57] 5 (9, 10)) = w2 at *
  go_wp2_with (fail)
  have hr1 := reads_new [1] (w := w2.alloc (.cells #[.int .u8 1] 5 (0, 0))) (g := w2.heap.size) (t := 5) (n := 1) (by rw [show (bv [1]).toArray = #[.int .u8 1] from by simp [bv, byteV]]; exact heap_alloc_new _ _) rfl
  refine (wrapC (some ⟨w2.heap.size, 0, none⟩) 1 1 _ [1] _ hr1 (Nat.le_refl _) (by omega)).mono ?_
  rintro e w3 ⟨A3, c3, rfl, _, hb3⟩
  have HB3 := Lib.hid ((hb2.alloc hb2.size (.cells #[.int .u8 1] 5 (0, 0))).trans (hb3.mono (by rw [World.size_alloc]; have := hb2.size; omega)))
  clear hr1 hb2 hb3 hb1
  go_wp2_with (fail)
  go_ret
  exact ⟨rfl, HB3.out⟩
end Go.Proofs.YtocgfcboigiigaaDoor
