/- Numbers and texts as bytes: Writer.Text, selionlaw05.Num, and the fixed fact. Condition: not too many bytes. -/
import Derived.Test.YtocgfcboigiigaaDoorCode1
import Derived.Test.YtocgfcboigiigaaDoorAppStr
import Derived.Test.YtocgfcboigiigaaDoorAwake4
namespace Go.Proofs.YtocgfcboigiigaaDoor
open Go Go.Proofs Go.RowKit

theorem strCells_txt (s : Txt) : Lib.strCells ⟨s.toArray⟩ = bv s := by simp [Lib.strCells, bv, byteV]
/-- A text's bytes, as it is written. -/
def textB (s : Txt) : List UInt8 := numB s.length ++ s
/-- A new writer. -/
theorem wrNew (w : World) : WrAt (w.alloc (.cells #[.slice none 0 0] 97 (0, 0))) (fun b => b = w.heap.size) w.heap.size [] :=
  ⟨none, 0, heap_alloc_new w _, RowW.nil _ _, rfl, fun g hg => by cases hg⟩
set_option maxHeartbeats 2000000 in
theorem awake5_any (w : World) (hn : NoneLaid w) : Calls Tryd.prog 46 #[] w fun e w' => e = .returned (.bool true) ∧ Below w.heap.size w w' := by
  go_enter Tryd.func46, Tryd.ntmps46
  go_wp2_with (fail)
  refine (awake4_any w hn).mono ?_
  rintro e w1 ⟨rfl, hb1⟩
  clear hn
  have hz1 := hb1.size
  go_wp2_with (fail)
  refine (numW _ w1.heap.size 300 [] _ (wrNew w1) (by omega) (by simp)).mono ?_
  rintro e w2 ⟨rfl, C2, ⟨A, c, h1, h2, h3, h4⟩, hC2, hM2⟩
  have e300 : [] ++ numB 300 = [172, 2] := by rw [numB_big (by omega), numB_small (by omega)]; rfl
  rw [e300] at h1 h2 h4
  have d0 : w2.cell? ⟨w1.heap.size, 0, none⟩ = some (.slice A 2 c) := by rw [cell_of_blk h1]; rfl
  have hb2 : Below w1.heap.size w1 w2 := ((Below.refl _ _).alloc (Nat.le_refl _) _).trans (hM2.below (by simp) (fun k hk h => by omega))
  have HB2 := Lib.hid (hb1.trans (hb2.mono hz1))
  have hrd := reads_new [172, 2] (w := w2.alloc (.cells #[.int .u8 172, .int .u8 2] 5 (0, 0))) (g := w2.heap.size) (t := 5) (fr := (0, 0)) (n := 2) (by rw [show (bv [172, 2]).toArray = #[.int .u8 172, .int .u8 2] from by simp [bv, byteV]]; exact heap_alloc_new _ _) rfl
  have HEQ := Lib.hid (equalB true A (some ⟨w2.heap.size, 0, none⟩) 2 c 2 2 _ _ [172, 2] [172, 2] _ (h2.alloc _).reads hrd (by omega) (by omega) (by decide))
  clear h1 h2 h3 h4 hrd hb2 hC2 hM2 e300
  go_wp2_with (fail)
  refine HEQ.out.mono ?_
  rintro e w3 ⟨rfl, hb3⟩
  go_wp2_with (fail)
  go_ret
  exact ⟨rfl, (HB2.out.alloc HB2.out.size _).trans (hb3.mono (by rw [World.size_alloc]; have := HB2.out.size; omega))⟩
end Go.Proofs.YtocgfcboigiigaaDoor
