/- Numbers and texts as bytes: Writer.Text, selionlaw05.Num, and the fixed fact. Condition: not too many bytes. -/
import Derived.Test.YtgonklbjbgekoaaDoorCode1
import Derived.Test.YtgonklbjbgekoaaDoorAppStr
import Derived.Test.YtgonklbjbgekoaaDoorAwake4
namespace Go.Proofs.YtgonklbjbgekoaaDoor
open Go Go.Proofs Go.RowKit

theorem strCells_txt (s : Txt) : Lib.strCells ⟨s.toArray⟩ = bv s := by simp [Lib.strCells, bv, byteV]
/-- A text's bytes, as it is written. -/
def textB (s : Txt) : List UInt8 := numB s.length ++ s
set_option maxHeartbeats 2000000 in
set_option maxRecDepth 100000 in
theorem textW (C : Nat → Prop) (p : Nat) (s : Txt) (bs : List UInt8) (w : World) (h : WrAt w C p bs) (hs : s.length ≤ 1000000) (hb : bs.length ≤ 1000000) :
    Calls Tryd.prog 22 #[.pointer (some ⟨p, 0, none⟩), txt s] w (RetWr w C p (bs ++ textB s)) := by
  show Calls Tryd.prog 22 #[.pointer (some ⟨p, 0, none⟩), .string ⟨s.toArray⟩] w (RetWr w C p (bs ++ textB s))
  obtain ⟨i0, hi, hz0, hz1, hz2⟩ := info_parts info_u8
  have HW := Lib.hid h
  clear h
  have hsz : (⟨s.toArray⟩ : ByteArray).size = s.length := by simp [ByteArray.size]
  go_enter Tryd.func22, Tryd.ntmps22
  go_wp2_with (fail)
  refine (numW C p s.length bs w HW.out (by omega) hb).mono ?_
  rintro e w1 ⟨rfl, C1, hW1, hC1, hM1⟩
  obtain ⟨A, c, h1, h2, h3, h4⟩ := hW1
  have hlen : (bs ++ numB s.length).length ≤ 1000010 := by rw [List.length_append]; have := numB_len10 (n := s.length) (by omega); omega
  have d0 : w1.cell? ⟨p, 0, none⟩ = some (.slice A (bs ++ numB s.length).length c) := by rw [cell_of_blk h1]; rfl
  have H1 := Lib.hid h1
  have H2 := Lib.hid h2
  have H4 := Lib.hid h4
  obtain ⟨l, hl⟩ : ∃ l, l = (bs ++ numB s.length).length := ⟨_, rfl⟩
  rw [← hl] at d0 hlen H1 H2 H4
  have HL := Lib.hid hl
  have hbl : p < w1.heap.size := World.block_lt_of_cell? _ _ d0
  clear h1 h2 h4 hl hb
  go_wp2_with (at_builtin; (refine wpList_append_rowW_string _ rfl (.tmp 13) (.tmp 14) 22 9 rfl 5 i0 Tryd.underlying22 Tryd.underlying9 hi hz0 hz1 hz2 (.slice A l c) l (bv (bs ++ numB s.length)) rfl H2.out ⟨s.toArray⟩ rfl (by rw [hsz]; unfold maxLen; omega) (by rw [hsz]; omega) ?_; intro v5 w5 hrow5 hgr5 hat5; rw [hsz, strCells_txt] at hrow5; obtain ⟨A5, c5, rfl, hc5⟩ := hrow5.form; have hp5 := (hgr5.block p hbl (fun e => (H4.out p e.symm).2 rfl)).trans H1.out; have q0 := frozen_of_blk hp5 0; have d5 : w5.cell? ⟨p, 0, none⟩ = some (.slice A l c) := cell_of_blk hp5 0; have HR5 := Lib.hid hrow5; have HG5 := Lib.hid hgr5; have HT5 := Lib.hid hat5; clear hrow5 hgr5 hat5 hp5))
  go_end0
  have hl2 : (bs ++ numB s.length ++ s).length = l + s.length := by rw [List.length_append, ← HL.out]
  have hE := wr_end (w2 := w1) (C := C1) H1.out h3 H4.out HG5.out (bs' := bs ++ numB s.length ++ s) (A5 := A5) (c5 := c5) (v5 := .slice A5 (l + s.length) c5) (by rw [hl2]) (by rw [hl2, bv_append]; exact HR5.out) HT5.out
  obtain ⟨hE1, hE2, hE3⟩ := hE
  have hsz := hM1.size
  rw [List.append_assoc] at hE1
  refine ⟨rfl, _, hE1, fun b hb => ?_, hM1.trans hE2 (fun b hb h => ?_)⟩
  · rcases hE3 b hb with h | h
    · exact hC1 b h
    · exact .inr (by omega)
  · rcases hC1 b h with h' | h'
    · exact h'
    · omega
/-- A new writer. -/
theorem wrNew (w : World) : WrAt (w.alloc (.cells #[.slice none 0 0] 35 (0, 0))) (fun b => b = w.heap.size) w.heap.size [] :=
  ⟨none, 0, heap_alloc_new w _, RowW.nil _ _, rfl, fun g hg => by cases hg⟩
set_option maxHeartbeats 2000000 in
theorem awake5_any (w : World) (hn : NoneLaid w) : Calls Tryd.prog 20 #[] w fun e w' => e = .returned (.bool true) ∧ Below w.heap.size w w' := by
  go_enter Tryd.func20, Tryd.ntmps20
  go_wp2_with (fail)
  refine (awake4_any w hn).mono ?_
  rintro e w1 ⟨rfl, hb1⟩
  clear hn
  have hz1 := hb1.size
  go_wp2_with (fail)
  refine (numW _ w1.heap.size 300 [] _ (wrNew w1) (by omega) (by simp)).mono ?_
  rintro e w2 ⟨rfl, C2, ⟨A, c, h1, h2, h3, h4⟩, hC2, hM2⟩
  have e300 : [] ++ numB 300 = [172, 2] := by rw [numB_big (by omega), numB_small (by omega)]; rfl
  rw [e300] at h1 h2 h4
  have d0 : w2.cell? ⟨w1.heap.size, 0, none⟩ = some (.slice A 2 c) := by rw [cell_of_blk h1]; rfl
  have hb2 : Below w1.heap.size w1 w2 := ((Below.refl _ _).alloc (Nat.le_refl _) _).trans (hM2.below (by simp) (fun k hk h => by omega))
  have HB2 := Lib.hid (hb1.trans (hb2.mono hz1))
  have hrd := reads_new [172, 2] (w := w2.alloc (.cells #[.int .u8 172, .int .u8 2] 5 (0, 0))) (g := w2.heap.size) (t := 5) (fr := (0, 0)) (n := 2) (by rw [show (bv [172, 2]).toArray = #[.int .u8 172, .int .u8 2] from by simp [bv, byteV]]; exact heap_alloc_new _ _) rfl
  have HEQ := Lib.hid (equalB true A (some ⟨w2.heap.size, 0, none⟩) 2 c 2 2 _ _ [172, 2] [172, 2] _ (h2.alloc _).reads hrd (by omega) (by omega) (by decide))
  clear h1 h2 h3 h4 hrd hb2 hC2 hM2 e300
  go_wp2_with (fail)
  refine HEQ.out.mono ?_
  rintro e w3 ⟨rfl, hb3⟩
  go_wp2_with (fail)
  go_ret
  exact ⟨rfl, (HB2.out.alloc HB2.out.size _).trans (hb3.mono (by rw [World.size_alloc]; have := HB2.out.size; omega))⟩
end Go.Proofs.YtgonklbjbgekoaaDoor
