/- A slice of slices of bytes among the arguments, opened as a list. No condition. -/
import Derived.Test.YtocgfcboigiigaaDoorFrame4
import Derived.Test.YtocgfcboigiigaaDoorBytes2
import Derived.Deep.Slices
namespace Go.Proofs.YtocgfcboigiigaaDoor
open Go Go.RowKit Go.WideShapes Go.ChangeShapes

theorem cellsSl : Tryd.prog.cellsOf 22 = 1 := by kernel_rfl
/-- A list of what is found at each index. -/
theorem list_of {α : Type} {n : Nat} {p : Nat → α → Prop} (h : ∀ i, i < n → ∃ x, p i x) : ∃ L : List α, L.length = n ∧ ∀ i x, L[i]? = some x → p i x := by
  induction n with
  | zero => exact ⟨[], rfl, fun i x hx => by simp at hx⟩
  | succ n ih =>
    obtain ⟨L, h1, h2⟩ := ih fun i hi => h i (by omega)
    obtain ⟨x, hx⟩ := h n (by omega)
    refine ⟨L ++ [x], by simp [h1], fun i y hy => ?_⟩
    rcases Nat.lt_or_ge i n with hi | hi
    · rw [List.getElem?_append_left (by omega)] at hy
      exact h2 i y hy
    · rw [List.getElem?_append_right (by omega)] at hy
      have : i - L.length = 0 := by
        rcases Nat.eq_zero_or_pos (i - L.length) with h | h
        · exact h
        · rw [List.getElem?_eq_none (by simp; omega)] at hy
          cases hy
      rw [this] at hy
      obtain rfl := Option.some.inj hy
      obtain rfl : i = n := by omega
      exact hx
theorem open_rowsc {H : Type} {enc : TypeId × Value → H} {w : World} {base : Nat} {spare : Nat → Bool} {held : Bool} {A : Option Addr} {n c : Nat} {d : DataW H} {ps : List MemPlace}
    (h : DataW.Trod enc Tryd.prog w base spare held 26 (.slice A n c) d ps) : ∃ L : BL, (Reads w w.heap.size 1 A n (L.map fun x => .slice x.1 x.2.1 x.2.2.1) ∧ BLok w w.heap.size L) ∧ ∀ x ∈ L, x.2.1 ≤ x.2.2.1 := by
  obtain ⟨fuel, hf⟩ := h
  rcases Go.Deep.open_slice1 Tryd.underlying26 cellsSl hf with ⟨hcs, _⟩ | ⟨a, len, cap, m, f, V, D, Pl, hcs, hb, hl, hm, hmm, hd, hx⟩
  · simp [Value.cells] at hcs
    obtain ⟨rfl, rfl, rfl⟩ := hcs
    exact ⟨[], ⟨⟨rfl, fun h => by omega⟩, fun x hx => by cases hx⟩, fun x hx => by cases hx⟩
  · simp [Value.cells] at hcs
    obtain ⟨rfl, rfl, rfl⟩ := hcs
    have hnm : n ≤ m := by rw [hmm]; split <;> omega
    obtain ⟨L, hL, hp⟩ := list_of (p := fun i (x : Option Addr × Nat × Nat × List UInt8) => w.cell? (a.add i) = some (.slice x.1 x.2.1 x.2.2.1) ∧ Reads w w.heap.size 1 x.1 x.2.1 (bv x.2.2.2) ∧ x.2.1 ≤ x.2.2.1) (n := n) fun i hi => by
      obtain ⟨h1, h2⟩ := hx i (by omega)
      rcases DataW.trod_slice Tryd.underlying22 h2 with ⟨hcs, _⟩ | ⟨a', n', c', _, _, _, _, hcs, _, _, hle, _⟩
      · simp at hcs
        exact ⟨(none, 0, 0, []), by rw [h1, hcs], ⟨rfl, fun h => absurd h (by decide)⟩, Nat.le_refl _⟩
      · simp at hcs
        rw [hcs] at h2 h1
        obtain ⟨bs, hbs, _⟩ := open_bytes (A := some a') (n := n') (c := c') ⟨f, h2⟩
        exact ⟨(some a', n', c', bs), h1, hbs, hle⟩
    refine ⟨L, ⟨⟨by simp [hL], fun hpos => ⟨a, rfl, ?_, fun j v hj => ?_⟩⟩, fun x hx => ?_⟩, fun x hx => ?_⟩
    · have h0 := World.block_lt_of_cell? _ _ (hx 0 (by omega)).1
      rwa [block_of_add] at h0
    · rw [List.getElem?_map, Option.map_eq_some_iff] at hj
      obtain ⟨x, hx, rfl⟩ := hj
      exact (hp j x hx).1
    · obtain ⟨i, hi⟩ := List.getElem?_of_mem hx
      exact (hp i x hi).2.1
    · obtain ⟨i, hi⟩ := List.getElem?_of_mem hx
      exact (hp i x hi).2.2
theorem rows_max {H : Type} {enc : TypeId × Value → H} {w : World} {base : Nat} {spare : Nat → Bool} {held : Bool} {A : Option Addr} {n c : Nat} {d : DataW H} {ps : List MemPlace}
    (h : DataW.Trod enc Tryd.prog w base spare held 26 (.slice A n c) d ps) : n ≤ 9223372036854775807 := by
  obtain ⟨fuel, hf⟩ := h
  rcases Go.Deep.open_slice1 Tryd.underlying26 cellsSl hf with ⟨hcs, _⟩ | ⟨a, len, cap, m, f, V, D, Pl, hcs, hb, hl, hm, hmm, hd, hx⟩
  · simp [Value.cells] at hcs
    omega
  · simp [Value.cells] at hcs
    unfold maxLen at hm
    omega
theorem open_rows {H : Type} {enc : TypeId × Value → H} {w : World} {base : Nat} {spare : Nat → Bool} {held : Bool} {A : Option Addr} {n c : Nat} {d : DataW H} {ps : List MemPlace}
    (h : DataW.Trod enc Tryd.prog w base spare held 26 (.slice A n c) d ps) : ∃ L : BL, Reads w w.heap.size 1 A n (L.map fun x => .slice x.1 x.2.1 x.2.2.1) ∧ BLok w w.heap.size L := by
  obtain ⟨L, h1, _⟩ := open_rowsc h
  exact ⟨L, h1⟩
end Go.Proofs.YtocgfcboigiigaaDoor
