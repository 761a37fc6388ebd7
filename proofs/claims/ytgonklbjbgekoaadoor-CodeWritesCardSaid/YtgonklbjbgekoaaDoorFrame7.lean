/- A slice of numbers, of texts among the arguments, opened as a list. No condition. -/
import Derived.Test.YtgonklbjbgekoaaDoorFrame5
import Derived.Test.YtgonklbjbgekoaaDoorBytes1
import Derived.Deep.Slices
namespace Go.Proofs.YtgonklbjbgekoaaDoor
open Go Go.RowKit Go.WideShapes Go.ChangeShapes

theorem cellsU64' : Tryd.prog.cellsOf 33 = 1 := by kernel_rfl
theorem cellsStr : Tryd.prog.cellsOf 9 = 1 := by kernel_rfl
/-- A list of what is found at each index. -/
theorem list_at {α : Type} {n : Nat} {p : Nat → α → Prop} (h : ∀ i, i < n → ∃ x, p i x) : ∃ L : List α, L.length = n ∧ ∀ i x, L[i]? = some x → p i x := by
  induction n with
  | zero => exact ⟨[], rfl, fun i x hx => by simp at hx⟩
  | succ n ih =>
    obtain ⟨L, h1, h2⟩ := ih fun i hi => h i (by omega)
    obtain ⟨x, hx⟩ := h n (by omega)
    refine ⟨L ++ [x], by simp [h1], fun i y hy => ?_⟩
    rcases Nat.lt_or_ge i n with hi | hi
    · rw [List.getElem?_append_left (by omega)] at hy
      exact h2 i y hy
    · rw [List.getElem?_append_right (by omega)] at hy
      have : i - L.length = 0 := by
        rcases Nat.eq_zero_or_pos (i - L.length) with h | h
        · exact h
        · rw [List.getElem?_eq_none (by simp; omega)] at hy
          cases hy
      rw [this] at hy
      obtain rfl := Option.some.inj hy
      obtain rfl : i = n := by omega
      exact hx
theorem open_one {H : Type} {enc : TypeId × Value → H} {P : Program} {w : World} {base : Nat} {spare : Nat → Bool} {held : Bool} {t e : TypeId} {A : Option Addr} {n c : Nat} {d : DataW H} {ps : List MemPlace} {α : Type} (f : α → Value) (p : α → Prop)
    (ht : P.underlying t = some (.slice e)) (hce : P.cellsOf e = 1) (hone : ∀ m v x, DataW.trod enc P w base spare held m e [v] = some x → ∃ a, v = f a ∧ p a)
    (h : DataW.Trod enc P w base spare held t (.slice A n c) d ps) : ∃ L : List α, Reads w w.heap.size 1 A n (L.map f) ∧ ∀ a ∈ L, p a := by
  obtain ⟨fuel, hf⟩ := h
  rcases Go.Deep.open_slice1 ht hce hf with ⟨hcs, _⟩ | ⟨a, len, cap, m, g, V, D, Pl, hcs, hb, hl, hm, hmm, hd, hx⟩
  · simp [Value.cells] at hcs
    obtain ⟨rfl, rfl, rfl⟩ := hcs
    exact ⟨[], ⟨rfl, fun h => by omega⟩, fun x hx => by cases hx⟩
  · simp [Value.cells] at hcs
    obtain ⟨rfl, rfl, rfl⟩ := hcs
    have hnm : n ≤ m := by rw [hmm]; split <;> omega
    obtain ⟨L, hL, hp⟩ := list_at (p := fun i (x : α) => w.cell? (a.add i) = some (f x) ∧ p x) (n := n) fun i hi => by
      obtain ⟨h1, h2⟩ := hx i (by omega)
      obtain ⟨x, h3, h4⟩ := hone _ _ _ h2
      exact ⟨x, by rw [h1, h3], h4⟩
    refine ⟨L, ⟨by simp [hL], fun hpos => ⟨a, rfl, ?_, fun j v hj => ?_⟩⟩, fun x hx => ?_⟩
    · have h0 := World.block_lt_of_cell? _ _ (hx 0 (by omega)).1
      rwa [block_of_add] at h0
    · rw [List.getElem?_map, Option.map_eq_some_iff] at hj
      obtain ⟨x, hx, rfl⟩ := hj
      exact (hp j x hx).1
    · obtain ⟨i, hi⟩ := List.getElem?_of_mem hx
      exact (hp i x hi).2
theorem open_u64s {H : Type} {enc : TypeId × Value → H} {w : World} {base : Nat} {spare : Nat → Bool} {held : Bool} {A : Option Addr} {n c : Nat} {d : DataW H} {ps : List MemPlace}
    (h : DataW.Trod enc Tryd.prog w base spare held 74 (.slice A n c) d ps) : ∃ us : List Nat, Reads w w.heap.size 1 A n (us.map fun u : Nat => .int .u64 (u : Int)) ∧ ∀ u ∈ us, u < 2 ^ 64 :=
  open_one (fun u : Nat => .int .u64 (u : Int)) (fun u => u < 2 ^ 64) Tryd.underlying74 cellsU64' (fun m v x hx => by
    obtain ⟨x0, e0, _, b0⟩ := DataW.trod_int Tryd.underlying33 hx
    simp at e0
    subst e0
    have k0 := bounds_u64 b0
    exact ⟨x0.toNat, by congr 1; omega, by omega⟩) h
theorem open_txts {H : Type} {enc : TypeId × Value → H} {w : World} {base : Nat} {spare : Nat → Bool} {held : Bool} {A : Option Addr} {n c : Nat} {d : DataW H} {ps : List MemPlace}
    (h : DataW.Trod enc Tryd.prog w base spare held 62 (.slice A n c) d ps) : ∃ ss : List Txt, Reads w w.heap.size 1 A n (ss.map txt) ∧ ∀ s ∈ ss, True :=
  open_one txt (fun _ => True) Tryd.underlying62 cellsStr (fun m v x hx => by
    obtain ⟨s', h1, h2, _⟩ := DataW.trod_string Tryd.underlying9 hx
    simp at h1
    subst h1
    exact ⟨s'.data.toList, by simp [txt], trivial⟩) h
end Go.Proofs.YtgonklbjbgekoaaDoor
