/- A slice of bools among the arguments, opened as a list. No program stands in this text. -/
import Derived.Test.YtfccoiofpmhbdaaDoorFrame
import Derived.ChangeSlices
namespace Go.Proofs.YtfccoiofpmhbdaaDoor
open Go Go.RowKit Go.WideShapes Go.ChangeShapes

def boolOf {H : Type} (y : DataW H × List MemPlace) : Bool := match y.1 with | .lit (.bool b) => b | _ => false
theorem open_bools {H : Type} {enc : TypeId × Value → H} {P : Program} {w : World} {base : Nat} {spare : Nat → Bool} {held : Bool} {t e : TypeId} {A : Option Addr} {n c : Nat} {d : DataW H} {ps : List MemPlace} (ht : P.underlying t = some (.slice e)) (he : P.underlying e = some .bool) (hc : P.cellsOf e = 1)
    (h : DataW.Trod enc P w base spare held t (.slice A n c) d ps) :
    ∃ l : List Bool, l.length = n ∧ (l = [] ∨ ∃ g0 : Addr, A = some g0 ∧ g0.block < w.heap.size ∧ ∀ j x, l[j]? = some x → w.cell? (g0.add j) = some (.bool x)) := by
  obtain ⟨fuel, hf⟩ := h
  rcases DataW.trod_slice ht hf with ⟨hcs, _⟩ | ⟨a, len, cap, elems, rest, m, _, hcs, _, hb, hl, hm, hlen, hel, _, _⟩
  · simp [Value.cells] at hcs
    obtain ⟨rfl, rfl, rfl⟩ := hcs
    exact ⟨[], rfl, .inl rfl⟩
  · simp [Value.cells] at hcs
    obtain ⟨rfl, rfl, rfl⟩ := hcs
    have each : ∀ i y, elems[i]? = some y → w.cell? (a.add i) = some (.bool (boolOf y)) := by
      intro i y hy
      have hi : i < n := by rw [← hlen]; exact (List.getElem?_eq_some_iff.1 hy).1
      have hE := hel i hi
      rw [hy, hc, Nat.mul_one, Option.bind_eq_some_iff] at hE
      obtain ⟨cs, hcs, hy'⟩ := hE
      obtain ⟨b, rfl, rfl⟩ := DataW.trod_bool he hy'
      exact cell_of_cells?_one hcs
    refine ⟨elems.map boolOf, by simpa using hlen, ?_⟩
    cases elems with
    | nil => exact .inl rfl
    | cons y ys =>
      refine .inr ⟨a, rfl, ?_, fun j x hj => ?_⟩
      · have h0 := World.block_lt_of_cell? _ _ (each 0 y rfl)
        simpa [Addr.add] using h0
      · rw [List.getElem?_map] at hj
        cases hz : (y :: ys)[j]? with
        | none => rw [hz] at hj; cases hj
        | some z =>
          rw [hz] at hj
          obtain rfl := Option.some.inj hj
          exact each j z hz
end Go.Proofs.YtfccoiofpmhbdaaDoor
