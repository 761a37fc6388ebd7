/- A slice of bytes among the arguments, opened as a list. No condition. -/
import Derived.Test.YtfccoiofpmhbdaaDoorFrame2
import Derived.Test.YtfccoiofpmhbdaaDoorBytes1
import Derived.SizedLaws
namespace Go.Proofs.YtfccoiofpmhbdaaDoor
open Go Go.RowKit Go.WideShapes Go.ChangeShapes

theorem cellsByte : Tryd.prog.cellsOf 5 = 1 := by kernel_rfl
theorem bytesByte : Tryd.prog.bytesOf 5 = 1 := by kernel_rfl
set_option maxRecDepth 100000 in
theorem open_bytes {H : Type} {enc : TypeId × Value → H} {w : World} {base : Nat} {spare : Nat → Bool} {held : Bool} {A : Option Addr} {n c : Nat} {d : DataW H} {ps : List MemPlace}
    (h : DataW.Trod enc Tryd.prog w base spare held 30 (.slice A n c) d ps) : ∃ bs, Reads w w.heap.size 1 A n (bv bs) ∧ (n = 0 ∨ ∃ es sp, d = .slice es sp ∧ es.length = n) := by
  obtain ⟨fuel, hf⟩ := h
  rcases DataW.trod_slice Tryd.underlying30 hf with ⟨hcs, _⟩ | ⟨a, len, cap, elems, rest, m, _, hcs, hd, hb, hl, hm, hlen, hel, _, _⟩
  · simp [Value.cells] at hcs
    obtain ⟨rfl, rfl, rfl⟩ := hcs
    exact ⟨[], ⟨rfl, fun h => by omega⟩, .inl rfl⟩
  · simp [Value.cells] at hcs
    obtain ⟨rfl, rfl, rfl⟩ := hcs
    have each : ∀ i, i < n → ∃ s : UInt8, w.cell? (a.add i) = some (byteV s) := by
      intro i hi
      have hE := hel i hi
      have hy : elems[i]? = some (elems[i]'(by omega)) := List.getElem?_eq_getElem (by omega)
      rw [hy, cellsByte, Nat.mul_one, Option.bind_eq_some_iff] at hE
      obtain ⟨cs, hcs, hy'⟩ := hE
      obtain ⟨x0, e0, hy0, b0⟩ := DataW.trod_int Tryd.underlying5 hy'
      subst e0
      have k0 := bounds_u8 b0
      refine ⟨UInt8.ofNat x0.toNat, ?_⟩
      rw [cell_of_cells?_one hcs]
      unfold byteV
      have e : ((UInt8.ofNat x0.toNat).toNat : Int) = x0 := by
        simp only [UInt8.toNat_ofNat']
        omega
      rw [e]
    refine ⟨(List.range n).map fun i => if h : i < n then (each i h).choose else 0, ⟨by simp [bv], fun hpos => ⟨a, rfl, ?_, fun j s hj => ?_⟩⟩, .inr ⟨elems.map (·.1), rest.map (·.1), ?_, by simpa using hlen⟩⟩
    · have h0 := World.block_lt_of_cell? _ _ (each 0 hpos).choose_spec
      rwa [block_of_add] at h0
    · rw [bv, List.getElem?_map, List.getElem?_map] at hj
      have hjn : j < n := by
        rcases Nat.lt_or_ge j n with h | h
        · exact h
        · rw [List.getElem?_eq_none (by simpa using h)] at hj; cases hj
      rw [List.getElem?_range hjn] at hj
      obtain rfl := Option.some.inj hj
      simp only [dif_pos hjn]
      exact (each j hjn).choose_spec
    · injection hd
theorem bytes_small {H : Type} {ts : List TypeId} {ds : List (DataW H)} (h : (DataW.weightsEach Tryd.prog ts ds).all (· ≤ reachBytes) = true) {j : Nat} {n : Nat} {d : DataW H} (ht : ts[j]? = some 30) (hj : ds[j]? = some d) (hd : n = 0 ∨ ∃ es sp, d = .slice es sp ∧ es.length = n) : n ≤ 140737488355328 := by
  rcases hd with rfl | ⟨es, sp, rfl, rfl⟩
  · omega
  · have := sized_slice h ht hj Tryd.underlying30
    rw [bytesByte] at this
    have h2 : reachBytes = 140737488351232 := rfl
    omega
theorem slice_cap {H : Type} {enc : TypeId × Value → H} {P : Program} {w : World} {base : Nat} {spare : Nat → Bool} {held : Bool} {t e : TypeId} {A : Option Addr} {n c : Nat} {d : DataW H} {ps : List MemPlace} (ht : P.underlying t = some (.slice e))
    (h : DataW.Trod enc P w base spare held t (.slice A n c) d ps) : n ≤ c := by
  obtain ⟨fuel, hf⟩ := h
  rcases DataW.trod_slice ht hf with ⟨hcs, _⟩ | ⟨a, len, cap, elems, rest, m, _, hcs, _, _, hl, _⟩
  · simp [Value.cells] at hcs
    omega
  · simp [Value.cells] at hcs
    omega
end Go.Proofs.YtfccoiofpmhbdaaDoor
