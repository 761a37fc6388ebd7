/- A slice of selionlaw01.S among the arguments, opened as a list of three numbers each. No condition. -/
import Derived.Test.YtccmalpbejednaaDoorFrame2
import Derived.Test.YtccmalpbejednaaDoorLawOf
import Derived.Deep.Strs
namespace Go.Proofs.YtccmalpbejednaaDoor
open Go Go.RowKit Go.WideShapes Go.ChangeShapes

theorem cellsS3 : Tryd.prog.cellsOf 59 = 3 := by kernel_rfl
theorem cellsU8 : Tryd.prog.cellsOf 5 = 1 := by kernel_rfl
set_option maxRecDepth 100000 in
theorem open_ss {H : Type} {enc : TypeId × Value → H} {w : World} {base : Nat} {spare : Nat → Bool} {held : Bool} {A : Option Addr} {n c : Nat} {d : DataW H} {ps : List MemPlace}
    (h : DataW.Trod enc Tryd.prog w base spare held 22 (.slice A n c) d ps) : ∃ xs, SArg w A n xs ∧ n ≤ maxLen := by
  obtain ⟨fuel, hf⟩ := h
  rcases DataW.trod_slice Tryd.underlying22 hf with ⟨hcs, _⟩ | ⟨a, len, cap, elems, rest, m, _, hcs, _, hb, hl, hm, hlen, hel, _, _⟩
  · simp [Value.cells] at hcs
    obtain ⟨rfl, rfl, rfl⟩ := hcs
    exact ⟨[], ⟨rfl, by simp, .inl rfl⟩, by unfold maxLen; omega⟩
  · simp [Value.cells] at hcs
    obtain ⟨rfl, rfl, rfl⟩ := hcs
    have each : ∀ i, i < n → ∃ s : Int × Int × Int, (U64 s.1 ∧ U64 s.2.1 ∧ 0 ≤ s.2.2 ∧ s.2.2 < 256) ∧ w.cell? (a.add (i * 3)) = some (.int .u64 s.1) ∧ w.cell? (a.add (i * 3 + 1)) = some (.int .u64 s.2.1) ∧ w.cell? (a.add (i * 3 + 2)) = some (.int .u8 s.2.2) := by
      intro i hi
      have hE := hel i hi
      have hy : elems[i]? = some (elems[i]'(by omega)) := List.getElem?_eq_getElem (by omega)
      rw [hy, cellsS3, Option.bind_eq_some_iff] at hE
      obtain ⟨cs, hcs, hy'⟩ := hE
      obtain ⟨y0, y1, y2, n', _, hl3, h0, h1, h2⟩ := Go.Deep.trod_struct3 Tryd.underlying59 hy'
      rw [cellsS3] at hl3
      obtain ⟨_, hcl, hat⟩ := World.cells?_some hcs
      match cs, hl3 with
      | [c0, c1, c2], _ =>
        obtain ⟨x0, e0, hy0, b0⟩ := DataW.trod_int Tryd.underlying29 (by simpa [cellsU64] using h0)
        obtain ⟨x1, e1, hy1, b1⟩ := DataW.trod_int Tryd.underlying29 (by simpa [cellsU64] using h1)
        obtain ⟨x2, e2, hy2, b2⟩ := DataW.trod_int Tryd.underlying5 (by simpa [cellsU8] using h2)
        simp at e0 e1 e2
        subst e0 e1 e2
        have k0 := bounds_u64 b0
        have k1 := bounds_u64 b1
        have k2 := bounds_u8 b2
        have a0 := hat 0 (by omega)
        have a1 := hat 1 (by omega)
        have a2 := hat 2 (by omega)
        rw [add_of_add] at a0 a1 a2
        exact ⟨(x0, x1, x2), ⟨⟨k0.1, by (show x0 < _; omega)⟩, ⟨k1.1, by (show x1 < _; omega)⟩, k2.1, by (show x2 < _; omega)⟩, a0, a1, a2⟩
    refine ⟨(List.range n).map fun i => if h : i < n then (each i h).choose else (0, 0, 0), ⟨by simp, ?_, ?_⟩, by omega⟩
    · intro s hs
      obtain ⟨i, hi, rfl⟩ := List.mem_map.1 hs
      rw [List.mem_range] at hi
      rw [dif_pos hi]
      exact (each i hi).choose_spec.1
    · rcases Nat.eq_zero_or_pos n with rfl | hpos
      · exact .inl rfl
      · refine .inr ⟨a, rfl, ?_, fun j s hj => ?_⟩
        · have h0 := World.block_lt_of_cell? _ _ (each 0 hpos).choose_spec.2.1
          rwa [block_of_add] at h0
        · rw [List.getElem?_map] at hj
          have hjn : j < n := by
            rcases Nat.lt_or_ge j n with h | h
            · exact h
            · rw [List.getElem?_eq_none (by simpa using h)] at hj; cases hj
          rw [List.getElem?_range hjn] at hj
          obtain rfl := Option.some.inj hj
          simp only [dif_pos hjn]
          exact (each j hjn).choose_spec.2
end Go.Proofs.YtccmalpbejednaaDoor
