/- A slice of selionlaw04.Step among the arguments, opened as a list; the law's names, as the package's text lays them. No condition. -/
import Derived.Test.YtfccoiofpmhbdaaDoorFrame4
import Derived.Test.YtfccoiofpmhbdaaDoorLawPlays
import Derived.Deep.DeepWitnessRowRef
namespace Go.Proofs.YtfccoiofpmhbdaaDoor
open Go Go.RowKit Go.WideShapes Go.ChangeShapes

theorem cellsSl : Tryd.prog.cellsOf 30 = 1 := by kernel_rfl
/-- A list of what is found at each index. -/
theorem list_of {α : Type} {n : Nat} {p : Nat → α → Prop} (h : ∀ i, i < n → ∃ x, p i x) : ∃ L : List α, L.length = n ∧ ∀ i x, L[i]? = some x → p i x := by
  induction n with
  | zero => exact ⟨[], rfl, fun i x hx => by simp at hx⟩
  | succ n ih =>
    obtain ⟨L, h1, h2⟩ := ih fun i hi => h i (by omega)
    obtain ⟨x, hx⟩ := h n (by omega)
    refine ⟨L ++ [x], by simp [h1], fun i y hy => ?_⟩
    rcases Nat.lt_or_ge i n with hi | hi
    · rw [List.getElem?_append_left (by omega)] at hy
      exact h2 i y hy
    · rw [List.getElem?_append_right (by omega)] at hy
      have : i - L.length = 0 := by
        rcases Nat.eq_zero_or_pos (i - L.length) with h | h
        · exact h
        · rw [List.getElem?_eq_none (by simp; omega)] at hy
          cases hy
      rw [this] at hy
      obtain rfl := Option.some.inj hy
      obtain rfl : i = n := by omega
      exact hx
theorem cellsStep : Tryd.prog.cellsOf 34 = 6 := by kernel_rfl
theorem cellsI8 : Tryd.prog.cellsOf 31 = 1 := by kernel_rfl
theorem cellsStrN : Tryd.prog.cellsOf 9 = 1 := by kernel_rfl
theorem cellsStrs : Tryd.prog.cellsOf 45 = 1 := by kernel_rfl
theorem trod_struct6 {H : Type} {enc : TypeId × Value → H} {P : Program} {w : World} {base : Nat} {spare : Nat → Bool} {held : Bool} {t : TypeId} {f0 f1 f2 f3 f4 f5 : Field} {fuel : Nat} {cs : List Value} {x : DataW H × List MemPlace} (ht : P.underlying t = some (.struct #[f0, f1, f2, f3, f4, f5])) (h : DataW.trod enc P w base spare held fuel t cs = some x) :
    ∃ y0 y1 y2 y3 y4 y5 n, cs.length = P.cellsOf t ∧ DataW.trod enc P w base spare held n f0.type ((cs.drop f0.offset).take (P.cellsOf f0.type)) = some y0 ∧ DataW.trod enc P w base spare held n f1.type ((cs.drop f1.offset).take (P.cellsOf f1.type)) = some y1 ∧ DataW.trod enc P w base spare held n f2.type ((cs.drop f2.offset).take (P.cellsOf f2.type)) = some y2 ∧
      DataW.trod enc P w base spare held n f3.type ((cs.drop f3.offset).take (P.cellsOf f3.type)) = some y3 ∧ DataW.trod enc P w base spare held n f4.type ((cs.drop f4.offset).take (P.cellsOf f4.type)) = some y4 ∧ DataW.trod enc P w base spare held n f5.type ((cs.drop f5.offset).take (P.cellsOf f5.type)) = some y5 := by
  obtain ⟨xs, n, _, rfl, hl, hlen, hf⟩ := DataW.trod_struct ht h
  match xs, hlen with
  | [y0, y1, y2, y3, y4, y5], _ => exact ⟨y0, y1, y2, y3, y4, y5, n, hl, by simpa using hf 0 f0 rfl, by simpa using hf 1 f1 rfl, by simpa using hf 2 f2 rfl, by simpa using hf 3 f3 rfl, by simpa using hf 4 f4 rfl, by simpa using hf 5 f5 rfl⟩
/-- A cell with a slice of bytes. -/
theorem open_cell {H : Type} {enc : TypeId × Value → H} {w : World} {base : Nat} {spare : Nat → Bool} {held : Bool} {m : Nat} {v : Value} {y : DataW H × List MemPlace} (h : DataW.trod enc Tryd.prog w base spare held m 30 [v] = some y) : ∃ A n c bs, v = .slice A n c ∧ Reads w w.heap.size 1 A n (bv bs) := by
  rcases DataW.trod_slice Tryd.underlying30 h with ⟨hcs, _⟩ | ⟨a', n', c', _, _, _, _, hcs, _, _, hle, _⟩
  · simp at hcs
    exact ⟨none, 0, 0, [], hcs, ⟨rfl, fun h => absurd h (by decide)⟩⟩
  · simp at hcs
    subst hcs
    obtain ⟨bs, hbs, _⟩ := open_bytes (A := some a') (n := n') (c := c') ⟨m, h⟩
    exact ⟨some a', n', c', bs, rfl, hbs⟩
set_option maxRecDepth 100000 in
theorem open_steps {H : Type} {enc : TypeId × Value → H} {w : World} {base : Nat} {spare : Nat → Bool} {held : Bool} {A : Option Addr} {n c : Nat} {d : DataW H} {ps : List MemPlace}
    (h : DataW.Trod enc Tryd.prog w base spare held 22 (.slice A n c) d ps) : ∃ L, StepsAt w w.heap.size A n L := by
  obtain ⟨fuel, hf⟩ := h
  rcases DataW.trod_slice Tryd.underlying22 hf with ⟨hcs, _⟩ | ⟨a, len, cap, elems, rest, m, _, hcs, _, hb, hl, hm, hlen, hel, _, _⟩
  · simp [Value.cells] at hcs
    obtain ⟨rfl, rfl, rfl⟩ := hcs
    exact ⟨[], ⟨rfl, fun h => by omega, fun s hs => by cases hs⟩⟩
  · simp [Value.cells] at hcs
    obtain ⟨rfl, rfl, rfl⟩ := hcs
    obtain ⟨L, hL, hp⟩ := list_of (p := fun i (s : StepT) => (w.cell? (a.add (i * 6)) = some (.int .u8 s.dO) ∧ w.cell? ⟨(a.add (i * 6)).block, (a.add (i * 6)).off + 1, none⟩ = some (.int .u8 s.A8) ∧ w.cell? ⟨(a.add (i * 6)).block, (a.add (i * 6)).off + 2, none⟩ = some (.int .u8 s.B8) ∧ w.cell? ⟨(a.add (i * 6)).block, (a.add (i * 6)).off + 3, none⟩ = some (.slice s.As s.ns s.cs) ∧ w.cell? ⟨(a.add (i * 6)).block, (a.add (i * 6)).off + 4, none⟩ = some (.int .i8 s.nn) ∧ w.cell? ⟨(a.add (i * 6)).block, (a.add (i * 6)).off + 5, none⟩ = some (.int .u64 s.bits)) ∧ (s.dO < 256 ∧ s.A8 < 256 ∧ s.B8 < 256 ∧ (-128 ≤ s.nn ∧ s.nn ≤ 127) ∧ s.bits < 2 ^ 64 ∧ Reads w w.heap.size 1 s.As s.ns (bv s.ds))) (n := n) fun i hi => by
      have hE := hel i hi
      have hy : elems[i]? = some (elems[i]'(by omega)) := List.getElem?_eq_getElem (by omega)
      rw [hy, cellsStep, Option.bind_eq_some_iff] at hE
      obtain ⟨cs, hcs, hy'⟩ := hE
      obtain ⟨y0, y1, y2, y3, y4, y5, n', hl6, h0, h1, h2, h3, h4, h5⟩ := trod_struct6 Tryd.underlying34 hy'
      rw [cellsStep] at hl6
      obtain ⟨_, hcl, hat⟩ := World.cells?_some hcs
      match cs, hl6 with
      | [c0, c1, c2, c3, c4, c5], _ =>
        obtain ⟨x0, e0, _, b0⟩ := DataW.trod_int Tryd.underlying5 (by simpa [cellsByte] using h0)
        obtain ⟨x1, e1, _, b1⟩ := DataW.trod_int Tryd.underlying5 (by simpa [cellsByte] using h1)
        obtain ⟨x2, e2, _, b2⟩ := DataW.trod_int Tryd.underlying5 (by simpa [cellsByte] using h2)
        obtain ⟨A3, n3, k3, bs, e3, hr⟩ := open_cell (v := c3) (by simpa [cellsSl] using h3)
        obtain ⟨x4, e4, _, b4⟩ := DataW.trod_int Tryd.underlying31 (by simpa [cellsI8] using h4)
        obtain ⟨x5, e5, _, b5⟩ := DataW.trod_int Tryd.underlying32 (by simpa [cellsU64] using h5)
        simp at e0 e1 e2 e4 e5
        subst e0 e1 e2 e3 e4 e5
        have k0 := bounds_u8 b0
        have k1 := bounds_u8 b1
        have k2 := bounds_u8 b2
        have k5 := bounds_u64 b5
        have k4 := bounds_i8 b4
        obtain ⟨y0', rfl⟩ := Int.eq_ofNat_of_zero_le k0.1
        obtain ⟨y1', rfl⟩ := Int.eq_ofNat_of_zero_le k1.1
        obtain ⟨y2', rfl⟩ := Int.eq_ofNat_of_zero_le k2.1
        obtain ⟨y5', rfl⟩ := Int.eq_ofNat_of_zero_le k5.1
        exact ⟨⟨y0', y1', y2', A3, n3, k3, bs, x4, y5'⟩, ⟨hat 0 (by omega), hat 1 (by omega), hat 2 (by omega), hat 3 (by omega), hat 4 (by omega), hat 5 (by omega)⟩, by show y0' < 256; omega, by show y1' < 256; omega, by show y2' < 256; omega, k4, by show y5' < 2 ^ 64; omega, hr⟩
    refine ⟨L, ⟨hL, fun hpos => ⟨a, rfl, ?_, fun j s hj => (hp j s hj).1⟩, fun s hs => ?_⟩⟩
    · obtain ⟨s0, hs0⟩ : ∃ s, L[0]? = some s := ⟨_, List.getElem?_eq_getElem (by omega)⟩
      have h0 := World.block_lt_of_cell? _ _ (hp 0 s0 hs0).1.1
      rwa [block_of_add] at h0
    · obtain ⟨i, hi⟩ := List.getElem?_of_mem hs
      exact (hp i s hi).2
/-- A string in its cell. -/
def w_cell (W : World) (a : Addr) (i : Nat) (s : Txt) : Prop := W.cell? (a.add i) = some (txt s)
theorem gNames : Tryd.prog.globalNamed "selion/selionlaw04.names" = some 0 := by kernel_rfl
theorem gNamesType : (Tryd.prog.globals[0]?).map (·.type) = some 45 := by kernel_rfl
set_option maxRecDepth 100000 in
theorem names_laid {W : World} (h : laidMetH Tryd.prog [("selion/span.none", Rows.laid_selion_span_none), ("selion/selionlaw04.names", Rows.laid_selion_selionlaw04_names)] W) : NoneLaid W ∧ NamesLaid W W.heap.size := by
  obtain ⟨ps, ⟨g, t, cs, fuel, p, q, hg, ht, hvar, hd, hrest, _⟩, _⟩ := (show laidMet Tryd.prog [("selion/span.none", Rows.laid_selion_span_none), ("selion/selionlaw04.names", Rows.laid_selion_selionlaw04_names)] W from h)
  obtain ⟨g2, t2, cs2, fuel2, p2, q2, hg2, ht2, hvar2, hd2, _, _⟩ := hrest
  obtain rfl := Option.some.inj (gNone.symm.trans hg)
  obtain rfl := Option.some.inj (gNoneType.symm.trans ht)
  obtain rfl := Option.some.inj (gNames.symm.trans hg2)
  obtain rfl := Option.some.inj (gNamesType.symm.trans ht2)
  refine ⟨?_, ?_⟩
  · obtain ⟨y0, y1, n, hx, hl, h0, h1⟩ := trod_struct2 Tryd.underlying86 hd
    rw [cellsSpan] at hl
    obtain ⟨cs⟩ := cs
    match cs, hl with
    | [c0, c1], _ =>
      obtain ⟨a, e0, hy0, wa⟩ := DataW.trod_int Tryd.underlying32 (by simpa [cellsU64] using h0)
      obtain ⟨b, e1, hy1, wb⟩ := DataW.trod_int Tryd.underlying32 (by simpa [cellsU64] using h1)
      simp at e0 e1
      subst e0 e1 hy0 hy1
      simp only [Rows.laid_selion_span_none, Prod.mk.injEq, DataW.agg.injEq, List.cons.injEq, and_true, DataW.lit.injEq, Lit.int.injEq, true_and] at hx
      obtain ⟨⟨rfl, rfl⟩, _⟩ := hx
      exact ⟨World.var?_cell gNone hvar 0, World.var?_cell gNone hvar 1⟩
  · rcases DataW.trod_slice Tryd.underlying45 hd2 with ⟨_, hx⟩ | ⟨a, len, cap, elems, rest, m, _, hcs, hx, hb, hl, hm, hlen, hel, _, _⟩
    · cases hx
    · have hx1 : [Rows.laid_selion_selionlaw04_names (H := Unit)] = [DataW.slice (elems.map (·.1)) (rest.map (·.1))] := by
        rw [Prod.mk.injEq] at hx
        rw [hx.1]
      simp only [Rows.laid_selion_selionlaw04_names, List.cons.injEq, DataW.slice.injEq, and_true] at hx1
      obtain ⟨hx1, _⟩ := hx1
      have hlen4 : len = 4 := by
        have := congrArg List.length hx1
        simp at this
        omega
      subst hlen4
      have hcell := World.var?_cell gNames hvar2 0
      have h0 : cs2[0]? = some (.slice (some a) 4 cap) := by
        rw [← Array.getElem?_toList, hcs]
        rfl
      rw [h0] at hcell
      have each : ∀ i (s : Txt), namesL[i]? = some s → w_cell W a i s := fun i s hs => by
        have hi : i < 4 := (List.getElem?_eq_some_iff.1 hs).1
        have hE := hel i hi
        have hy : elems[i]? = some (elems[i]'(by omega)) := List.getElem?_eq_getElem (by omega)
        rw [hy, cellsStrN, Nat.mul_one, Option.bind_eq_some_iff] at hE
        obtain ⟨cs, hcs', hy'⟩ := hE
        obtain ⟨s', e1, e2, _⟩ := DataW.trod_string Tryd.underlying9 hy'
        subst e1
        have e3 : (elems.map (·.1))[i]? = some (.lit (.string s'.data.toList)) := by rw [List.getElem?_map, hy, e2]; rfl
        rw [← hx1] at e3
        have e4 : s = s'.data.toList := by
          have hi' : i = 0 ∨ i = 1 ∨ i = 2 ∨ i = 3 := by omega
          rcases hi' with rfl | rfl | rfl | rfl <;> (simp [namesL] at hs e3; subst hs; first | exact e3 | exact e3.symm | (simp_all; done))
        unfold w_cell
        rw [cell_of_cells?_one hcs', e4]
        simp [txt]
      refine ⟨World.block_lt_of_cell? _ _ hcell, some a, cap, hcell, rfl, fun _ => ⟨a, rfl, ?_, fun j u hj => ?_⟩⟩
      · have h0 := World.block_lt_of_cell? _ _ (each 0 _ rfl)
        rwa [block_of_add] at h0
      · rw [List.getElem?_map, Option.map_eq_some_iff] at hj
        obtain ⟨s, hs, rfl⟩ := hj
        exact each j s hs
/-- A world for the witness: the settled one, the listed variables holding what their initialisers lay. -/
noncomputable def namesWorld (os : Os) : World :=
  let h1 := (laidWorld os).heap.modify 0 fun o => match o with
    | .cells _ t frozen => .cells #[.slice (some ⟨(laidWorld os).heap.size, 0, none⟩) 4 4] t frozen
    | o => o
  { laidWorld os with heap := h1.push (.cells #[txt [97], txt [98], txt [108, 111, 103], txt []] 9 (0, 0)) }
end Go.Proofs.YtfccoiofpmhbdaaDoor
