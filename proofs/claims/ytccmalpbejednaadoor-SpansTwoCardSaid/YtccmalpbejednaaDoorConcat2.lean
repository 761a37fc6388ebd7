/- slices.Concat and slices.Reverse at rows of spans. Condition: not too many spans. -/
import Derived.Test.YtccmalpbejednaaDoorJoin2
namespace Go.Proofs.YtccmalpbejednaaDoor
open Go Go.Proofs Go.RowKit

/-- Slices of spans, and as what each reads. -/
abbrev SL := List (Option Addr × Nat × Nat × List (Int × Int))
def SLok (w : World) (B : Nat) (L : SL) : Prop := ∀ x ∈ L, SpanRow w B x.1 x.2.1 x.2.2.2
def totL (L : SL) : Nat := (L.map (·.2.1)).sum
def flatL (L : SL) : List (Int × Int) := L.flatMap (·.2.2.2)
theorem totL_step {L : SL} {k : Nat} {x} (h : L[k]? = some x) : totL (L.take (k + 1)) = totL (L.take k) + x.2.1 := by
  have hk := (List.getElem?_eq_some_iff.1 h).1
  have hs : L[k] = x := by rw [List.getElem?_eq_getElem hk] at h; exact Option.some.inj h
  rw [List.take_succ_eq_append_getElem hk, hs]
  simp [totL]
theorem flatL_step {L : SL} {k : Nat} {x} (h : L[k]? = some x) : flatL (L.take (k + 1)) = flatL (L.take k) ++ x.2.2.2 := by
  have hk := (List.getElem?_eq_some_iff.1 h).1
  have hs : L[k] = x := by rw [List.getElem?_eq_getElem hk] at h; exact Option.some.inj h
  rw [List.take_succ_eq_append_getElem hk, hs]
  simp [flatL]
theorem totL_take (L : SL) (k : Nat) : totL (L.take k) ≤ totL L := by
  have : totL (L.take k ++ L.drop k) = totL (L.take k) + totL (L.drop k) := by simp only [totL, List.map_append, List.sum_append]
  rw [List.take_append_drop] at this
  omega
theorem SLok.below {w w' : World} {B B' : Nat} {L : SL} (h : SLok w B L) (hb : Below B' w w') (hB : B ≤ B') : SLok w' B L := fun x hx => (h x hx).below hb hB
theorem grow_row {w : World} {g cap n base : Nat} {t : TypeId} {z : Value} (hz : z.cells.size = 2) (h : w.heap[g]? = some (.cells (([] : List Value).toArray ++ Builtin.zeroCells z.cells (0 + n - 0) ++ Builtin.zeroCells z.cells (cap - (0 + n))) t (0, 0))) (hn : n ≤ cap) (hc : cap ≤ maxLen) (hb : base ≤ g) :
    w.ownsRow base t 2 (.slice (some ⟨g, 0, none⟩) 0 cap) 0 [] := by
  refine ⟨rfl, .inr ⟨g, cap, _, rfl, hb, h, Nat.zero_le _, hc, ?_, rfl⟩⟩
  simp only [Array.size_append, Builtin.zeroCells, hz]
  simp
  omega
/-- A row of spans of the call's own is answered. -/
def RetOwn (w : World) (xs : List (Int × Int)) (e : Ending) (w' : World) : Prop := ∃ v n, e = .returned v ∧ w'.ownsRow w.heap.size 31 2 v n (flatS xs) ∧ Below w.heap.size w w'
set_option maxHeartbeats 4000000 in
set_option maxRecDepth 100000 in
theorem growSpans (n : Nat) (w : World) (hn : n ≤ 1000000000) :
    Calls Tryd.prog 61 #[.slice none 0 0, .int .i64 n] w fun e w' => ∃ A c, e = .returned (.slice A 0 c) ∧ w'.ownsRow w.heap.size 31 2 (.slice A 0 c) 0 [] ∧ Below w.heap.size w w' := by
  obtain ⟨i0, hi, hz0, hz1, hz2⟩ := info_parts info_span
  rcases Nat.eq_zero_or_pos n with rfl | hpos
  · refine (Any8.slices_Grow_room Tryd.growSpan none 0 0 0 w (by omega) (by omega) (by omega) (by omega)).mono ?_
    rintro e w' ⟨rfl, rfl⟩
    exact ⟨_, _, rfl, World.ownsRow_nil _ _ _ _, Below.refl _ _⟩
  · have h := Any8.slices_Grow_grow Tryd.growSpan i0 (.agg #[.int .u64 0, .int .u64 0]) hi hz0 (by omega) none 0 0 n [] w (by omega) (by omega) (by rw [hz2]; omega) (by omega) (by rw [hz1]; rfl) (fun _ => rfl) (fun a ha => by cases ha)
    refine Calls.mono h ?_
    rintro e w' ⟨rfl, rfl⟩
    have hge := grownCap_ge w (0 + n) 0 (Tryd.growSpan_ren.t 25)
    have hle := grownCap_le_maxLen w (0 + n) 0 (Tryd.growSpan_ren.t 25) (by unfold maxLen; omega)
    refine ⟨_, _, rfl, grow_row (z := .agg #[.int .u64 0, .int .u64 0]) rfl (heap_new_at rfl) (by omega) hle (Nat.le_refl _), ?_⟩
    exact (Below.refl w.heap.size w).drew.alloc (Nat.le_refl _) _
set_option maxHeartbeats 4000000 in
set_option maxRecDepth 100000 in
theorem concatSpans (g c m B : Nat) (L : SL) (w : World) (hm : L.length = m) (hm2 : m ≤ 100) (hg : g < w.heap.size) (hB : B ≤ w.heap.size) (hc : ∀ j x, L[j]? = some x → w.cell? ⟨g, j, none⟩ = some (.slice x.1 x.2.1 x.2.2.1)) (hL : SLok w B L) (hT : totL L ≤ 1000000000) :
    Calls Tryd.prog 39 #[.slice (some ⟨g, 0, none⟩) m c] w (RetOwn w (flatL L)) := by
  obtain ⟨i0, hi, hz0, hz1, hz2⟩ := info_parts info_span
  have HL := Lib.hid hL
  have HC := Lib.hid hc
  have HM := Lib.hid hm
  clear hL hc hm
  go_enter Tryd.func39, Tryd.ntmps39
  go_wp2_with (fail)
  go_loopw [3, 5, 11] (fun s _ i wr => ∃ k : Nat, k ≤ m ∧ i = .int .i64 k ∧ s = .int .i64 (totL (L.take k)) ∧ w = wr) (fun _ _ i _ => m - (intOf i).toNat)
  case atStart => exact ⟨0, Nat.zero_le _, rfl, rfl, rfl⟩
  case round =>
    obtain ⟨k, hk, rfl, rfl, rfl⟩ := hrel
    by_cases hlt : k < m
    · obtain ⟨x, hx⟩ : ∃ x, L[k]? = some x := ⟨L[k]'(by rw [HM.out]; omega), List.getElem?_eq_getElem _⟩
      have d0 := HC.out k x hx
      have hs := totL_step hx
      have ht := totL_take L (k + 1)
      obtain ⟨A1, n1, c1, xs1⟩ := x
      simp only at hs d0
      have HS := Lib.hid hs
      have hsum : totL (L.take k) + n1 ≤ 1000000000 := by omega
      generalize totL (L.take k) = tk at *
      have hin0 : (0 : Int) ≤ (k : Int) := by omega
      have hin1 : (k : Int) < (m : Int) := by omega
      clear hx hs ht
      go_wp2_with (fail)
      refine ⟨⟨k + 1, by omega, by go_num, by rw [HS.out]; go_num, trivial⟩, by simp [intOf]; omega⟩
    · obtain rfl : k = m := by omega
      rw [show L.take k = L from List.take_of_length_le (by rw [HM.out]; omega)]
      generalize hTT : totL L = tt at *
      have HTT := Lib.hid hTT
      clear hTT
      go_wp2_with (fail)
      refine (growSpans tt _ hT).mono ?_
      rintro e w1 ⟨A1, c1, rfl, hown1, hb1⟩
      have hown0 := Lib.hid hown1
      clear hown1
      go_wp2_with (fail)
      have hsz1 := hb1.size
      go_loopw [6, 8, 27] (fun v _ i wq => ∃ j : Nat, j ≤ k ∧ i = .int .i64 j ∧ wq.ownsRow w.heap.size 31 2 v (totL (L.take j)) (flatS (flatL (L.take j))) ∧ Below w.heap.size w wq) (fun _ _ i _ => k - (intOf i).toNat)
      case atStart => exact ⟨0, Nat.zero_le _, rfl, hown0.out, hb1⟩
      case round =>
        obtain ⟨j, hj, rfl, hown, hb⟩ := hrel
        have hsz := hb.size
        by_cases hjt : j < k
        · obtain ⟨x, hx⟩ : ∃ x, L[j]? = some x := ⟨L[j]'(by rw [HM.out]; omega), List.getElem?_eq_getElem _⟩
          have d0 := cellk hb (p := ⟨g, j, none⟩) hg (HC.out j x hx)
          have hrow := (HL.out x (List.mem_of_getElem? hx)).below hb hB
          have hs := totL_step hx
          have hf := flatL_step hx
          have ht := totL_take L (j + 1)
          obtain ⟨A2, n2, c2, xs2⟩ := x
          simp only at hs hf d0 hrow
          have HS := Lib.hid hs
          have HF := Lib.hid hf
          have hsum : totL (L.take j) + n2 ≤ 1000000000 := by
            have : totL (L.take (j + 1)) ≤ tt := by rw [← HTT.out]; exact ht
            omega
          obtain ⟨tk, htk⟩ : ∃ tk, tk = totL (L.take j) := ⟨_, rfl⟩
          rw [← htk] at hsum hown
          have HTK := Lib.hid htk
          have hin0 : (0 : Int) ≤ (j : Int) := by omega
          have hin1 : (j : Int) < (k : Int) := by omega
          have how := Lib.hid hown
          obtain ⟨A3, c3, rfl, hc3, _⟩ := SpanRow.of_owns hown
          have HR := Lib.hid hrow
          clear hx hs hf ht htk hown hrow
          go_wp2_with (at_builtin; (refine wpList_append_any _ rfl (.tmp 31) (.tmp 32) 24 rfl w.heap.size 31 i0 (.agg #[.int .u64 0, .int .u64 0]) 2 16 Tryd.underlying24 hi hz0 hz1 hz2 rfl (by decide) (.slice A3 tk c3) tk (flatS (flatL (L.take j))) rfl how.out B A2 n2 c2 (flatS xs2) rfl HR.out.reads (flatS_one xs2) (by unfold maxLen; omega) (by omega) hsz ?_; intro v5 w5 hown5 hgr5 _))
          refine ⟨⟨j + 1, by omega, by go_num, ?_, ?_⟩, by simp [intOf]; omega⟩
          · rw [HS.out, HF.out, flatS_append, ← HTK.out]
            exact hown5
          · exact hb.grown hgr5 hsz (fun j hj => (how.out.lt j hj).1)
        · obtain rfl : j = k := by omega
          rw [show L.take j = L from List.take_of_length_le (by rw [HM.out]; omega)] at hown
          go_wp2_with (fail)
          go_ret
          exact ⟨_, _, rfl, hown, hb⟩
set_option maxHeartbeats 4000000 in
set_option maxRecDepth 100000 in
theorem growSets (n : Nat) (w : World) (hn : n ≤ 1000000000) :
    Calls Tryd.prog 62 #[.slice none 0 0, .int .i64 n] w fun e w' => ∃ A c, e = .returned (.slice A 0 c) ∧ w'.ownsRow w.heap.size 31 2 (.slice A 0 c) 0 [] ∧ Below w.heap.size w w' := by
  obtain ⟨i0, hi, hz0, hz1, hz2⟩ := info_parts info_span
  rcases Nat.eq_zero_or_pos n with rfl | hpos
  · refine (Any8.slices_Grow_room Tryd.growSet none 0 0 0 w (by omega) (by omega) (by omega) (by omega)).mono ?_
    rintro e w' ⟨rfl, rfl⟩
    exact ⟨_, _, rfl, World.ownsRow_nil _ _ _ _, Below.refl _ _⟩
  · have h := Any8.slices_Grow_grow Tryd.growSet i0 (.agg #[.int .u64 0, .int .u64 0]) hi hz0 (by omega) none 0 0 n [] w (by omega) (by omega) (by rw [hz2]; omega) (by omega) (by rw [hz1]; rfl) (fun _ => rfl) (fun a ha => by cases ha)
    refine Calls.mono h ?_
    rintro e w' ⟨rfl, rfl⟩
    have hge := grownCap_ge w (0 + n) 0 (Tryd.growSet_ren.t 25)
    have hle := grownCap_le_maxLen w (0 + n) 0 (Tryd.growSet_ren.t 25) (by unfold maxLen; omega)
    refine ⟨_, _, rfl, grow_row (z := .agg #[.int .u64 0, .int .u64 0]) rfl (heap_new_at rfl) (by omega) hle (Nat.le_refl _), ?_⟩
    exact (Below.refl w.heap.size w).drew.alloc (Nat.le_refl _) _
set_option maxHeartbeats 4000000 in
set_option maxRecDepth 100000 in
theorem concatSets (g c m B : Nat) (L : SL) (w : World) (hm : L.length = m) (hm2 : m ≤ 100) (hg : g < w.heap.size) (hB : B ≤ w.heap.size) (hc : ∀ j x, L[j]? = some x → w.cell? ⟨g, j, none⟩ = some (.slice x.1 x.2.1 x.2.2.1)) (hL : SLok w B L) (hT : totL L ≤ 1000000000) :
    Calls Tryd.prog 41 #[.slice (some ⟨g, 0, none⟩) m c] w (RetOwn w (flatL L)) := by
  obtain ⟨i0, hi, hz0, hz1, hz2⟩ := info_parts info_span
  have HL := Lib.hid hL
  have HC := Lib.hid hc
  have HM := Lib.hid hm
  clear hL hc hm
  go_enter Tryd.func41, Tryd.ntmps41
  go_wp2_with (fail)
  go_loopw [3, 5, 11] (fun s _ i wr => ∃ k : Nat, k ≤ m ∧ i = .int .i64 k ∧ s = .int .i64 (totL (L.take k)) ∧ w = wr) (fun _ _ i _ => m - (intOf i).toNat)
  case atStart => exact ⟨0, Nat.zero_le _, rfl, rfl, rfl⟩
  case round =>
    obtain ⟨k, hk, rfl, rfl, rfl⟩ := hrel
    by_cases hlt : k < m
    · obtain ⟨x, hx⟩ : ∃ x, L[k]? = some x := ⟨L[k]'(by rw [HM.out]; omega), List.getElem?_eq_getElem _⟩
      have d0 := HC.out k x hx
      have hs := totL_step hx
      have ht := totL_take L (k + 1)
      obtain ⟨A1, n1, c1, xs1⟩ := x
      simp only at hs d0
      have HS := Lib.hid hs
      have hsum : totL (L.take k) + n1 ≤ 1000000000 := by omega
      generalize totL (L.take k) = tk at *
      have hin0 : (0 : Int) ≤ (k : Int) := by omega
      have hin1 : (k : Int) < (m : Int) := by omega
      clear hx hs ht
      go_wp2_with (fail)
      refine ⟨⟨k + 1, by omega, by go_num, by rw [HS.out]; go_num, trivial⟩, by simp [intOf]; omega⟩
    · obtain rfl : k = m := by omega
      rw [show L.take k = L from List.take_of_length_le (by rw [HM.out]; omega)]
      generalize hTT : totL L = tt at *
      have HTT := Lib.hid hTT
      clear hTT
      go_wp2_with (fail)
      refine (growSets tt _ hT).mono ?_
      rintro e w1 ⟨A1, c1, rfl, hown1, hb1⟩
      have hown0 := Lib.hid hown1
      clear hown1
      go_wp2_with (fail)
      have hsz1 := hb1.size
      go_loopw [6, 8, 27] (fun v _ i wq => ∃ j : Nat, j ≤ k ∧ i = .int .i64 j ∧ wq.ownsRow w.heap.size 31 2 v (totL (L.take j)) (flatS (flatL (L.take j))) ∧ Below w.heap.size w wq) (fun _ _ i _ => k - (intOf i).toNat)
      case atStart => exact ⟨0, Nat.zero_le _, rfl, hown0.out, hb1⟩
      case round =>
        obtain ⟨j, hj, rfl, hown, hb⟩ := hrel
        have hsz := hb.size
        by_cases hjt : j < k
        · obtain ⟨x, hx⟩ : ∃ x, L[j]? = some x := ⟨L[j]'(by rw [HM.out]; omega), List.getElem?_eq_getElem _⟩
          have d0 := cellk hb (p := ⟨g, j, none⟩) hg (HC.out j x hx)
          have hrow := (HL.out x (List.mem_of_getElem? hx)).below hb hB
          have hs := totL_step hx
          have hf := flatL_step hx
          have ht := totL_take L (j + 1)
          obtain ⟨A2, n2, c2, xs2⟩ := x
          simp only at hs hf d0 hrow
          have HS := Lib.hid hs
          have HF := Lib.hid hf
          have hsum : totL (L.take j) + n2 ≤ 1000000000 := by
            have : totL (L.take (j + 1)) ≤ tt := by rw [← HTT.out]; exact ht
            omega
          obtain ⟨tk, htk⟩ : ∃ tk, tk = totL (L.take j) := ⟨_, rfl⟩
          rw [← htk] at hsum hown
          have HTK := Lib.hid htk
          have hin0 : (0 : Int) ≤ (j : Int) := by omega
          have hin1 : (j : Int) < (k : Int) := by omega
          have how := Lib.hid hown
          obtain ⟨A3, c3, rfl, hc3, _⟩ := SpanRow.of_owns hown
          have HR := Lib.hid hrow
          clear hx hs hf ht htk hown hrow
          go_wp2_with (at_builtin; (refine wpList_append_any _ rfl (.tmp 31) (.tmp 32) 26 rfl w.heap.size 31 i0 (.agg #[.int .u64 0, .int .u64 0]) 2 16 Tryd.underlying26 hi hz0 hz1 hz2 rfl (by decide) (.slice A3 tk c3) tk (flatS (flatL (L.take j))) rfl how.out B A2 n2 c2 (flatS xs2) rfl HR.out.reads (flatS_one xs2) (by unfold maxLen; omega) (by omega) hsz ?_; intro v5 w5 hown5 hgr5 _))
          refine ⟨⟨j + 1, by omega, by go_num, ?_, ?_⟩, by simp [intOf]; omega⟩
          · rw [HS.out, HF.out, flatS_append, ← HTK.out]
            exact hown5
          · exact hb.grown hgr5 hsz (fun j hj => (how.out.lt j hj).1)
        · obtain rfl : j = k := by omega
          rw [show L.take j = L from List.take_of_length_le (by rw [HM.out]; omega)] at hown
          go_wp2_with (fail)
          go_ret
          exact ⟨_, _, rfl, hown, hb⟩
theorem reverseAny (B g n cap : Nat) (xs : List (Int × Int)) (w : World) (hown : w.ownsRow B 31 2 (.slice (some ⟨g, 0, none⟩) n cap) n (flatS xs)) (hg : B ≤ g) (hgl : g < w.heap.size) (hn : n ≤ 1000000000) :
    Calls Tryd.prog 40 #[.slice (some ⟨g, 0, none⟩) n cap] w fun e w' => e = .returned (.tuple #[]) ∧ Below B w w' ∧ SpanRow w' w'.heap.size (some ⟨g, 0, none⟩) n xs.reverse := by
  have hl : xs.length = n := by
    have := hown.1
    rw [flatS_length] at this
    omega
  have hH := holds_of hown
  have h := AnyQ.slices_Reverse Tryd.revSpan 2 Tryd.isAgg31 Tryd.sizeOf31 encS (fun _ => rfl) (fun x v hv => by simp [encS] at hv; rcases hv with rfl | rfl <;> rfl) g 0 cap xs.toArray w hH (by simp; omega)
  simp only [List.size_toArray, hl] at h
  refine Calls.mono h ?_
  rintro e w' ⟨rfl, m, rfl⟩
  have hb : Below B w (Go.Sort.putRowK encS 2 (Go.Sort.ahead w m) g 0 xs.toArray.reverse) := by
    unfold Go.Sort.putRowK Go.Sort.putRow Go.Sort.mapBlock Go.Sort.ahead
    refine ⟨rfl, rfl, rfl, by simp, fun k hk => ?_⟩
    simp only
    rw [Array.getElem?_modify, if_neg (by omega)]
  have hHK := Go.Sort.holdsK_putRowK encS 2 (Go.Sort.ahead w m) g 0 xs.toArray xs.toArray.reverse (Go.Sort.holdsK_ahead encS 2 w m g 0 _ hH) (by simp)
  refine ⟨rfl, hb, by simp [hl], .inr ⟨g, 0, rfl, Nat.lt_of_lt_of_le hgl hb.size, fun j s hj => ?_⟩⟩
  have hlt := (List.getElem?_eq_some_iff.1 hj).1
  simp at hlt
  have hlt' : j < xs.toArray.reverse.size := by simpa using hlt
  have a0 := (hHK.cell (i := j) (c := 0) hlt' (by omega)).1
  have a1 := (hHK.cell (i := j) (c := 1) hlt' (by omega)).1
  have hd : (xs.toArray.reverse)[j]! = s := by
    rw [show xs.toArray.reverse = xs.reverse.toArray by simp]
    simp [hj]
  rw [hd] at a0 a1
  simp only [Nat.zero_add, Nat.add_zero] at a0 a1 ⊢
  exact ⟨a0, a1⟩
theorem reverseNil (c : Nat) (w : World) : Calls Tryd.prog 40 #[.slice none 0 c] w fun e w' => e = .returned (.tuple #[]) ∧ w' = w :=
  (AnyQ.slices_Reverse_empty Tryd.revSpan none c w).mono fun _ _ h => h
theorem SpanRow.cut {w : World} {B n k : Nat} {A : Option Addr} {xs : List (Int × Int)} (h : SpanRow w B A n xs) (hk : k < n) : ∃ b off, A = some ⟨b, off, none⟩ ∧ SpanRow w B (some ⟨b, off + k * 2, none⟩) (n - k) (xs.drop k) ∧ SpanRow w B (some ⟨b, off, none⟩) k (xs.take k) := by
  have hl := h.len
  rcases h.2 with ⟨_, rfl⟩ | ⟨b, off, rfl, hlt, hc⟩
  · simp at hl; omega
  · refine ⟨b, off, rfl, ⟨by rw [List.length_drop, hl], .inr ⟨b, off + k * 2, rfl, hlt, fun j s hj => ?_⟩⟩, ⟨by rw [List.length_take, hl]; omega, .inr ⟨b, off, rfl, hlt, fun j s hj => ?_⟩⟩⟩
    · rw [List.getElem?_drop] at hj
      have h2 := hc _ s hj
      rw [show off + (k + j) * 2 = off + k * 2 + j * 2 by omega] at h2
      exact h2
    · rw [List.getElem?_take] at hj
      split at hj
      · exact hc j s hj
      · cases hj
end Go.Proofs.YtccmalpbejednaaDoor
