/- slices.Concat of slices of slices of bytes. Condition: not too many. -/
import Derived.Test.YtocgfcboigiigaaDoorRows6
namespace Go.Proofs.YtocgfcboigiigaaDoor
open Go Go.Proofs Go.RowKit

/-- Slices, and what each reads. -/
abbrev VL := List (Option Addr × Nat × Nat × List Value)
def VLok (w : World) (B : Nat) (L : VL) : Prop := ∀ x ∈ L, Reads w B 1 x.1 x.2.1 x.2.2.2
def totV (L : VL) : Nat := (L.map (·.2.1)).sum
def flatV (L : VL) : List Value := L.flatMap (·.2.2.2)
theorem totV_step {L : VL} {k : Nat} {x} (h : L[k]? = some x) : totV (L.take (k + 1)) = totV (L.take k) + x.2.1 := by
  have hk := (List.getElem?_eq_some_iff.1 h).1
  have hs : L[k] = x := by rw [List.getElem?_eq_getElem hk] at h; exact Option.some.inj h
  rw [List.take_succ_eq_append_getElem hk, hs]
  simp [totV]
theorem flatV_step {L : VL} {k : Nat} {x} (h : L[k]? = some x) : flatV (L.take (k + 1)) = flatV (L.take k) ++ x.2.2.2 := by
  have hk := (List.getElem?_eq_some_iff.1 h).1
  have hs : L[k] = x := by rw [List.getElem?_eq_getElem hk] at h; exact Option.some.inj h
  rw [List.take_succ_eq_append_getElem hk, hs]
  simp [flatV]
theorem totV_take (L : VL) (k : Nat) : totV (L.take k) ≤ totV L := by
  have : totV (L.take k ++ L.drop k) = totV (L.take k) + totV (L.drop k) := by simp only [totV, List.map_append, List.sum_append]
  rw [List.take_append_drop] at this
  omega
theorem totV_flat {w : World} {B : Nat} {L : VL} (h : VLok w B L) : totV L = (flatV L).length := by
  induction L with
  | nil => rfl
  | cons x L ih =>
    have h1 := ih fun y hy => h y (List.mem_cons_of_mem _ hy)
    have h2 := (h x (List.mem_cons_self)).1
    simp only [totV, flatV, List.map_cons, List.sum_cons, List.flatMap_cons, List.length_append] at h1 ⊢
    omega
theorem grow_rowR {w : World} {g cap n base : Nat} {t : TypeId} {z : Value} (hz : z.cells.size = 1) (h : w.heap[g]? = some (.cells (([] : List Value).toArray ++ Builtin.zeroCells z.cells (0 + n - 0) ++ Builtin.zeroCells z.cells (cap - (0 + n))) t (0, 0))) (hn : n ≤ cap) (hc : cap ≤ maxLen) (hb : base ≤ g) :
    w.ownsRow base t 1 (.slice (some ⟨g, 0, none⟩) 0 cap) 0 [] := by
  refine ⟨rfl, .inr ⟨g, cap, _, rfl, hb, h, Nat.zero_le _, hc, ?_, rfl⟩⟩
  simp only [Array.size_append, Builtin.zeroCells, hz]
  simp
  omega
set_option maxHeartbeats 4000000 in
set_option maxRecDepth 100000 in
theorem growR (n : Nat) (w : World) (hn : n ≤ 1000000) :
    Calls Tryd.prog 51 #[.slice none 0 0, .int .i64 n] w fun e w' => ∃ A c, e = .returned (.slice A 0 c) ∧ w'.ownsRow w.heap.size 22 1 (.slice A 0 c) 0 [] ∧ Below w.heap.size w w' := by
  obtain ⟨i0, hi, hz0, hz1, hz2⟩ := info_parts info_sl
  rcases Nat.eq_zero_or_pos n with rfl | hpos
  · refine (Any8.slices_Grow_room Tryd.growRows none 0 0 0 w (by omega) (by omega) (by omega) (by omega)).mono ?_
    rintro e w' ⟨rfl, rfl⟩
    exact ⟨_, _, rfl, World.ownsRow_nil _ _ _ _, Below.refl _ _⟩
  · have h := Any8.slices_Grow_grow Tryd.growRows i0 (.slice none 0 0) hi hz0 (by omega) none 0 0 n [] w (by omega) (by omega) (by rw [hz2]; omega) (by omega) (by rw [hz1]; rfl) (fun _ => rfl) (fun a ha => by cases ha)
    refine Calls.mono h ?_
    rintro e w' ⟨rfl, rfl⟩
    have hge := grownCap_ge w (0 + n) 0 (Tryd.growRows_ren.t 25)
    have hle := grownCap_le_maxLen w (0 + n) 0 (Tryd.growRows_ren.t 25) (by unfold maxLen; omega)
    refine ⟨_, _, rfl, grow_rowR (z := .slice none 0 0) rfl (heap_new_at rfl) (by omega) hle (Nat.le_refl _), ?_⟩
    exact (Below.refl w.heap.size w).drew.alloc (Nat.le_refl _) _
/-- A row of slices of the call's own is answered. -/
def RetVals (w : World) (xs : List Value) (e : Ending) (w' : World) : Prop := ∃ A c, e = .returned (.slice A xs.length c) ∧ w'.ownsRow w.heap.size 22 1 (.slice A xs.length c) xs.length xs ∧ Below w.heap.size w w'
set_option maxHeartbeats 4000000 in
set_option maxRecDepth 100000 in
theorem concatR (g c m B : Nat) (L : VL) (w : World) (hm : L.length = m) (hm2 : m ≤ 100) (hg : g < w.heap.size) (hB : B ≤ w.heap.size) (hc : ∀ j x, L[j]? = some x → w.cell? ⟨g, j, none⟩ = some (.slice x.1 x.2.1 x.2.2.1)) (hL : VLok w B L) (hT : totV L ≤ 1000000) (hone : ∀ x ∈ L, ∀ u ∈ x.2.2.2, u.oneCell' = true) :
    Calls Tryd.prog 27 #[.slice (some ⟨g, 0, none⟩) m c] w (RetVals w (flatV L)) := by
  obtain ⟨i0, hi, hz0, hz1, hz2⟩ := info_parts info_sl
  have HTF := Lib.hid (totV_flat hL)
  have HL := Lib.hid hL
  have HC := Lib.hid hc
  have HM := Lib.hid hm
  have HONE := Lib.hid hone
  clear hL hc hm hone
  go_enter Tryd.func27, Tryd.ntmps27
  go_wp2_with (fail)
  go_loopw [3, 5, 11] (fun s _ i wr => ∃ k : Nat, k ≤ m ∧ i = .int .i64 k ∧ s = .int .i64 (totV (L.take k)) ∧ w = wr) (fun _ _ i _ => m - (intOf i).toNat)
  case atStart => exact ⟨0, Nat.zero_le _, rfl, rfl, rfl⟩
  case round =>
    obtain ⟨k, hk, rfl, rfl, rfl⟩ := hrel
    by_cases hlt : k < m
    · obtain ⟨x, hx⟩ : ∃ x, L[k]? = some x := ⟨L[k]'(by rw [HM.out]; omega), List.getElem?_eq_getElem _⟩
      have d0 := HC.out k x hx
      have hs := totV_step hx
      have ht := totV_take L (k + 1)
      obtain ⟨A1, n1, c1, xs1⟩ := x
      simp only at hs d0
      have HS := Lib.hid hs
      have hsum : totV (L.take k) + n1 ≤ 1000000 := by omega
      generalize totV (L.take k) = tk at *
      have hin0 : (0 : Int) ≤ (k : Int) := by omega
      have hin1 : (k : Int) < (m : Int) := by omega
      clear hx hs ht
      go_wp2_with (fail)
      refine ⟨⟨k + 1, by omega, by go_num, by rw [HS.out]; go_num, trivial⟩, by simp [intOf]; omega⟩
    · obtain rfl : k = m := by omega
      rw [show L.take k = L from List.take_of_length_le (by rw [HM.out]; omega)]
      generalize hTT : totV L = tt at *
      have HTT := Lib.hid hTT
      clear hTT
      go_wp2_with (fail)
      refine (growR tt _ hT).mono ?_
      rintro e w1 ⟨A1, c1, rfl, hown1, hb1⟩
      have hown0 := Lib.hid hown1
      clear hown1
      go_wp2_with (fail)
      have hsz1 := hb1.size
      go_loopw [6, 8, 27] (fun v _ i wq => ∃ j : Nat, j ≤ k ∧ i = .int .i64 j ∧ (∃ A c, v = .slice A (totV (L.take j)) c ∧ wq.ownsRow w.heap.size 22 1 (.slice A (totV (L.take j)) c) (totV (L.take j)) (flatV (L.take j))) ∧ Below w.heap.size w wq) (fun _ _ i _ => k - (intOf i).toNat)
      case atStart => exact ⟨0, Nat.zero_le _, rfl, ⟨_, _, rfl, hown0.out⟩, hb1⟩
      case round =>
        obtain ⟨j, hj, rfl, ⟨A3, c3, rfl, hown⟩, hb⟩ := hrel
        have hsz := hb.size
        by_cases hjt : j < k
        · obtain ⟨x, hx⟩ : ∃ x, L[j]? = some x := ⟨L[j]'(by rw [HM.out]; omega), List.getElem?_eq_getElem _⟩
          have d0 := cellk hb (p := ⟨g, j, none⟩) hg (HC.out j x hx)
          have hrow := (HL.out x (List.mem_of_getElem? hx)).mod (F := fun _ => False) (Mod.of_below hb) hB (fun _ _ _ h => h)
          have hs := totV_step hx
          have hf := flatV_step hx
          have ht := totV_take L (j + 1)
          obtain ⟨A2, n2, c2, xs2⟩ := x
          simp only at hs hf d0 hrow
          have HS := Lib.hid hs
          have HF := Lib.hid hf
          have hsum : totV (L.take j) + n2 ≤ 1000000 := by
            have : totV (L.take (j + 1)) ≤ tt := by rw [← HTT.out]; exact ht
            omega
          obtain ⟨tk, htk⟩ : ∃ tk, tk = totV (L.take j) := ⟨_, rfl⟩
          rw [← htk] at hsum hown ⊢
          have HTK := Lib.hid htk
          have hin0 : (0 : Int) ≤ (j : Int) := by omega
          have hin1 : (j : Int) < (k : Int) := by omega
          have how := Lib.hid hown
          have HR := Lib.hid hrow
          have HXX := Lib.hid hx
          clear hx hs hf ht htk hown hrow
          go_wp2_with (at_builtin; (refine wpList_append_any _ rfl (.tmp 31) (.tmp 32) 26 rfl w.heap.size 22 i0 (.slice none 0 0) 1 24 Tryd.underlying26 hi hz0 hz1 hz2 rfl (by decide) (.slice A3 tk c3) tk (flatV (L.take j)) rfl how.out B A2 n2 c2 xs2 rfl HR.out (HONE.out _ (List.mem_of_getElem? HXX.out)) (by unfold maxLen; omega) (by omega) hsz ?_; intro v5 w5 hown5 hgr5 _; obtain ⟨A5, c5, rfl, hc5⟩ := (RowW.of_owns hown5).form))
          refine ⟨⟨j + 1, by omega, by go_num, ?_, ?_⟩, by simp [intOf]; omega⟩
          · rw [HS.out, HF.out, ← HTK.out]
            exact ⟨_, _, rfl, hown5⟩
          · exact hb.grown hgr5 hsz (fun j hj => (how.out.lt j hj).1)
        · obtain rfl : j = k := by omega
          rw [show L.take j = L from List.take_of_length_le (by rw [HM.out]; omega)] at hown ⊢
          rw [HTT.out] at hown ⊢
          have hown' := Lib.hid hown
          clear hown
          go_wp2_with (fail)
          go_ret
          have hf := hown'.out
          rw [HTF.out] at hf ⊢
          exact ⟨_, _, rfl, hf, hb⟩
end Go.Proofs.YtocgfcboigiigaaDoor
