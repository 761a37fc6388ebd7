/- Bytes: slices.Concat; bytes as a text; texts compared. Condition: not too many bytes. -/
import Derived.Test.YtocgfcboigiigaaDoorBytes1
import Derived.Laws.BytesArg
namespace Go.Proofs.YtocgfcboigiigaaDoor
open Go Go.Proofs Go.RowKit

/-- Slices of bytes, and what each reads. -/
abbrev BL := List (Option Addr × Nat × Nat × List UInt8)
def BLok (w : World) (B : Nat) (L : BL) : Prop := ∀ x ∈ L, Reads w B 1 x.1 x.2.1 (bv x.2.2.2)
def totB (L : BL) : Nat := (L.map (·.2.1)).sum
def flatB (L : BL) : List UInt8 := L.flatMap (·.2.2.2)
theorem totB_step {L : BL} {k : Nat} {x} (h : L[k]? = some x) : totB (L.take (k + 1)) = totB (L.take k) + x.2.1 := by
  have hk := (List.getElem?_eq_some_iff.1 h).1
  have hs : L[k] = x := by rw [List.getElem?_eq_getElem hk] at h; exact Option.some.inj h
  rw [List.take_succ_eq_append_getElem hk, hs]
  simp [totB]
theorem flatB_step {L : BL} {k : Nat} {x} (h : L[k]? = some x) : flatB (L.take (k + 1)) = flatB (L.take k) ++ x.2.2.2 := by
  have hk := (List.getElem?_eq_some_iff.1 h).1
  have hs : L[k] = x := by rw [List.getElem?_eq_getElem hk] at h; exact Option.some.inj h
  rw [List.take_succ_eq_append_getElem hk, hs]
  simp [flatB]
theorem totB_take (L : BL) (k : Nat) : totB (L.take k) ≤ totB L := by
  have : totB (L.take k ++ L.drop k) = totB (L.take k) + totB (L.drop k) := by simp only [totB, List.map_append, List.sum_append]
  rw [List.take_append_drop] at this
  omega
theorem grow_rowB {w : World} {g cap n base : Nat} {t : TypeId} {z : Value} (hz : z.cells.size = 1) (h : w.heap[g]? = some (.cells (([] : List Value).toArray ++ Builtin.zeroCells z.cells (0 + n - 0) ++ Builtin.zeroCells z.cells (cap - (0 + n))) t (0, 0))) (hn : n ≤ cap) (hc : cap ≤ maxLen) (hb : base ≤ g) :
    w.ownsRow base t 1 (.slice (some ⟨g, 0, none⟩) 0 cap) 0 [] := by
  refine ⟨rfl, .inr ⟨g, cap, _, rfl, hb, h, Nat.zero_le _, hc, ?_, rfl⟩⟩
  simp only [Array.size_append, Builtin.zeroCells, hz]
  simp
  omega
set_option maxHeartbeats 4000000 in
set_option maxRecDepth 100000 in
theorem growB (n : Nat) (w : World) (hn : n ≤ 1000000000) :
    Calls Tryd.prog 50 #[.slice none 0 0, .int .i64 n] w fun e w' => ∃ A c, e = .returned (.slice A 0 c) ∧ w'.ownsRow w.heap.size 5 1 (.slice A 0 c) 0 [] ∧ Below w.heap.size w w' := by
  obtain ⟨i0, hi, hz0, hz1, hz2⟩ := info_parts info_u8
  rcases Nat.eq_zero_or_pos n with rfl | hpos
  · refine (Any8.slices_Grow_room Tryd.growBytes none 0 0 0 w (by omega) (by omega) (by omega) (by omega)).mono ?_
    rintro e w' ⟨rfl, rfl⟩
    exact ⟨_, _, rfl, World.ownsRow_nil _ _ _ _, Below.refl _ _⟩
  · have h := Any8.slices_Grow_grow Tryd.growBytes i0 (.int .u8 0) hi hz0 (by omega) none 0 0 n [] w (by omega) (by omega) (by rw [hz2]; omega) (by omega) (by rw [hz1]; rfl) (fun _ => rfl) (fun a ha => by cases ha)
    refine Calls.mono h ?_
    rintro e w' ⟨rfl, rfl⟩
    have hge := grownCap_ge w (0 + n) 0 (Tryd.growBytes_ren.t 25)
    have hle := grownCap_le_maxLen w (0 + n) 0 (Tryd.growBytes_ren.t 25) (by unfold maxLen; omega)
    refine ⟨_, _, rfl, grow_rowB (z := .int .u8 0) rfl (heap_new_at rfl) (by omega) hle (Nat.le_refl _), ?_⟩
    exact (Below.refl w.heap.size w).drew.alloc (Nat.le_refl _) _
/-- A row of bytes of the call's own is answered. -/
def RetBytes (w : World) (bs : List UInt8) (e : Ending) (w' : World) : Prop := ∃ A c, e = .returned (.slice A bs.length c) ∧ w'.ownsRow w.heap.size 5 1 (.slice A bs.length c) bs.length (bv bs) ∧ Below w.heap.size w w'
theorem totB_flat {w : World} {B : Nat} {L : BL} (h : BLok w B L) : totB L = (flatB L).length := by
  induction L with
  | nil => rfl
  | cons x L ih =>
    have h1 := ih fun y hy => h y (List.mem_cons_of_mem _ hy)
    have h2 := (h x (List.mem_cons_self)).1
    rw [bv_length] at h2
    simp only [totB, flatB, List.map_cons, List.sum_cons, List.flatMap_cons, List.length_append] at h1 ⊢
    omega
set_option maxHeartbeats 4000000 in
set_option maxRecDepth 100000 in
theorem concatB (g c m B : Nat) (L : BL) (w : World) (hm : L.length = m) (hm2 : m ≤ 100) (hg : g < w.heap.size) (hB : B ≤ w.heap.size) (hc : ∀ j x, L[j]? = some x → w.cell? ⟨g, j, none⟩ = some (.slice x.1 x.2.1 x.2.2.1)) (hL : BLok w B L) (hT : totB L ≤ 1000000000) :
    Calls Tryd.prog 24 #[.slice (some ⟨g, 0, none⟩) m c] w (RetBytes w (flatB L)) := by
  obtain ⟨i0, hi, hz0, hz1, hz2⟩ := info_parts info_u8
  have HTF := Lib.hid (totB_flat hL)
  have HL := Lib.hid hL
  have HC := Lib.hid hc
  have HM := Lib.hid hm
  clear hL hc hm
  go_enter Tryd.func24, Tryd.ntmps24
  go_wp2_with (fail)
  go_loopw [3, 5, 11] (fun s _ i wr => ∃ k : Nat, k ≤ m ∧ i = .int .i64 k ∧ s = .int .i64 (totB (L.take k)) ∧ w = wr) (fun _ _ i _ => m - (intOf i).toNat)
  case atStart => exact ⟨0, Nat.zero_le _, rfl, rfl, rfl⟩
  case round =>
    obtain ⟨k, hk, rfl, rfl, rfl⟩ := hrel
    by_cases hlt : k < m
    · obtain ⟨x, hx⟩ : ∃ x, L[k]? = some x := ⟨L[k]'(by rw [HM.out]; omega), List.getElem?_eq_getElem _⟩
      have d0 := HC.out k x hx
      have hs := totB_step hx
      have ht := totB_take L (k + 1)
      obtain ⟨A1, n1, c1, xs1⟩ := x
      simp only at hs d0
      have HS := Lib.hid hs
      have hsum : totB (L.take k) + n1 ≤ 1000000000 := by omega
      generalize totB (L.take k) = tk at *
      have hin0 : (0 : Int) ≤ (k : Int) := by omega
      have hin1 : (k : Int) < (m : Int) := by omega
      clear hx hs ht
      go_wp2_with (fail)
      refine ⟨⟨k + 1, by omega, by go_num, by rw [HS.out]; go_num, trivial⟩, by simp [intOf]; omega⟩
    · obtain rfl : k = m := by omega
      rw [show L.take k = L from List.take_of_length_le (by rw [HM.out]; omega)]
      generalize hTT : totB L = tt at *
      have HTT := Lib.hid hTT
      clear hTT
      go_wp2_with (fail)
      refine (growB tt _ hT).mono ?_
      rintro e w1 ⟨A1, c1, rfl, hown1, hb1⟩
      have hown0 := Lib.hid hown1
      clear hown1
      go_wp2_with (fail)
      have hsz1 := hb1.size
      go_loopw [6, 8, 27] (fun v _ i wq => ∃ j : Nat, j ≤ k ∧ i = .int .i64 j ∧ (∃ A c, v = .slice A (totB (L.take j)) c ∧ wq.ownsRow w.heap.size 5 1 (.slice A (totB (L.take j)) c) (totB (L.take j)) (bv (flatB (L.take j)))) ∧ Below w.heap.size w wq) (fun _ _ i _ => k - (intOf i).toNat)
      case atStart => exact ⟨0, Nat.zero_le _, rfl, ⟨_, _, rfl, hown0.out⟩, hb1⟩
      case round =>
        obtain ⟨j, hj, rfl, ⟨A3, c3, rfl, hown⟩, hb⟩ := hrel
        have hsz := hb.size
        by_cases hjt : j < k
        · obtain ⟨x, hx⟩ : ∃ x, L[j]? = some x := ⟨L[j]'(by rw [HM.out]; omega), List.getElem?_eq_getElem _⟩
          have d0 := cellk hb (p := ⟨g, j, none⟩) hg (HC.out j x hx)
          have hrow := (HL.out x (List.mem_of_getElem? hx)).mod (F := fun _ => False) (Mod.of_below hb) hB (fun _ _ _ h => h)
          have hs := totB_step hx
          have hf := flatB_step hx
          have ht := totB_take L (j + 1)
          obtain ⟨A2, n2, c2, xs2⟩ := x
          simp only at hs hf d0 hrow
          have HS := Lib.hid hs
          have HF := Lib.hid hf
          have hsum : totB (L.take j) + n2 ≤ 1000000000 := by
            have : totB (L.take (j + 1)) ≤ tt := by rw [← HTT.out]; exact ht
            omega
          obtain ⟨tk, htk⟩ : ∃ tk, tk = totB (L.take j) := ⟨_, rfl⟩
          rw [← htk] at hsum hown ⊢
          have HTK := Lib.hid htk
          have hin0 : (0 : Int) ≤ (j : Int) := by omega
          have hin1 : (j : Int) < (k : Int) := by omega
          have how := Lib.hid hown
          have HR := Lib.hid hrow
          clear hx hs hf ht htk hown hrow
          go_wp2_with (at_builtin; (refine wpList_append_any _ rfl (.tmp 31) (.tmp 32) 22 rfl w.heap.size 5 i0 (.int .u8 0) 1 1 Tryd.underlying22 hi hz0 hz1 hz2 rfl (by decide) (.slice A3 tk c3) tk (bv (flatB (L.take j))) rfl how.out B A2 n2 c2 (bv xs2) rfl HR.out (bv_one xs2) (by unfold maxLen; omega) (by omega) hsz ?_; intro v5 w5 hown5 hgr5 _; obtain ⟨A5, c5, rfl, hc5⟩ := (RowW.of_owns hown5).form))
          refine ⟨⟨j + 1, by omega, by go_num, ?_, ?_⟩, by simp [intOf]; omega⟩
          · rw [HS.out, HF.out, bv_append, ← HTK.out]
            exact ⟨_, _, rfl, hown5⟩
          · exact hb.grown hgr5 hsz (fun j hj => (how.out.lt j hj).1)
        · obtain rfl : j = k := by omega
          rw [show L.take j = L from List.take_of_length_le (by rw [HM.out]; omega)] at hown ⊢
          rw [HTT.out] at hown ⊢
          have hown' := Lib.hid hown
          clear hown
          go_wp2_with (fail)
          go_ret
          have hf := hown'.out
          rw [HTF.out] at hf ⊢
          exact ⟨_, _, rfl, hf, hb⟩
/-- Bytes as a text. -/
theorem convB (A : Option Addr) (n c B : Nat) (bs : List UInt8) (w : World) (hr : Reads w B 1 A n (bv bs)) : (convert 22 9 (.slice A n c)).run Tryd.prog w = .ok (txt bs) w := by
  have hl : bs.length = n := by have := hr.1; rw [bv_length] at this; omega
  rcases Nat.eq_zero_or_pos n with rfl | hp
  · obtain rfl := List.length_eq_zero_iff.1 hl
    rw [run_convert_bytes_string w _ _ 5 A 0 c Tryd.underlying22 Tryd.underlying5 Tryd.underlying9]
    cases A <;> simp [Conv.bytesToString, loadCells, loadCellsFrom, txt] <;> rfl
  · obtain ⟨ad, rfl, _, hc⟩ := hr.2 hp
    have hl' : (loadCells ad n).run Tryd.prog w = .ok ((bs.map fun b => (b.toNat : Int)).map (Value.int .u8)).toArray w := by
      have := run_loadCells_list (P := Tryd.prog) w ad (bv bs) (fun j v hj => hc j v hj)
      rw [bv_length, hl] at this
      rw [this]
      congr 2
      unfold bv
      rw [List.map_map]
      rfl
    rw [run_convert_bytes_string w _ _ 5 (some ad) n c Tryd.underlying22 Tryd.underlying5 Tryd.underlying9, run_bytesToString w ad n c _ hl', foldl_push_bytes]
    simp only [txt]
    congr 2
    rw [List.map_map, show ((fun n : Int => UInt8.ofNat n.toNat) ∘ fun b : UInt8 => (b.toNat : Int)) = id from funext fun b => by simp, List.map_id]
    simp [ByteArray.empty, ByteArray.emptyWithCapacity]
    rfl
end Go.Proofs.YtocgfcboigiigaaDoor
