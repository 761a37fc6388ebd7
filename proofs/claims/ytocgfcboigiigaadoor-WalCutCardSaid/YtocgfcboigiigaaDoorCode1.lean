/- Numbers as bytes: what Writer.Num writes. Condition: not too many bytes. -/
import Derived.Test.YtocgfcboigiigaaDoorBytes2
import Derived.Test.YtocgfcboigiigaaDoorRd
import Derived.IntWalk
namespace Go.Proofs.YtocgfcboigiigaaDoor
open Go Go.Proofs Go.RowKit

/-- A writer at p holds these bytes; C: its blocks. -/
def WrAt (w : World) (C : Nat → Prop) (p : Nat) (bs : List UInt8) : Prop :=
  ∃ A c, w.heap[p]? = some (.cells #[.slice A bs.length c] 97 (0, 0)) ∧ RowW w 5 (.slice A bs.length c) bs.length (bv bs) ∧ C p ∧ (∀ g, (Value.slice A bs.length c).ownBlock = some g → C g ∧ g ≠ p)
theorem WrAt.mod {w w' : World} {C G : Nat → Prop} {p : Nat} {bs : List UInt8} (h : WrAt w C p bs) (hm : Mod G w w') (hn : ∀ b, C b → ¬ G b) : WrAt w' C p bs := by
  obtain ⟨A, c, h1, h2, h3, h4⟩ := h
  exact ⟨A, c, hm.blk h1 (hn p h3), h2.mod hm (fun g hg => hn g (h4 g hg).1), h3, h4⟩
theorem WrAt.below {w w' : World} {C : Nat → Prop} {p : Nat} {bs : List UInt8} (h : WrAt w C p bs) (hb : Below w.heap.size w w') : WrAt w' C p bs := h.mod (G := fun _ => False) (Mod.of_below hb) (fun _ _ h => h)
/-- Behind a call that wrote: the bytes, the blocks. -/
def RetWr (w : World) (C : Nat → Prop) (p : Nat) (bs : List UInt8) (e : Ending) (w' : World) : Prop :=
  e = .returned (.tuple #[]) ∧ ∃ C', WrAt w' C' p bs ∧ (∀ b, C' b → C b ∨ w.heap.size ≤ b) ∧ Mod C w w'
theorem or128F : ∀ x : Fin 256, bits .or .u8 (x.val : Int) 128 = ((x.val % 128 + 128 : Nat) : Int) := by decide +kernel
theorem or128 (k : Nat) : bits .or .u8 ((k : Int) % 256) 128 = ((k % 128 + 128 : Nat) : Int) := by
  have h := or128F ⟨k % 256, Nat.mod_lt _ (by omega)⟩
  simp only at h
  rw [show ((k % 256 : Nat) : Int) = (k : Int) % 256 from by omega] at h
  rw [h]
  congr 1
  omega
theorem wr_end {w2 w5 : World} {C : Nat → Prop} {p c l : Nat} {A : Option Addr} {v5 : Value} {A5 : Option Addr} {c5 : Nat} {bs' : List UInt8} (h1 : w2.heap[p]? = some (.cells #[.slice A l c] 97 (0, 0))) (h3 : C p) (h4 : ∀ g, (Value.slice A l c).ownBlock = some g → C g ∧ g ≠ p)
    (hgr : w2.grownBy w5 (Value.slice A l c).ownBlock) (hv : v5 = .slice A5 bs'.length c5) (hrow : RowW w5 5 v5 bs'.length (bv bs')) (hat : v5.ownBlock = (Value.slice A l c).ownBlock ∨ v5.ownBlock = some w2.heap.size) :
    WrAt (w5.setCell ⟨p, 0, none⟩ v5) (fun b => C b ∨ v5.ownBlock = some b) p bs' ∧ Mod C w2 (w5.setCell ⟨p, 0, none⟩ v5) ∧ ∀ b, (C b ∨ v5.ownBlock = some b) → C b ∨ b = w2.heap.size := by
  subst hv
  have hpl := lt_of_heap h1
  have hm25 : Mod (fun b => (Value.slice A l c).ownBlock = some b) w2 w5 := (Mod.refl _ _).grown hgr (fun g hg _ => hg)
  have hne : ∀ g, (Value.slice A5 bs'.length c5).ownBlock = some g → g ≠ p := fun g hg e => by
    rcases hat with h | h
    · exact (h4 g (h ▸ hg)).2 e
    · rw [h] at hg
      injection hg with hg
      omega
  have hp5 := hm25.blk h1 (fun e => (h4 p e).2 rfl)
  refine ⟨⟨A5, c5, ?_, hrow.set_far (fun e => hne p e rfl) _, .inl h3, fun g hg => ⟨.inr hg, hne g hg⟩⟩, (hm25.mono fun b _ hb => (h4 b hb).1).setCell (p := ⟨p, 0, none⟩) (fun _ => h3) _, fun b hb => ?_⟩
  · have := blk_set hp5 0 (.slice A5 bs'.length c5)
    simpa using this
  · rcases hb with h | h
    · exact .inl h
    · rcases hat with h' | h'
      · exact .inl (h4 b (h' ▸ h)).1
      · rw [h'] at h
        injection h with h
        exact .inr h.symm
set_option maxHeartbeats 2000000 in
set_option maxRecDepth 100000 in
theorem numW (C : Nat → Prop) (p n : Nat) (bs : List UInt8) (w : World) (h : WrAt w C p bs) (hn : n < 2 ^ 64) (hb : bs.length ≤ 1000000) :
    Calls Tryd.prog 60 #[.pointer (some ⟨p, 0, none⟩), .int .u64 n] w (RetWr w C p (bs ++ numB n)) := by
  obtain ⟨i0, hi, hz0, hz1, hz2⟩ := info_parts info_u8
  have HW := Lib.hid h
  clear h
  go_enter Tryd.func60, Tryd.ntmps60
  go_wp2_with (fail)
  go_loopw [1] (fun v wr => ∃ (k : Nat) (C' : Nat → Prop) (pre : List UInt8), v = .int .u64 k ∧ k < 2 ^ 64 ∧ Hid (pre ++ numB k = numB n) ∧ Hid (WrAt wr C' p (bs ++ pre)) ∧ Hid ((∀ b, C' b → C b ∨ w.heap.size ≤ b) ∧ Mod C w wr)) (fun v _ => (intOf v).toNat)
  case atStart => exact ⟨n, C, [], rfl, hn, Lib.hid rfl, Lib.hid (by rw [List.append_nil]; exact HW.out), Lib.hid ⟨fun _ h => .inl h, Mod.refl _ _⟩⟩
  case round =>
    obtain ⟨k, C', pre, rfl, hk, HP, hW, HM⟩ := hrel
    obtain ⟨A, c, h1, h2, h3, h4⟩ := hW.out
    have d0 : wr.cell? ⟨p, 0, none⟩ = some (.slice A (bs ++ pre).length c) := by rw [cell_of_blk h1]; rfl
    have hf0 := frozen_of_blk h1 0
    have hpl : pre.length ≤ 10 := by
      have h5 := congrArg List.length HP.out
      have h6 := numB_len10 hn
      rw [List.length_append] at h5
      omega
    have hlen : (bs ++ pre).length ≤ 1000010 := by rw [List.length_append]; omega
    have hA := Lib.hid hn
    have H1 := Lib.hid h1
    have H2 := Lib.hid h2
    have H4 := Lib.hid h4
    obtain ⟨l, hl⟩ : ∃ l, l = (bs ++ pre).length := ⟨_, rfl⟩
    rw [← hl] at d0 hlen H1 H2 H4
    have HL := Lib.hid hl
    have hbl : p < wr.heap.size := World.block_lt_of_cell? _ _ d0
    clear hn hb hpl h1 h2 h4 hl
    have put : ∀ (x : Nat), Hid (Reads (wr.alloc (.cells #[.int .u8 x] 5 (0, 0))) (wr.alloc (.cells #[.int .u8 x] 5 (0, 0))).heap.size 1 (some ⟨wr.heap.size, 0, none⟩) 1 [.int .u8 x]) := fun x => Lib.hid ⟨rfl, fun _ => ⟨_, rfl, by simp, fun j u hj => by
      match j, hj with
      | 0, hj =>
        obtain rfl := Option.some.inj hj
        rw [show (⟨wr.heap.size, 0, none⟩ : Addr).add 0 = ⟨wr.heap.size, 0, none⟩ from rfl, cell_of_row _ _ _ _ _ _ (heap_alloc_new wr _)]
        rfl⟩⟩
    by_cases hk7 : k < 128
    · have hg : decide ((128 : Int) ≤ (k : Int)) = false := decide_eq_false (by omega)
      go_wp2_with (at_builtin; (refine wpList_append_rowW _ rfl (.tmp 24) (.tmp 27) 22 rfl 5 i0 (.int .u8 0) 1 Tryd.underlying22 hi hz0 hz1 hz2 rfl (.slice A l c) l (bv (bs ++ pre)) rfl (H2.out.alloc _) _ (some ⟨wr.heap.size, 0, none⟩) 1 1 [.int .u8 (k : Int)] rfl (put _).out (fun u hu => by obtain rfl := List.mem_singleton.1 hu; rfl) (by unfold maxLen; omega) (by omega) ?_; intro v5 w5 hrow5 hgr5 hat5; obtain ⟨A5, c5, rfl, hc5⟩ := hrow5.form; have hp5 := (hgr5.block p (by rw [World.size_alloc]; omega) (fun e => (H4.out p e.symm).2 rfl)).trans (heap_alloc_keep H1.out _); have q0 := frozen_of_blk hp5 0; have d5 : w5.cell? ⟨p, 0, none⟩ = some (.slice A l c) := cell_of_blk hp5 0; have HR5 := Lib.hid hrow5; have HG5 := Lib.hid hgr5; have HT5 := Lib.hid hat5; clear hrow5 hgr5 hat5 hp5))
      go_end0
      obtain ⟨hCw, hMw⟩ := HM.out
      have hal : Mod C' wr (wr.alloc (.cells #[.int .u8 (k : Int)] 5 (0, 0))) := (Mod.refl _ _).alloc _
      have hl2 : ((bs ++ pre) ++ [UInt8.ofNat k]).length = l + 1 := by rw [List.length_append, ← HL.out]; rfl
      have ebv : bv ((bs ++ pre) ++ [UInt8.ofNat k]) = bv (bs ++ pre) ++ [.int .u8 (k : Int)] := by
        rw [bv_append]
        congr 1
        simp only [bv, List.map_cons, List.map_nil, byteV, UInt8.toNat_ofNat']
        congr 2
        omega
      have hE := wr_end (w2 := wr.alloc (.cells #[.int .u8 (k : Int)] 5 (0, 0))) (C := C') (heap_alloc_keep H1.out _) h3 H4.out HG5.out (bs' := (bs ++ pre) ++ [UInt8.ofNat k]) (A5 := A5) (c5 := c5) (v5 := .slice A5 (l + 1) c5) (by rw [hl2]) (by rw [hl2, ebv]; exact HR5.out) HT5.out
      obtain ⟨hE1, hE2, hE3⟩ := hE
      have hsz := hMw.size
      have hCn : ∀ b, (C' b ∨ (Value.slice A5 (l + 1) c5).ownBlock = some b) → C b ∨ w.heap.size ≤ b := fun b hb => by
        rcases hE3 b hb with h | h
        · exact hCw b h
        · rw [World.size_alloc] at h; exact .inr (by omega)
      have hMn : Mod C w (w5.setCell ⟨p, 0, none⟩ (.slice A5 (l + 1) c5)) := hMw.trans (hal.trans hE2 (fun _ _ h => h)) (fun b hb h => by
        rcases hCw b h with h' | h'
        · exact h'
        · omega)
      refine ⟨rfl, _, ?_, hCn, hMn⟩
      rw [← HP.out, numB_small hk7, ← List.append_assoc]
      exact hE1
    · have hg : decide ((128 : Int) ≤ (k : Int)) = true := decide_eq_true (by omega)
      obtain ⟨x, hx⟩ : ∃ x, x = k % 128 + 128 := ⟨_, rfl⟩
      have hor : bits .or .u8 ((k : Int) % 256) 128 = (x : Int) := by rw [or128, hx]
      have hx2 : x < 256 := by omega
      have HX := Lib.hid hx
      clear hx
      go_wp2_with (at_builtin; (refine wpList_append_rowW _ rfl (.tmp 10) (.tmp 14) 22 rfl 5 i0 (.int .u8 0) 1 Tryd.underlying22 hi hz0 hz1 hz2 rfl (.slice A l c) l (bv (bs ++ pre)) rfl (H2.out.alloc _) _ (some ⟨wr.heap.size, 0, none⟩) 1 1 [.int .u8 (x : Int)] rfl (put _).out (fun u hu => by obtain rfl := List.mem_singleton.1 hu; rfl) (by unfold maxLen; omega) (by omega) ?_; intro v5 w5 hrow5 hgr5 hat5; obtain ⟨A5, c5, rfl, hc5⟩ := hrow5.form; have hp5 := (hgr5.block p (by rw [World.size_alloc]; omega) (fun e => (H4.out p e.symm).2 rfl)).trans (heap_alloc_keep H1.out _); have q0 := frozen_of_blk hp5 0; have d5 : w5.cell? ⟨p, 0, none⟩ = some (.slice A l c) := cell_of_blk hp5 0; have HR5 := Lib.hid hrow5; have HG5 := Lib.hid hgr5; have HT5 := Lib.hid hat5; clear hrow5 hgr5 hat5 hp5))
      obtain ⟨hCw, hMw⟩ := HM.out
      have hal : Mod C' wr (wr.alloc (.cells #[.int .u8 (x : Int)] 5 (0, 0))) := (Mod.refl _ _).alloc _
      have hl2 : ((bs ++ pre) ++ [UInt8.ofNat x]).length = l + 1 := by rw [List.length_append, ← HL.out]; rfl
      have ebv : bv ((bs ++ pre) ++ [UInt8.ofNat x]) = bv (bs ++ pre) ++ [.int .u8 (x : Int)] := by
        rw [bv_append]
        congr 1
        simp only [bv, List.map_cons, List.map_nil, byteV, UInt8.toNat_ofNat']
        congr 2
        omega
      have hE := wr_end (w2 := wr.alloc (.cells #[.int .u8 (x : Int)] 5 (0, 0))) (C := C') (heap_alloc_keep H1.out _) h3 H4.out HG5.out (bs' := (bs ++ pre) ++ [UInt8.ofNat x]) (A5 := A5) (c5 := c5) (v5 := .slice A5 (l + 1) c5) (by rw [hl2]) (by rw [hl2, ebv]; exact HR5.out) HT5.out
      obtain ⟨hE1, hE2, hE3⟩ := hE
      have hsz := hMw.size
      have hCn : ∀ b, (C' b ∨ (Value.slice A5 (l + 1) c5).ownBlock = some b) → C b ∨ w.heap.size ≤ b := fun b hb => by
        rcases hE3 b hb with h | h
        · exact hCw b h
        · rw [World.size_alloc] at h; exact .inr (by omega)
      have hMn : Mod C w (w5.setCell ⟨p, 0, none⟩ (.slice A5 (l + 1) c5)) := hMw.trans (hal.trans hE2 (fun _ _ h => h)) (fun b hb h => by
        rcases hCw b h with h' | h'
        · exact h'
        · omega)
      refine ⟨⟨k / 128, _, pre ++ [UInt8.ofNat x], rfl, by omega, Lib.hid ?_, Lib.hid ?_, Lib.hid ⟨hCn, hMn⟩⟩, by simp only [intOf]; omega⟩
      · rw [← HP.out, numB_big hk7, ← HX.out, List.append_assoc]
        rfl
      · rw [← List.append_assoc]
        exact hE1
end Go.Proofs.YtocgfcboigiigaaDoor
