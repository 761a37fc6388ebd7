/- Bytes: slices.Concat; bytes as a text; texts compared. Condition: not too many bytes. -/
import Derived.Test.YtfccoiofpmhbdaaDoorBytes1
import Derived.Laws.BytesArg
namespace Go.Proofs.YtfccoiofpmhbdaaDoor
open Go Go.Proofs Go.RowKit

/-- Slices of bytes, and what each reads. -/
abbrev BL := List (Option Addr × Nat × Nat × List UInt8)
def BLok (w : World) (B : Nat) (L : BL) : Prop := ∀ x ∈ L, Reads w B 1 x.1 x.2.1 (bv x.2.2.2)
def totB (L : BL) : Nat := (L.map (·.2.1)).sum
def flatB (L : BL) : List UInt8 := L.flatMap (·.2.2.2)
theorem totB_step {L : BL} {k : Nat} {x} (h : L[k]? = some x) : totB (L.take (k + 1)) = totB (L.take k) + x.2.1 := by
  have hk := (List.getElem?_eq_some_iff.1 h).1
  have hs : L[k] = x := by rw [List.getElem?_eq_getElem hk] at h; exact Option.some.inj h
  rw [List.take_succ_eq_append_getElem hk, hs]
  simp [totB]
theorem flatB_step {L : BL} {k : Nat} {x} (h : L[k]? = some x) : flatB (L.take (k + 1)) = flatB (L.take k) ++ x.2.2.2 := by
  have hk := (List.getElem?_eq_some_iff.1 h).1
  have hs : L[k] = x := by rw [List.getElem?_eq_getElem hk] at h; exact Option.some.inj h
  rw [List.take_succ_eq_append_getElem hk, hs]
  simp [flatB]
theorem totB_take (L : BL) (k : Nat) : totB (L.take k) ≤ totB L := by
  have : totB (L.take k ++ L.drop k) = totB (L.take k) + totB (L.drop k) := by simp only [totB, List.map_append, List.sum_append]
  rw [List.take_append_drop] at this
  omega
theorem grow_rowB {w : World} {g cap n base : Nat} {t : TypeId} {z : Value} (hz : z.cells.size = 1) (h : w.heap[g]? = some (.cells (([] : List Value).toArray ++ Builtin.zeroCells z.cells (0 + n - 0) ++ Builtin.zeroCells z.cells (cap - (0 + n))) t (0, 0))) (hn : n ≤ cap) (hc : cap ≤ maxLen) (hb : base ≤ g) :
    w.ownsRow base t 1 (.slice (some ⟨g, 0, none⟩) 0 cap) 0 [] := by
  refine ⟨rfl, .inr ⟨g, cap, _, rfl, hb, h, Nat.zero_le _, hc, ?_, rfl⟩⟩
  simp only [Array.size_append, Builtin.zeroCells, hz]
  simp
  omega
/-- A row of bytes of the call's own is answered. -/
def RetBytes (w : World) (bs : List UInt8) (e : Ending) (w' : World) : Prop := ∃ A c, e = .returned (.slice A bs.length c) ∧ w'.ownsRow w.heap.size 5 1 (.slice A bs.length c) bs.length (bv bs) ∧ Below w.heap.size w w'
theorem totB_flat {w : World} {B : Nat} {L : BL} (h : BLok w B L) : totB L = (flatB L).length := by
  induction L with
  | nil => rfl
  | cons x L ih =>
    have h1 := ih fun y hy => h y (List.mem_cons_of_mem _ hy)
    have h2 := (h x (List.mem_cons_self)).1
    rw [bv_length] at h2
    simp only [totB, flatB, List.map_cons, List.sum_cons, List.flatMap_cons, List.length_append] at h1 ⊢
    omega
/-- Bytes as a text. -/
theorem convB (A : Option Addr) (n c B : Nat) (bs : List UInt8) (w : World) (hr : Reads w B 1 A n (bv bs)) : (convert 30 9 (.slice A n c)).run Tryd.prog w = .ok (txt bs) w := by
  have hl : bs.length = n := by have := hr.1; rw [bv_length] at this; omega
  rcases Nat.eq_zero_or_pos n with rfl | hp
  · obtain rfl := List.length_eq_zero_iff.1 hl
    rw [run_convert_bytes_string w _ _ 5 A 0 c Tryd.underlying30 Tryd.underlying5 Tryd.underlying9]
    cases A <;> simp [Conv.bytesToString, loadCells, loadCellsFrom, txt] <;> rfl
  · obtain ⟨ad, rfl, _, hc⟩ := hr.2 hp
    have hl' : (loadCells ad n).run Tryd.prog w = .ok ((bs.map fun b => (b.toNat : Int)).map (Value.int .u8)).toArray w := by
      have := run_loadCells_list (P := Tryd.prog) w ad (bv bs) (fun j v hj => hc j v hj)
      rw [bv_length, hl] at this
      rw [this]
      congr 2
      unfold bv
      rw [List.map_map]
      rfl
    rw [run_convert_bytes_string w _ _ 5 (some ad) n c Tryd.underlying30 Tryd.underlying5 Tryd.underlying9, run_bytesToString w ad n c _ hl', foldl_push_bytes]
    simp only [txt]
    congr 2
    rw [List.map_map, show ((fun n : Int => UInt8.ofNat n.toNat) ∘ fun b : UInt8 => (b.toNat : Int)) = id from funext fun b => by simp, List.map_id]
    simp [ByteArray.empty, ByteArray.emptyWithCapacity]
    rfl
end Go.Proofs.YtfccoiofpmhbdaaDoor
