/- The sum of a piece: frame.Sum. Condition: not too many bytes. -/
import Derived.Test.YtocgfcboigiigaaDoorBytes2
import Derived.Test.YtocgfcboigiigaaDoorRd
import Derived.IntWalk
namespace Go.Proofs.YtocgfcboigiigaaDoor
open Go Go.Proofs Go.RowKit

def crc1 (s : Nat) : Nat := if s % 2 = 1 then (s / 2) ^^^ 0xEDB88320 else s / 2
def crc8 : Nat → Nat → Nat
  | 0, s => s
  | k + 1, s => crc1 (crc8 k s)
def crcB (s : Nat) (c : UInt8) : Nat := crc8 8 (s ^^^ c.toNat)
def crcF (bs : List UInt8) : Nat := bs.foldl crcB 0xFFFFFFFF
/-- The sum of bytes. -/
def sumB (bs : List UInt8) : Nat := 0xFFFFFFFF ^^^ crcF bs
theorem crc1_lt {s : Nat} (h : s < 2 ^ 32) : crc1 s < 2 ^ 32 := by
  unfold crc1
  split
  · exact Nat.xor_lt_two_pow (by omega) (by omega)
  · omega
theorem crc8_lt (k : Nat) {s : Nat} (h : s < 2 ^ 32) : crc8 k s < 2 ^ 32 := by
  induction k with
  | zero => exact h
  | succ k ih => exact crc1_lt ih
theorem crcB_lt {s : Nat} (c : UInt8) (h : s < 2 ^ 32) : crcB s c < 2 ^ 32 := crc8_lt 8 (Nat.xor_lt_two_pow h (by have := c.toNat_lt; omega))
theorem crcF_snoc (bs : List UInt8) (c : UInt8) : crcF (bs ++ [c]) = crcB (crcF bs) c := by unfold crcF; rw [List.foldl_append]; rfl
theorem foldl_lt (bs : List UInt8) : ∀ s, s < 2 ^ 32 → bs.foldl crcB s < 2 ^ 32 := by
  induction bs with
  | nil => intro s h; exact h
  | cons c r ih => intro s h; exact ih _ (crcB_lt c h)
theorem crcF_lt (bs : List UInt8) : crcF bs < 2 ^ 32 := foldl_lt bs _ (by omega)
theorem sumB_lt (bs : List UInt8) : sumB bs < 2 ^ 32 := Nat.xor_lt_two_pow (by omega) (crcF_lt bs)
theorem toNat_bv32 (x : Nat) (hx : x < 2 ^ 32) : (BitVec.ofInt 32 (x : Int)).toNat = x := by
  rw [BitVec.toNat_ofInt]
  omega
theorem xor32 (a b : Nat) (ha : a < 2 ^ 32) (hb : b < 2 ^ 32) : bits .xor .u32 (a : Int) (b : Int) = ((a ^^^ b : Nat) : Int) := by
  show IntKind.u32.wrap ((BitVec.ofInt 32 (a : Int) ^^^ BitVec.ofInt 32 (b : Int)).toNat : Int) = _
  have := Nat.xor_lt_two_pow ha hb
  rw [BitVec.toNat_xor, toNat_bv32 a ha, toNat_bv32 b hb]
  simp only [IntKind.wrap, IntKind.bits, IntKind.signed]
  simp
  omega
theorem and32 (a b : Nat) (ha : a < 2 ^ 32) (hb : b < 2 ^ 32) : bits .and .u32 (a : Int) (b : Int) = ((a &&& b : Nat) : Int) := by
  show IntKind.u32.wrap ((BitVec.ofInt 32 (a : Int) &&& BitVec.ofInt 32 (b : Int)).toNat : Int) = _
  have : a &&& b ≤ a := Nat.and_le_left
  rw [BitVec.toNat_and, toNat_bv32 a ha, toNat_bv32 b hb]
  simp only [IntKind.wrap, IntKind.bits, IntKind.signed]
  simp
  omega
theorem or32 (a b : Nat) (ha : a < 2 ^ 32) (hb : b < 2 ^ 32) : bits .or .u32 (a : Int) (b : Int) = ((a ||| b : Nat) : Int) := by
  show IntKind.u32.wrap ((BitVec.ofInt 32 (a : Int) ||| BitVec.ofInt 32 (b : Int)).toNat : Int) = _
  have := Nat.or_lt_two_pow ha hb
  rw [BitVec.toNat_or, toNat_bv32 a ha, toNat_bv32 b hb]
  simp only [IntKind.wrap, IntKind.bits, IntKind.signed]
  simp
  omega
set_option maxHeartbeats 2000000 in
set_option maxRecDepth 100000 in
theorem sumC (A : Option Addr) (n c B : Nat) (bs : List UInt8) (w : World) (hr : Reads w B 1 A n (bv bs)) (hn : n ≤ 1000000000) :
    Calls Tryd.prog 20 #[.slice A n c] w fun e w' => e = .returned (.int .u32 (sumB bs)) ∧ w' = w := by
  have hl : bs.length = n := by have := hr.1; rw [bv_length] at this; omega
  have HR := Lib.hid hr
  have HL := Lib.hid hl
  clear hr hl
  go_enter Tryd.func20, Tryd.ntmps20
  go_wp2_with (fail)
  go_loopw [3, 8] (fun s i wr => ∃ k : Nat, k ≤ n ∧ i = .int .i64 k ∧ s = .int .u32 (crcF (bs.take k)) ∧ wr = w) (fun _ i _ => n - (intOf i).toNat)
  case atStart => exact ⟨0, Nat.zero_le _, rfl, rfl, rfl⟩
  case round =>
    obtain ⟨k, hk, rfl, rfl, rfl⟩ := hrel
    have hs := crcF_lt (bs.take k)
    by_cases hlt : k < n
    · obtain ⟨b, hbk⟩ : ∃ b, bs[k]? = some b := ⟨bs[k]'(by rw [HL.out]; exact hlt), List.getElem?_eq_getElem _⟩
      obtain ⟨ad, rfl, _, hc⟩ := HR.out.2 (by omega)
      have f0 : wr.cell? (ad.add k) = some (.int .u8 b.toNat) := hc k _ (bv_get hbk)
      have hb8 := b.toNat_lt
      have hin0 : (0 : Int) ≤ (k : Int) := by omega
      have hin1 : (k : Int) < (n : Int) := by omega
      have hst : crcF (bs.take (k + 1)) = crcB (crcF (bs.take k)) b := by
        rw [← crcF_snoc, List.take_add_one, hbk]
        rfl
      have HST := Lib.hid hst
      generalize crcF (bs.take k) = s at *
      have hx := xor32 s b.toNat hs (by omega)
      obtain ⟨s0, hs0⟩ : ∃ s0, s0 = s ^^^ b.toNat := ⟨_, rfl⟩
      rw [← hs0] at hx
      have hs0l : s0 < 2 ^ 32 := by rw [hs0]; exact Nat.xor_lt_two_pow hs (by omega)
      have HS0 := Lib.hid hs0
      clear hbk hc hst hs0
      go_wp2_with (fail)
      go_loopw [3, 16] (fun s i wq => ∃ j : Nat, j ≤ 8 ∧ i = .int .i64 j ∧ s = .int .u32 (crc8 j s0) ∧ wq = wr) (fun _ i _ => 8 - (intOf i).toNat)
      case atStart => exact ⟨0, by omega, rfl, rfl, rfl⟩
      case round =>
        obtain ⟨j, hj, rfl, rfl, rfl⟩ := hrel
        have hsj := crc8_lt j hs0l
        by_cases hj8 : j < 8
        · have hst : crc8 (j + 1) s0 = crc1 (crc8 j s0) := rfl
          generalize crc8 j s0 = t at *
          have hand : bits .and .u32 (t : Int) 1 = (t : Int) % 2 := by
            have := and32 t 1 hsj (by omega)
            rw [Nat.and_one_is_mod] at this
            rw [show (t : Int) % 2 = ((t % 2 : Nat) : Int) by omega]
            exact this
          have HST2 := Lib.hid hst
          clear hst
          by_cases ht : t % 2 = 1
          · have g1 : ((t : Int) % 2 == 1) = true := by simp; omega
            have hx2 := xor32 (t / 2) 3988292384 (by omega) (by omega)
            rw [show ((t / 2 : Nat) : Int) = (t : Int) / 2 by omega] at hx2
            have hc1 : crc1 t = (t / 2) ^^^ 3988292384 := by unfold crc1; rw [if_pos ht]
            rw [← hc1] at hx2
            have HC1 := Lib.hid hc1
            clear hc1 ht
            have hx3 : bits .xor .u32 ((t : Int) / 2) 3988292384 = (crc1 t : Int) := hx2
            clear hx2
            go_wp2_with (fail)
            exact ⟨⟨j + 1, by omega, by go_num, by rw [HST2.out], trivial⟩, by simp [intOf]; omega⟩
          · have g1 : ((t : Int) % 2 == 1) = false := by simp; omega
            have hc1 : crc1 t = t / 2 := by unfold crc1; rw [if_neg ht]
            have HC1 := Lib.hid hc1
            clear hc1 ht
            go_wp2_with (fail)
            exact ⟨⟨j + 1, by omega, by go_num, by rw [HST2.out, HC1.out]; go_num, trivial⟩, by simp [intOf]; omega⟩
        · obtain rfl : j = 8 := by omega
          go_wp2_with (fail)
          exact ⟨⟨k + 1, by omega, by go_num, by rw [HST.out, HS0.out]; rfl, trivial⟩, by simp [intOf]; omega⟩
    · obtain rfl : k = n := by omega
      have hF : bs.take k = bs := List.take_of_length_le (by rw [HL.out]; omega)
      rw [hF] at hs ⊢
      have hnot := xor32 4294967295 (crcF bs) (by omega) hs
      have hsum : 4294967295 ^^^ crcF bs = sumB bs := rfl
      rw [hsum] at hnot
      clear hsum hF
      generalize crcF bs = F at *
      have hnot2 : bits .xor .u32 4294967295 (F : Int) = (sumB bs : Int) := hnot
      clear hnot
      have hmx : IntKind.u32.max = 4294967295 := rfl
      have hsg : IntKind.u32.signed = false := rfl
      go_wp2_with (fail)
      go_ret
      exact ⟨rfl, rfl⟩
end Go.Proofs.YtocgfcboigiigaaDoor
