/- The sum by definition: selionlaw06.Sum is frame.Sum. Condition: not too many bytes. -/
import Derived.Test.YtocgfcboigiigaaDoorFrm2
namespace Go.Proofs.YtocgfcboigiigaaDoor
open Go Go.Proofs Go.RowKit

/-- One bit, the lowest first. -/
def stepL (u b : Nat) : Nat := if (u % 2) ^^^ b = 1 then (u / 2) ^^^ 0xEDB88320 else u / 2
/-- One bit, the highest first. -/
def stepM (s b : Nat) : Nat := if (s / 2 ^ 31) ^^^ b = 1 then (s * 2 % 2 ^ 32) ^^^ 0x04c11db7 else s * 2 % 2 ^ 32
/-- Turned round. -/
def Turned (u s : Nat) : Prop := u < 2 ^ 32 ∧ s < 2 ^ 32 ∧ ∀ i, i < 32 → u.testBit i = s.testBit (31 - i)
theorem mod2_testBit (u : Nat) : u % 2 = (u.testBit 0).toNat := by
  rw [Nat.testBit_zero]
  rcases Nat.mod_two_eq_zero_or_one u with h | h <;> simp [h]
theorem top_testBit {s : Nat} (h : s < 2 ^ 32) : s / 2 ^ 31 = (s.testBit 31).toNat := by
  have h1 : s / 2 ^ 31 < 2 := by omega
  have h2 : s.testBit 31 = decide (s / 2 ^ 31 % 2 = 1) := by rw [Nat.testBit_eq_decide_div_mod_eq]
  rw [h2]
  rcases Nat.lt_or_ge (s / 2 ^ 31) 1 with h3 | h3
  · have : s / 2 ^ 31 = 0 := by omega
    rw [this]; rfl
  · have : s / 2 ^ 31 = 1 := by omega
    rw [this]; rfl
theorem turned_consts : ∀ i, i < 32 → (0xEDB88320 : Nat).testBit i = (0x04c11db7 : Nat).testBit (31 - i) := by decide
theorem turned_shift {u s : Nat} (h : Turned u s) : Turned (u / 2) (s * 2 % 2 ^ 32) := by
  obtain ⟨h1, h2, h3⟩ := h
  refine ⟨by omega, Nat.mod_lt _ (by omega), fun i hi => ?_⟩
  rw [Nat.testBit_div_two, Nat.testBit_mod_two_pow, Nat.mul_comm s 2]
  by_cases hi31 : i < 31
  · rw [h3 (i + 1) (by omega), show 31 - i = (31 - (i + 1)) + 1 by omega, Nat.testBit_succ, Nat.mul_div_cancel_left _ (by omega)]
    simp
    omega
  · obtain rfl : i = 31 := by omega
    rw [Nat.testBit_lt_two_pow (by omega)]
    simp
theorem turned_xor {u s a b : Nat} (h : Turned u s) (h' : Turned a b) : Turned (u ^^^ a) (s ^^^ b) :=
  ⟨Nat.xor_lt_two_pow h.1 h'.1, Nat.xor_lt_two_pow h.2.1 h'.2.1, fun i hi => by rw [Nat.testBit_xor, Nat.testBit_xor, h.2.2 i hi, h'.2.2 i hi]⟩
theorem turned_step {u s : Nat} (h : Turned u s) (b : Nat) : Turned (stepL u b) (stepM s b) := by
  have hb : u % 2 = s / 2 ^ 31 := by rw [mod2_testBit, top_testBit h.2.1, h.2.2 0 (by omega)]
  unfold stepL stepM
  rw [hb]
  split
  · exact turned_xor (turned_shift h) ⟨by omega, by omega, turned_consts⟩
  · exact turned_shift h
/-- The bits of a byte, one by one. -/
def bitsL (u : Nat) (c : Nat) : Nat → Nat
  | 0 => u
  | k + 1 => stepL (bitsL u c k) (c / 2 ^ k % 2)
theorem crc1_step (x y : Nat) : crc1 (x ^^^ y) = stepL x (y % 2) ^^^ (y / 2) := by
  have hm : (x ^^^ y) % 2 = (x % 2) ^^^ (y % 2) := by
    have := Nat.xor_mod_two_pow (a := x) (b := y) (n := 1)
    simpa using this
  have hd : (x ^^^ y) / 2 = (x / 2) ^^^ (y / 2) := by
    have := Nat.xor_div_two_pow (a := x) (b := y) (n := 1)
    simpa using this
  unfold crc1 stepL
  rw [hm, hd]
  split
  · rw [Nat.xor_assoc, Nat.xor_comm (y / 2), ← Nat.xor_assoc]
  · rfl
theorem crc8_bits (u c : Nat) : ∀ k, crc8 k (u ^^^ c) = bitsL u c k ^^^ (c / 2 ^ k) := by
  intro k
  induction k with
  | zero => simp [crc8, bitsL]
  | succ k ih =>
    show crc1 (crc8 k (u ^^^ c)) = _
    rw [ih, crc1_step, Nat.div_div_eq_div_mul, ← Nat.pow_succ]
    rfl
theorem crcB_bits (u : Nat) (c : UInt8) : crcB u c = bitsL u c.toNat 8 := by
  unfold crcB
  rw [crc8_bits]
  have := c.toNat_lt
  rw [show c.toNat / 2 ^ 8 = 0 by omega, Nat.xor_zero]
/-- The register, turned round, behind k rounds. -/
def OutI (s k o : Nat) : Prop := o < 2 ^ k ∧ ∀ j, j < k → o.testBit j = s.testBit (k - 1 - j)
theorem outI_zero (s : Nat) : OutI s 0 0 := ⟨by omega, fun j h => by omega⟩
theorem outI_step {s k o : Nat} (h : OutI s k o) : OutI s (k + 1) (2 * o + s / 2 ^ k % 2) := by
  obtain ⟨h1, h2⟩ := h
  have hb : s / 2 ^ k % 2 = (s.testBit k).toNat := by
    rw [Nat.testBit_eq_decide_div_mod_eq]
    rcases Nat.mod_two_eq_zero_or_one (s / 2 ^ k) with h | h <;> simp [h]
  have hb2 : s / 2 ^ k % 2 < 2 := Nat.mod_lt _ (by omega)
  refine ⟨by rw [Nat.pow_succ]; omega, fun j hj => ?_⟩
  cases j with
  | zero =>
    rw [Nat.testBit_zero, show k + 1 - 1 - 0 = k by omega]
    rw [hb]
    cases s.testBit k <;> simp
  | succ j =>
    rw [Nat.testBit_succ, show (2 * o + s / 2 ^ k % 2) / 2 = o by omega, h2 j (by omega)]
    congr 1
    omega
theorem outI_done {s u o : Nat} (h : OutI s 32 o) (ht : Turned u s) : o = u := by
  apply Nat.eq_of_testBit_eq
  intro i
  rcases Nat.lt_or_ge i 32 with hi | hi
  · rw [h.2 i hi, ht.2.2 i hi]
  · have p : 2 ^ 32 ≤ 2 ^ i := Nat.pow_le_pow_right (by omega) hi
    rw [Nat.testBit_lt_two_pow (by have := h.1; omega), Nat.testBit_lt_two_pow (by have := ht.1; omega)]
theorem and8 (a b : Nat) (ha : a < 256) (hb : b < 256) : bits .and .u8 (a : Int) (b : Int) = ((a &&& b : Nat) : Int) := by
  show IntKind.u8.wrap ((BitVec.ofInt 8 (a : Int) &&& BitVec.ofInt 8 (b : Int)).toNat : Int) = _
  have h : a &&& b ≤ a := Nat.and_le_left
  rw [BitVec.toNat_and, BitVec.toNat_ofInt, BitVec.toNat_ofInt]
  rw [show ((a : Int) % ((2 ^ 8 : Nat) : Int)).toNat = a by omega, show ((b : Int) % ((2 ^ 8 : Nat) : Int)).toNat = b by omega]
  simp only [IntKind.wrap, IntKind.bits, IntKind.signed]
  simp
  omega
theorem stepM_lt (s b : Nat) : stepM s b < 2 ^ 32 := by
  unfold stepM
  split
  · exact Nat.xor_lt_two_pow (Nat.mod_lt _ (by omega)) (by omega)
  · exact Nat.mod_lt _ (by omega)
def foldM (s c : Nat) : Nat → Nat
  | 0 => s
  | k + 1 => stepM (foldM s c k) (c / 2 ^ k % 2)
theorem foldM_turned {u s : Nat} (h : Turned u s) (c : Nat) : ∀ k, Turned (bitsL u c k) (foldM s c k) := by
  intro k
  induction k with
  | zero => exact h
  | succ k ih => exact turned_step ih _
theorem cast_div_pow (c j : Nat) : (c : Int) / 2 ^ j = ((c / 2 ^ j : Nat) : Int) := by push_cast; rfl
theorem topBit (t c j : Nat) (ht : t < 2 ^ 32) (hc : c < 256) : bits .xor .u32 ((t : Int) / 2147483648) (bits .and .u8 ((c : Int) / 2 ^ j) 1 % 4294967296) = (((t / 2 ^ 31) ^^^ (c / 2 ^ j % 2) : Nat) : Int) := by
  have h1 : c / 2 ^ j ≤ c := Nat.div_le_self _ _
  have h2 := and8 (c / 2 ^ j) 1 (by omega) (by omega)
  rw [Nat.and_one_is_mod] at h2
  rw [cast_div_pow, show (1 : Int) = ((1 : Nat) : Int) from rfl, h2]
  have h3 : c / 2 ^ j % 2 < 2 := Nat.mod_lt _ (by omega)
  have h4 := xor32 (t / 2 ^ 31) (c / 2 ^ j % 2) (by omega) (by omega)
  rw [← h4]
  congr 1
  omega
theorem outBit (r x j : Nat) (hr : r < 2 ^ 32) (hx : x < 2 ^ 31) : bits .or .u32 ((x : Int) * 2) (bits .and .u32 ((r : Int) / 2 ^ j) 1) = ((2 * x + r / 2 ^ j % 2 : Nat) : Int) := by
  have h1 : r / 2 ^ j ≤ r := Nat.div_le_self _ _
  have h2 := and32 (r / 2 ^ j) 1 (by omega) (by omega)
  rw [Nat.and_one_is_mod] at h2
  have h3 : r / 2 ^ j % 2 < 2 ^ 1 := Nat.mod_lt _ (by omega)
  have h4 := Nat.two_pow_add_eq_or_of_lt h3 x
  rw [cast_div_pow, show (1 : Int) = ((1 : Nat) : Int) from rfl, h2, show (x : Int) * 2 = ((2 ^ 1 * x : Nat) : Int) by omega, or32 _ _ (by omega) (by omega), ← h4]
set_option maxHeartbeats 4000000 in
set_option maxRecDepth 100000 in
theorem sumL (A : Option Addr) (n c B : Nat) (bs : List UInt8) (w : World) (hr : Reads w B 1 A n (bv bs)) (hn : n ≤ 1000000000) :
    Calls Tryd.prog 21 #[.slice A n c] w fun e w' => e = .returned (.int .u32 (sumB bs)) ∧ w' = w := by
  have hl : bs.length = n := by have := hr.1; rw [bv_length] at this; omega
  have HR := Lib.hid hr
  have HL := Lib.hid hl
  clear hr hl
  have hsg : IntKind.u32.signed = false := rfl
  go_enter Tryd.func21, Tryd.ntmps21
  go_wp2_with (fail)
  go_loopw [3, 12] (fun s i wr => ∃ (k : Nat) (r : Nat), k ≤ n ∧ i = .int .i64 k ∧ s = .int .u32 r ∧ Hid (Turned (crcF (bs.take k)) r) ∧ wr = w) (fun _ i _ => n - (intOf i).toNat)
  case atStart => exact ⟨0, 4294967295, Nat.zero_le _, rfl, rfl, Lib.hid (show Turned 4294967295 4294967295 from ⟨by decide, by omega, by decide⟩), rfl⟩
  case round =>
    obtain ⟨k, r, hk, rfl, rfl, HT, rfl⟩ := hrel
    have hr32 := HT.out.2.1
    by_cases hlt : k < n
    · obtain ⟨b, hbk⟩ : ∃ b, bs[k]? = some b := ⟨bs[k]'(by rw [HL.out]; exact hlt), List.getElem?_eq_getElem _⟩
      obtain ⟨ad, rfl, _, hc⟩ := HR.out.2 (by omega)
      have f0 : wr.cell? (ad.add k) = some (.int .u8 b.toNat) := hc k _ (bv_get hbk)
      have hb8 := b.toNat_lt
      have hin0 : (0 : Int) ≤ (k : Int) := by omega
      have hin1 : (k : Int) < (n : Int) := by omega
      have hst : crcF (bs.take (k + 1)) = crcB (crcF (bs.take k)) b := by
        rw [← crcF_snoc, List.take_add_one, hbk]
        rfl
      have HST := Lib.hid hst
      clear hbk hc hst
      go_wp2_with (fail)
      go_loopw [3, 16] (fun s i wq => ∃ j : Nat, j ≤ 8 ∧ i = .int .i64 j ∧ s = .int .u32 (foldM r b.toNat j) ∧ wq = wr) (fun _ i _ => 8 - (intOf i).toNat)
      case atStart => exact ⟨0, by omega, rfl, rfl, rfl⟩
      case round =>
        obtain ⟨j, hj, rfl, rfl, rfl⟩ := hrel
        have hsj : foldM r b.toNat j < 2 ^ 32 := (foldM_turned HT.out b.toNat j).2.1
        by_cases hj8 : j < 8
        · have hst : foldM r b.toNat (j + 1) = stepM (foldM r b.toNat j) (b.toNat / 2 ^ j % 2) := rfl
          have HST2 := Lib.hid hst
          clear hst
          generalize foldM r b.toNat j = t at *
          have hin2 : (0 : Int) ≤ (j : Int) := by omega
          have htb := topBit t b.toNat j hsj (by omega)
          have hxq := xor32 (t * 2 % 2 ^ 32) 79764919 (by omega) (by omega)
          rw [show ((t * 2 % 2 ^ 32 : Nat) : Int) = (t : Int) * 2 % 4294967296 by omega] at hxq
          have HXQ := Lib.hid hxq
          have hbool : ((((t / 2 ^ 31) ^^^ (b.toNat / 2 ^ j % 2) : Nat) : Int) == 1) = decide ((t / 2 ^ 31) ^^^ (b.toNat / 2 ^ j % 2) = 1) := by rw [Bool.eq_iff_iff]; simp; omega
          have htb2 : (bits .xor .u32 ((t : Int) / 2147483648) (bits .and .u8 ((b.toNat : Int) / 2 ^ j) 1 % 4294967296) == 1) = decide ((t / 2 ^ 31) ^^^ (b.toNat / 2 ^ j % 2) = 1) := by rw [htb, hbool]
          clear hbool htb hxq
          by_cases htop : (t / 2 ^ 31) ^^^ (b.toNat / 2 ^ j % 2) = 1
          · have htb3 := htb2.trans (decide_eq_true htop)
            have hsm : stepM t (b.toNat / 2 ^ j % 2) = (t * 2 % 2 ^ 32) ^^^ 79764919 := by unfold stepM; rw [if_pos htop]
            have HSM := Lib.hid hsm
            clear htb2 hsm htop
            go_wp2_with (fail)
            refine ⟨⟨j + 1, by omega, by go_num, ?_, trivial⟩, by simp [intOf]; omega⟩
            rw [HST2.out, HSM.out, ← HXQ.out]
            rfl
          · have htb3 := htb2.trans (decide_eq_false htop)
            have hsm : stepM t (b.toNat / 2 ^ j % 2) = t * 2 % 2 ^ 32 := by unfold stepM; rw [if_neg htop]
            have HSM := Lib.hid hsm
            clear htb2 hsm htop
            go_wp2_with (fail)
            refine ⟨⟨j + 1, by omega, by go_num, ?_, trivial⟩, by simp [intOf]; omega⟩
            rw [HST2.out, HSM.out]
            congr 1
        · obtain rfl : j = 8 := by omega
          go_wp2_with (fail)
          refine ⟨⟨k + 1, foldM r b.toNat 8, by omega, by go_num, rfl, ?_, trivial⟩, by simp [intOf]; omega⟩
          rw [HST.out, crcB_bits]
          exact Lib.hid (foldM_turned HT.out b.toNat 8)
    · obtain rfl : k = n := by omega
      go_wp2_with (fail)
      go_loopw [8, 35] (fun o i wq => ∃ (j : Nat) (x : Nat), j ≤ 32 ∧ i = .int .i64 j ∧ o = .int .u32 x ∧ Hid (OutI r j x) ∧ wq = wr) (fun _ i _ => 32 - (intOf i).toNat)
      case atStart => exact ⟨0, 0, by omega, rfl, rfl, Lib.hid (outI_zero r), rfl⟩
      case round =>
        obtain ⟨j, x, hj, rfl, rfl, HO, rfl⟩ := hrel
        by_cases hj32 : j < 32
        · have hin2 : (0 : Int) ≤ (j : Int) := by omega
          have hx : x < 2 ^ j := HO.out.1
          have hx31 : x < 2 ^ 31 := Nat.lt_of_lt_of_le hx (Nat.pow_le_pow_right (by omega) (by omega))
          clear hx
          go_wp2_with (fail)
          exact ⟨⟨j + 1, _, by omega, by go_num, by rw [outBit r x j hr32 hx31], Lib.hid (outI_step HO.out), trivial⟩, by simp [intOf]; omega⟩
        · obtain rfl : j = 32 := by omega
          have hF : bs.take k = bs := List.take_of_length_le (by rw [HL.out]; omega)
          have hx : x = crcF bs := by rw [← hF]; exact outI_done HO.out HT.out
          subst hx
          have hnot : bits .xor .u32 4294967295 (crcF bs : Int) = (sumB bs : Int) := xor32 4294967295 (crcF bs) (by omega) (crcF_lt bs)
          have hmx : IntKind.u32.max = 4294967295 := rfl
          clear hF
          generalize crcF bs = F at *
          go_wp2_with (fail)
          go_ret
          exact ⟨rfl, rfl⟩
end Go.Proofs.YtocgfcboigiigaaDoor
