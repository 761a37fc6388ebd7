/- selionlaw06.FrameTurns answers true, whatever the bytes, the bit. Condition: the package's variable 'none' holds what its text lays. -/
import Derived.Test.YtocgfcboigiigaaDoorLawApart6
namespace Go.Proofs.YtocgfcboigiigaaDoor
open Go Go.Proofs Go.RowKit

theorem crc1_inj {a b : Nat} (ha : a < 2 ^ 32) (hb : b < 2 ^ 32) (h : crc1 a = crc1 b) : a = b := by
  have top : ∀ x, x < 2 ^ 31 → (x ^^^ 0xEDB88320).testBit 31 = true := fun x hx => by
    rw [Nat.testBit_xor, Nat.testBit_lt_two_pow hx]
    decide
  have low : ∀ x, x < 2 ^ 31 → x.testBit 31 = false := fun x hx => Nat.testBit_lt_two_pow hx
  unfold crc1 at h
  by_cases h1 : a % 2 = 1 <;> by_cases h2 : b % 2 = 1
  · rw [if_pos h1, if_pos h2] at h
    have := congrArg (· ^^^ 0xEDB88320) h
    simp only [Nat.xor_assoc, Nat.xor_self, Nat.xor_zero] at this
    omega
  · rw [if_pos h1, if_neg h2] at h
    have h3 := top (a / 2) (by omega)
    rw [h, low _ (by omega)] at h3
    cases h3
  · rw [if_neg h1, if_pos h2] at h
    have h3 := top (b / 2) (by omega)
    rw [← h, low _ (by omega)] at h3
    cases h3
  · rw [if_neg h1, if_neg h2] at h
    omega
theorem crc8_inj (k : Nat) {a b : Nat} (ha : a < 2 ^ 32) (hb : b < 2 ^ 32) (h : crc8 k a = crc8 k b) : a = b := by
  induction k with
  | zero => exact h
  | succ k ih => exact ih (crc1_inj (crc8_lt k ha) (crc8_lt k hb) h)
theorem xor_cancel {a b c : Nat} (h : a ^^^ c = b ^^^ c) : a = b := by
  have := congrArg (· ^^^ c) h
  simpa only [Nat.xor_assoc, Nat.xor_self, Nat.xor_zero] using this
theorem crcB_inj {a b : Nat} (c : UInt8) (ha : a < 2 ^ 32) (hb : b < 2 ^ 32) (h : crcB a c = crcB b c) : a = b := by
  have hc := c.toNat_lt
  exact xor_cancel (crc8_inj 8 (Nat.xor_lt_two_pow ha (by omega)) (Nat.xor_lt_two_pow hb (by omega)) h)
theorem crcB_byte {a : Nat} (c d : UInt8) (ha : a < 2 ^ 32) (h : crcB a c = crcB a d) : c = d := by
  have hc := c.toNat_lt
  have hd := d.toNat_lt
  have := crc8_inj 8 (Nat.xor_lt_two_pow ha (by omega)) (Nat.xor_lt_two_pow ha (by omega)) h
  rw [Nat.xor_comm a, Nat.xor_comm a] at this
  exact UInt8.toNat_inj.1 (xor_cancel this)
theorem foldl_inj (r : List UInt8) : ∀ {a b : Nat}, a < 2 ^ 32 → b < 2 ^ 32 → r.foldl crcB a = r.foldl crcB b → a = b := by
  induction r with
  | nil => intro a b _ _ h; exact h
  | cons c r ih => intro a b ha hb h; exact crcB_inj c ha hb (ih (crcB_lt c ha) (crcB_lt c hb) h)
/-- One byte turned: another sum. -/
theorem sumB_set {bs : List UInt8} {i : Nat} {c d : UInt8} (hc : bs[i]? = some c) (hne : d ≠ c) : sumB (bs.set i d) ≠ sumB bs := by
  intro h
  unfold sumB at h
  rw [Nat.xor_comm, Nat.xor_comm 0xFFFFFFFF] at h
  have h := xor_cancel h
  obtain ⟨hi, hci⟩ := List.getElem?_eq_some_iff.1 hc
  have e1 : bs = bs.take i ++ c :: bs.drop (i + 1) := by rw [← hci, ← List.drop_eq_getElem_cons hi, List.take_append_drop]
  have e2 : bs.set i d = bs.take i ++ d :: bs.drop (i + 1) := by rw [List.set_eq_take_append_cons_drop, if_pos hi]
  rw [e2] at h
  conv at h => rhs; rw [e1]
  unfold crcF at h
  rw [List.foldl_append, List.foldl_append, List.foldl_cons, List.foldl_cons] at h
  have hl := foldl_lt (bs.take i) 0xFFFFFFFF (by omega)
  exact hne (crcB_byte d c hl (foldl_inj _ (crcB_lt d hl) (crcB_lt c hl) h))
theorem num4_take (bs r : List UInt8) (h : 4 ≤ bs.length) : num4 (bs ++ r) = num4 bs := by
  match bs, h with
  | a :: b :: c :: d :: l, _ => rfl
theorem num4_inj {a b : List UInt8} (ha : 4 ≤ a.length) (hb : 4 ≤ b.length) (h : num4 a = num4 b) : a.take 4 = b.take 4 := by rw [four_num4 ha, four_num4 hb, h]
/-- One byte of a piece's sum, or of its own bytes, turned: no piece. -/
theorem split1_set {p : List UInt8} {i : Nat} {c d : UInt8} (h4 : 4 ≤ i) (hp : p.length < 2 ^ 32) (hc : (wrapF p)[i]? = some c) (hne : d ≠ c) : split1 ((wrapF p).set i d) = none := by
  have hlen := wrapF_len p
  have hi : i < p.length + 8 := by rw [← hlen]; exact (List.getElem?_eq_some_iff.1 hc).1
  have w0 : (wrapF p).take 4 = fourF p.length := by unfold wrapF; simp [fourF]
  have w4 : (wrapF p).drop 4 = fourF (sumB p) ++ p := by unfold wrapF; simp [fourF]
  have w8 : (wrapF p).drop 8 = p := by unfold wrapF; simp [fourF]
  have n0 : num4 ((wrapF p).set i d) = p.length := by
    have e : ((wrapF p).set i d).take 4 = fourF p.length := by rw [List.take_set_of_le h4, w0]
    have h1 := num4_take (((wrapF p).set i d).take 4) (((wrapF p).set i d).drop 4) (by rw [e]; exact Nat.le_refl _)
    rw [List.take_append_drop, e] at h1
    rw [h1]
    have := num4_four p.length hp []
    rwa [List.append_nil] at this
  have d4 : ((wrapF p).set i d).drop 4 = (fourF (sumB p) ++ p).set (i - 4) d := by rw [List.drop_set, if_neg (by omega), w4]
  unfold split1
  rw [if_neg]
  rintro ⟨_, _, h⟩
  rw [n0, d4] at h
  rcases Nat.lt_or_ge i 8 with h8 | h8
  · have d8 : ((wrapF p).set i d).drop 8 = p := by rw [List.drop_set_of_lt h8, w8]
    rw [d8, List.take_length] at h
    have e1 := num4_four (sumB p) (sumB_lt p) p
    rw [← e1] at h
    have e2 := num4_inj (by simp [fourF_len]) (by rw [List.length_set]; simp [fourF_len]) h
    have e3 := congrArg (·[i - 4]?) e2
    simp only [List.getElem?_take] at e3
    rw [if_pos (by omega), List.getElem?_set_self (by simp [fourF_len]; omega), ← w4, List.getElem?_drop, show 4 + (i - 4) = i by omega, hc] at e3
    rw [if_pos (by omega)] at e3
    exact hne (Option.some.inj e3).symm
  · have d8 : ((wrapF p).set i d).drop 8 = p.set (i - 8) d := by rw [List.drop_set, if_neg (by omega), w8]
    rw [d8, List.take_of_length_le (by rw [List.length_set]; exact Nat.le_refl _)] at h
    have e1 : num4 ((fourF (sumB p) ++ p).set (i - 4) d) = sumB p := by
      rw [List.set_append_right _ _ (by simp [fourF_len]; omega)]
      exact num4_four _ (sumB_lt p) _
    rw [e1] at h
    refine sumB_set (i := i - 8) (c := c) ?_ hne h
    rw [← hc]
    conv => rhs; rw [show i = 8 + (i - 8) by omega, ← List.getElem?_drop, w8]
theorem xor8 (a b : Nat) (ha : a < 256) (hb : b < 256) : bits .xor .u8 (a : Int) (b : Int) = ((a ^^^ b : Nat) : Int) := by
  show IntKind.u8.wrap ((BitVec.ofInt 8 (a : Int) ^^^ BitVec.ofInt 8 (b : Int)).toNat : Int) = _
  have h : a ^^^ b < 2 ^ 8 := Nat.xor_lt_two_pow ha hb
  rw [BitVec.toNat_xor, BitVec.toNat_ofInt, BitVec.toNat_ofInt]
  rw [show ((a : Int) % ((2 ^ 8 : Nat) : Int)).toNat = a by omega, show ((b : Int) % ((2 ^ 8 : Nat) : Int)).toNat = b by omega]
  simp only [IntKind.wrap, IntKind.bits, IntKind.signed]
  simp
  omega
theorem addr_add0 (g j : Nat) : (⟨g, 0, none⟩ : Addr).add j = ⟨g, j, none⟩ := by unfold Addr.add; split <;> simp_all
theorem Reads.set {w : World} {B g n j : Nat} {xs : List Value} (h : Reads w B 1 (some ⟨g, 0, none⟩) n xs) (hj : j < n) (v : Value) : Reads (w.setCell ⟨g, j, none⟩ v) B 1 (some ⟨g, 0, none⟩) n (xs.set j v) := by
  have hl := h.1
  refine ⟨by rw [List.length_set]; exact h.1, fun hn => ?_⟩
  obtain ⟨ad, h1, h2, h3⟩ := h.2 hn
  obtain rfl := Option.some.inj h1
  refine ⟨_, rfl, h2, fun i u hi => ?_⟩
  rw [addr_add0]
  by_cases hij : i = j
  · subst hij
    rw [List.getElem?_set_self (by omega)] at hi
    obtain rfl := Option.some.inj hi
    obtain ⟨y, hy⟩ : ∃ y, xs[i]? = some y := ⟨xs[i]'(by omega), List.getElem?_eq_getElem _⟩
    have := h3 i y hy
    rw [addr_add0] at this
    exact World.cell?_setCell_same w _ _ this
  · rw [List.getElem?_set_ne (by omega)] at hi
    have := h3 i u hi
    rw [addr_add0] at this
    rw [World.cell?_setCell_other w _ _ _ (by simp; try omega)]
    exact this
theorem bv_set (bs : List UInt8) (j : Nat) (d : UInt8) : bv (bs.set j d) = (bv bs).set j (byteV d) := by simp [bv, List.map_set]
/-- A bit turned. -/
theorem bit_turned (b : UInt8) (m : Nat) (hm : m < 8) : ∃ d : UInt8, d ≠ b ∧ bits .xor .u8 (b.toNat : Int) (2 ^ m % 256) = (d.toNat : Int) := by
  have hb := b.toNat_lt
  have h2 : 2 ^ m ≤ 2 ^ 7 := Nat.pow_le_pow_right (by omega) (by omega)
  have h3 : 1 ≤ 2 ^ m := Nat.one_le_two_pow
  have hx : b.toNat ^^^ 2 ^ m < 2 ^ 8 := Nat.xor_lt_two_pow hb (by omega)
  have e : ((2 : Int) ^ m % 256) = ((2 ^ m : Nat) : Int) := by
    have : (2 : Int) ^ m = ((2 ^ m : Nat) : Int) := by push_cast; rfl
    rw [this]
    omega
  refine ⟨UInt8.ofNat (b.toNat ^^^ 2 ^ m), fun h => ?_, ?_⟩
  · have h4 := congrArg UInt8.toNat h
    rw [ofNat_toNat (by omega)] at h4
    have h5 : 0 ^^^ b.toNat = 2 ^ m ^^^ b.toNat := by rw [Nat.zero_xor, Nat.xor_comm (2 ^ m)]; exact h4.symm
    have := xor_cancel h5
    omega
  · rw [e, xor8 _ _ (by omega) (by omega), ofNat_toNat (by omega)]
set_option maxHeartbeats 4000000 in
set_option maxRecDepth 100000 in
theorem turns6 (A : Option Addr) (n c bit : Nat) (bs : List UInt8) (w : World) (hn : NoneLaid w) (hr : Reads w w.heap.size 1 A n (bv bs)) (hat : bit < 65536) (hn1 : n ≤ 140737488355328) :
    Calls Tryd.prog 3 #[.slice A n c, .int .u16 bit] w fun e w' => e = .returned (.bool true) ∧ Below w.heap.size w w' := by
  have hl : bs.length = n := by have := hr.1; rw [bv_length] at this; omega
  have HR := Lib.hid hr
  have HL := Lib.hid hl
  clear hr hl
  by_cases hbig : n ≤ 100
  · have g1 : decide ((100 : Int) < (n : Int)) = false := decide_eq_false (by omega)
    obtain ⟨k, hk⟩ : ∃ k : Nat, k = 32 + bit % (8 * (n + 8) - 32) := ⟨_, rfl⟩
    have hk1 : (32 : Int) + (bit : Int) % (8 * ((n : Int) + 8) - 32) = (k : Int) := by rw [hk, show 8 * ((n : Int) + 8) - 32 = ((8 * (n + 8) - 32 : Nat) : Int) by omega]; push_cast; rfl
    have hk2 : k < 8 * (n + 8) := by rw [hk]; have := Nat.mod_lt bit (show 0 < 8 * (n + 8) - 32 by omega); omega
    have hk3 : 32 ≤ k := by omega
    obtain ⟨j, hj⟩ : ∃ j, j = k / 8 := ⟨_, rfl⟩
    obtain ⟨m, hm⟩ : ∃ m, m = k % 8 := ⟨_, rfl⟩
    have hj1 : (k : Int) / 8 = (j : Int) := by omega
    have hm1 : (k : Int) % 8 = (m : Int) := by omega
    have hj2 : j < n + 8 := by omega
    have hj4 : 4 ≤ j := by omega
    have hm2 : m < 8 := by omega
    clear hk hj hm
    go_enter Tryd.func3, Tryd.ntmps3
    go_wp2_with (fail)
    refine (awake6_any w hn).mono ?_
    rintro e w1 ⟨rfl, hb1⟩
    clear hn
    have hz1 := hb1.size
    go_wp2_with (fail)
    refine (wrapC A n c _ bs w1 (HR.out.below hb1) hz1 (by omega)).mono ?_
    rintro e w2 ⟨A2, c2, rfl, hown2, hb2⟩
    have hc2 : n + 8 ≤ c2 := by
      obtain ⟨_, _, e2, h2⟩ := owns_form hown2
      injection e2 with _ _ e2
      omega
    obtain ⟨g2, rfl, hg2, hlt2, hcl2⟩ := owns_at hown2 (by omega)
    obtain ⟨b, hb⟩ : ∃ b, (wrapF bs)[j]? = some b := ⟨(wrapF bs)[j]'(by rw [wrapF_len, HL.out]; exact hj2), List.getElem?_eq_getElem _⟩
    have d2 : w2.cell? ⟨g2, j, none⟩ = some (.int .u8 b.toNat) := hcl2 _ _ (bv_get hb)
    have f2 := owns_frz hown2 (j)
    have hz2 := hb2.size
    have HO2 := Lib.hid hown2
    have HB2 := Lib.hid (hb1.trans (hb2.mono hz1))
    have HBB := Lib.hid hb
    clear hown2 hb1 hb2 hcl2 hb
    go_wp2_with (fail)
    have i1 : (0 : Int) ≤ (j : Int) := by omega
    have i2 : (j : Int) < (n : Int) + 8 := by omega
    have i3 : (0 : Int) ≤ (m : Int) := by omega
    obtain ⟨d, hd1, hd2⟩ := bit_turned b m hm2
    have hs := split1_set (p := bs) hj4 (by rw [HL.out]; omega) HBB.out hd1
    have HS := Lib.hid (splitF_none hs)
    have hrd := (Reads.of_own HO2.out).set hj2 (byteV d)
    rw [← bv_set] at hrd
    have HRD := Lib.hid hrd
    clear hs hrd hd1
    go_region
    go_wp2_with (fail)
    refine (splitC (some ⟨g2, 0, none⟩) (n + 8) c2 _ ((wrapF bs).set j d) _ HRD.out.drew (by simp) (by omega) hc2).mono ?_
    rintro e w4 ⟨v4, rfl, hp4, hb4⟩
    rw [HS.out] at hp4 ⊢
    obtain ⟨A4, c4, rfl, _⟩ := hp4.form
    have HB4 := Lib.hid (((HB2.out.setCell (p := ⟨g2, j, none⟩) (by simp only; omega) (byteV d)).drew).trans (hb4.mono (by simp; have := HB2.out.size; omega)))
    clear hp4 hb4
    go_wp2_with (fail)
    go_ret
    exact ⟨rfl, HB4.out⟩
  · have g1 : decide ((100 : Int) < (n : Int)) = true := decide_eq_true (by omega)
    go_enter Tryd.func3, Tryd.ntmps3
    go_wp2_with (fail)
    refine (awake6_any w hn).mono ?_
    rintro e w1 ⟨rfl, hb1⟩
    clear hn
    go_wp2_with (fail)
    go_ret
    exact ⟨rfl, hb1⟩
end Go.Proofs.YtocgfcboigiigaaDoor
