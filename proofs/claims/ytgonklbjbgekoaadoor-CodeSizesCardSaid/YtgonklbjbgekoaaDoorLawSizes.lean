/- selionlaw05.CodeSizes answers true, whatever the number, the text. Condition: the package's variable 'none' holds what its text lays. -/
import Derived.Test.YtgonklbjbgekoaaDoorCode2
namespace Go.Proofs.YtgonklbjbgekoaaDoor
open Go Go.Proofs Go.RowKit

theorem numB_size : ∀ (q r m : Nat), r < 7 → 2 ^ (7 * q + r) ≤ m → m < 2 ^ (7 * q + r + 1) → (numB m).length = q + 1 := by
  intro q
  induction q with
  | zero =>
    intro r m hr h1 h2
    have : 2 ^ (7 * 0 + r + 1) ≤ 2 ^ 7 := Nat.pow_le_pow_right (by omega) (by omega)
    rw [numB_small (by omega)]
    rfl
  | succ q ih =>
    intro r m hr h1 h2
    have h128 : 2 ^ 7 ≤ 2 ^ (7 * (q + 1) + r) := Nat.pow_le_pow_right (by omega) (by omega)
    have e1 : 2 ^ (7 * (q + 1) + r) = 2 ^ (7 * q + r) * 128 := by rw [show 7 * (q + 1) + r = (7 * q + r) + 7 by omega, Nat.pow_add]
    have e2 : 2 ^ (7 * (q + 1) + r + 1) = 2 ^ (7 * q + r + 1) * 128 := by rw [show 7 * (q + 1) + r + 1 = (7 * q + r + 1) + 7 by omega, Nat.pow_add]
    rw [numB_big (by omega), List.length_cons, ih r (m / 128) hr (by omega) (by omega)]
theorem toNat_bv64 (x : Nat) (hx : x < 2 ^ 64) : (BitVec.ofInt 64 (x : Int)).toNat = x := by
  rw [BitVec.toNat_ofInt]
  omega
theorem orBits (n j k : Nat) (hjk : j + k = 63) (hn : n < 2 ^ 64) : ∃ y : Nat, bits .or .u64 ((n : Int) / 2 ^ j) (IntKind.u64.wrap ((2 : Int) ^ k)) = (y : Int) ∧ 2 ^ k ≤ y ∧ y < 2 ^ (k + 1) := by
  have hpk : 2 ^ k < 2 ^ (k + 1) := Nat.pow_lt_pow_right (by omega) (by omega)
  have h64 : 2 ^ (k + 1) ≤ 2 ^ 64 := Nat.pow_le_pow_right (by omega) (by omega)
  have hx : n / 2 ^ j < 2 ^ (k + 1) := by
    rw [Nat.div_lt_iff_lt_mul (Nat.two_pow_pos j), ← Nat.pow_add, show k + 1 + j = 64 by omega]
    exact hn
  have e1 : (n : Int) / 2 ^ j = ((n / 2 ^ j : Nat) : Int) := by push_cast; rfl
  have e2 : (2 : Int) ^ k = ((2 ^ k : Nat) : Int) := by push_cast; rfl
  rw [e1, e2, IntWalk.u64_in _ (by omega)]
  obtain ⟨x, hxe⟩ : ∃ x, x = n / 2 ^ j := ⟨_, rfl⟩
  rw [← hxe] at hx ⊢
  have hor := Nat.or_lt_two_pow hx hpk
  refine ⟨x ||| 2 ^ k, ?_, Nat.right_le_or, hor⟩
  show IntKind.u64.wrap ((BitVec.ofInt 64 (x : Int) ||| BitVec.ofInt 64 ((2 ^ k : Nat) : Int)).toNat : Int) = _
  rw [BitVec.toNat_or, toNat_bv64 x (by omega), toNat_bv64 (2 ^ k) (by omega), IntWalk.u64_in _ (by omega)]
theorem sizes_any (b n : Nat) (s : Txt) (w : World) (hn : NoneLaid w) (hb : b < 256) (hnn : n < 2 ^ 64) (hs : s.length ≤ 140737488355328) :
    Calls Tryd.prog 5 #[.int .u8 b, .int .u64 n, txt s] w fun e w' => e = .returned (.bool true) ∧ Below w.heap.size w w' := by
  show Calls Tryd.prog 5 #[.int .u8 b, .int .u64 n, .string ⟨s.toArray⟩] w _
  have hsz : (⟨s.toArray⟩ : ByteArray).size = s.length := by simp [ByteArray.size]
  by_cases hbig : s.length ≤ 300
  · obtain ⟨k, hk⟩ : ∃ k : Nat, k = b % 64 := ⟨_, rfl⟩
    have hk1 : (b : Int) % 64 = (k : Int) := by omega
    have hk2 : k ≤ 63 := by omega
    have hg : decide ((300 : Int) < (s.length : Int)) = false := decide_eq_false (by omega)
    obtain ⟨j, hj⟩ : ∃ j : Nat, j = 63 - k := ⟨_, rfl⟩
    have hj1 : (63 : Int) - (k : Int) = (j : Int) := by omega
    have hj2 : j + k = 63 := by omega
    obtain ⟨y, hy, hy1, hy2⟩ := orBits n j k hj2 hnn
    have hyl : y < 2 ^ 64 := Nat.lt_of_lt_of_le hy2 (Nat.pow_le_pow_right (by omega) (by omega))
    obtain ⟨q, hq⟩ : ∃ q : Nat, q = k / 7 := ⟨_, rfl⟩
    have hkq : 7 * q + k % 7 = k := by omega
    have hlen : (numB y).length = q + 1 := numB_size q (k % 7) y (by omega) (by rw [hkq]; exact hy1) (by rw [hkq]; exact hy2)
    have hq1 : (k : Int) / 7 = (q : Int) := by omega
    have HY := Lib.hid hyl
    have HLEN := Lib.hid hlen
    clear hk hj hy1 hy2 hyl hkq hlen hq
    go_enter Tryd.func5, Tryd.ntmps5
    go_wp2_with (fail)
    refine (awake5_any w hn).mono ?_
    rintro e w1 ⟨rfl, hb1⟩
    clear hn
    have hz1 := hb1.size
    go_wp2_with (fail)
    go_quiet (fail)
    all_goals
      go_wp2_with (fail)
      refine (numW _ w1.heap.size y [] _ (wrNew (w1.drewN nq)) HY.out (by simp)).mono ?_
      rintro e w2 ⟨rfl, C2, hW2, hC2, hM2⟩
      obtain ⟨A, c, h1, h2, h3, h4⟩ := id hW2
      rw [List.nil_append, HLEN.out] at h1
      have d0 : w2.cell? ⟨w1.heap.size, 0, none⟩ = some (.slice A (q + 1) c) := by rw [cell_of_blk h1]; rfl
      have hb2 : Below w1.heap.size w1 w2 := ((bdrewN (Below.refl _ _) nq).alloc (Nat.le_refl _) _).trans (hM2.below (by simp) (fun k hk h => by omega))
      have HB2 := Lib.hid (hb1.trans (hb2.mono hz1))
      have HW2 := Lib.hid hW2
      clear h1 h2 h3 h4 hb2 hM2 hW2
      go_wp2_with (fail)
      refine (textW C2 w1.heap.size s ([] ++ numB y) w2 HW2.out (by omega) (by rw [List.nil_append, HLEN.out]; omega)).mono ?_
      rintro e w3 ⟨rfl, C3, hW3, hC3, hM3⟩
      have hC2w : ∀ b, b < w.heap.size → ¬ C2 b := fun b hb h => by
        rcases hC2 b h with h' | h'
        · rw [show (w1.drewN nq).heap.size = w1.heap.size from rfl] at h'; omega
        · rw [World.size_alloc, show (w1.drewN nq).heap.size = w1.heap.size from rfl] at h'; omega
      have HB3 := HB2.out.trans (hM3.below HB2.out.size hC2w)
      by_cases hs7 : s.length ≤ 127
      · have hl3 : ([] ++ numB y ++ textB s).length = q + 1 + 1 + s.length := by
          unfold textB
          rw [List.nil_append, List.length_append, List.length_append, HLEN.out, numB_small (by omega)]
          simp
          omega
        obtain ⟨A3, c3, g1, _, _, _⟩ := hW3
        rw [hl3] at g1
        have d3 : w3.cell? ⟨w1.heap.size, 0, none⟩ = some (.slice A3 (q + 1 + 1 + s.length) c3) := by rw [cell_of_blk g1]; rfl
        have hg2 : decide ((127 : Int) < (s.length : Int)) = false := decide_eq_false (by omega)
        clear g1 hM3 hC3 hC2 hC2w d0 hl3
        go_wp2_with (fail)
        go_ret
        exact ⟨by simp, HB3⟩
      · have hl3 : ([] ++ numB y ++ textB s).length = q + 1 + 2 + s.length := by
          unfold textB
          rw [List.nil_append, List.length_append, List.length_append, HLEN.out, numB_big (by omega), numB_small (by omega)]
          simp
          omega
        obtain ⟨A3, c3, g1, _, _, _⟩ := hW3
        rw [hl3] at g1
        have d3 : w3.cell? ⟨w1.heap.size, 0, none⟩ = some (.slice A3 (q + 1 + 2 + s.length) c3) := by rw [cell_of_blk g1]; rfl
        have hg2 : decide ((127 : Int) < (s.length : Int)) = true := decide_eq_true (by omega)
        clear g1 hM3 hC3 hC2 hC2w d0 hl3
        go_wp2_with (fail)
        go_ret
        exact ⟨by simp, HB3⟩
  · have hg : decide ((300 : Int) < (s.length : Int)) = true := decide_eq_true (by omega)
    go_enter Tryd.func5, Tryd.ntmps5
    go_wp2_with (fail)
    refine (awake5_any w hn).mono ?_
    rintro e w1 ⟨rfl, hb1⟩
    clear hn
    go_wp2_with (fail)
    go_ret
    exact ⟨rfl, hb1⟩
end Go.Proofs.YtgonklbjbgekoaaDoor
