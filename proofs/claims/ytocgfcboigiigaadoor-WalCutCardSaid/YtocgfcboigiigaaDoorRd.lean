/- Numbers' bytes read back, as plain laws: no program stands in this text. -/
import Derived.Test.YtocgfcboigiigaaDoorWords
namespace Go.Proofs.YtocgfcboigiigaaDoor
open Go Go.RowKit
/-- A number's bytes. -/
def numB (n : Nat) : List UInt8 := if n < 128 then [UInt8.ofNat n] else UInt8.ofNat (n % 128 + 128) :: numB (n / 128)
theorem numB_small {n : Nat} (h : n < 128) : numB n = [UInt8.ofNat n] := by rw [numB, if_pos h]
theorem numB_big {n : Nat} (h : ¬ n < 128) : numB n = UInt8.ofNat (n % 128 + 128) :: numB (n / 128) := by rw [numB, if_neg h]
theorem numB_len : ∀ (k n : Nat), n < 128 ^ (k + 1) → (numB n).length ≤ k + 1 := by
  intro k
  induction k with
  | zero => intro n hn; rw [numB_small (by omega)]; exact Nat.le_refl _
  | succ k ih =>
    intro n hn
    by_cases h : n < 128
    · rw [numB_small h]; simp
    · rw [numB_big h, List.length_cons]
      have := ih (n / 128) (by rw [Nat.div_lt_iff_lt_mul (by omega)]; rw [Nat.pow_succ] at hn; exact hn)
      omega
theorem numB_len10 {n : Nat} (h : n < 2 ^ 64) : (numB n).length ≤ 10 := numB_len 9 n (by omega)

/-- What is read from the i-th byte on, acc having been read. -/
def rd : List UInt8 → Nat → Nat → Option (Nat × List UInt8)
  | [], _, _ => none
  | c :: r, i, acc => if 10 ≤ i then none else if 128 ≤ c.toNat then rd r (i + 1) (acc + c.toNat % 128 * 2 ^ (7 * i)) else if (c.toNat = 0 ∧ 0 < i) ∨ (i = 9 ∧ 1 < c.toNat) then none else some (acc + c.toNat * 2 ^ (7 * i), r)
def readNum (bs : List UInt8) : Option (Nat × List UInt8) := rd bs 0 0
theorem rd_ten (bs : List UInt8) (i acc : Nat) (h : 10 ≤ i) : rd bs i acc = none := by
  cases bs with
  | nil => rfl
  | cons c r => unfold rd; rw [if_pos h]
theorem ofNat_toNat {x : Nat} (h : x < 256) : (UInt8.ofNat x).toNat = x := by rw [UInt8.toNat_ofNat']; omega
theorem rd_numB : ∀ (n i acc : Nat) (r : List UInt8), n < 2 ^ (64 - 7 * i) → i ≤ 9 → (0 < i → 0 < n) → rd (numB n ++ r) i acc = some (acc + n * 2 ^ (7 * i), r) := by
  intro n
  induction n using Nat.strongRecOn with
  | ind n ih =>
    intro i acc r hn hi h0
    by_cases h : n < 128
    · rw [numB_small h, List.singleton_append]
      unfold rd
      rw [ofNat_toNat (by omega), if_neg (by omega), if_neg (by omega), if_neg]
      rintro (⟨h1, h2⟩ | ⟨rfl, h2⟩)
      · have := h0 h2
        omega
      · simp only [Nat.reduceMul, Nat.reduceSub, Nat.reducePow] at hn
        omega
    · have hi8 : i ≤ 8 := by
        rcases Nat.lt_or_ge i 9 with h9 | h9
        · omega
        · obtain rfl : i = 9 := by omega
          simp only [Nat.reduceMul, Nat.reduceSub, Nat.reducePow] at hn
          omega
      have e1 : 2 ^ (64 - 7 * i) = 2 ^ (64 - 7 * (i + 1)) * 128 := by rw [show 64 - 7 * i = (64 - 7 * (i + 1)) + 7 by omega, Nat.pow_add]
      have e2 : 2 ^ (7 * (i + 1)) = 128 * 2 ^ (7 * i) := by rw [show 7 * (i + 1) = 7 + 7 * i by omega, Nat.pow_add]
      rw [numB_big h, List.cons_append]
      unfold rd
      rw [ofNat_toNat (by omega), if_neg (by omega), if_pos (by omega), ih (n / 128) (by omega) (i + 1) _ r (by omega) (by omega) (fun _ => by omega), e2]
      have e3 : (n % 128 + 128) % 128 = n % 128 := by omega
      have e4 : n * 2 ^ (7 * i) = (n % 128) * 2 ^ (7 * i) + (n / 128) * (128 * 2 ^ (7 * i)) := by
        rw [← Nat.mul_assoc, ← Nat.add_mul]
        congr 1
        omega
      rw [e3, e4, Nat.add_assoc]
theorem rd_some : ∀ (bs : List UInt8) (i acc m : Nat) (r : List UInt8), rd bs i acc = some (m, r) → i ≤ 9 → ∃ n, bs = numB n ++ r ∧ m = acc + n * 2 ^ (7 * i) ∧ n < 2 ^ (64 - 7 * i) ∧ (0 < i → 0 < n) := by
  intro bs
  induction bs with
  | nil => intro i acc m r h _; cases h
  | cons c bs ih =>
    intro i acc m r h hi
    have hc := c.toNat_lt
    unfold rd at h
    rw [if_neg (by omega)] at h
    by_cases h1 : 128 ≤ c.toNat
    · rw [if_pos h1] at h
      rcases Nat.lt_or_ge i 9 with h9 | h9
      · obtain ⟨n, rfl, rfl, hn, hp⟩ := ih _ _ _ _ h (by omega)
        have hp := hp (by omega)
        have e1 : 2 ^ (64 - 7 * i) = 2 ^ (64 - 7 * (i + 1)) * 128 := by rw [show 64 - 7 * i = (64 - 7 * (i + 1)) + 7 by omega, Nat.pow_add]
        have e2 : 2 ^ (7 * (i + 1)) = 128 * 2 ^ (7 * i) := by rw [show 7 * (i + 1) = 7 + 7 * i by omega, Nat.pow_add]
        refine ⟨n * 128 + c.toNat % 128, ?_, ?_, by omega, fun _ => by omega⟩
        · rw [numB_big (n := n * 128 + c.toNat % 128) (by omega), show (n * 128 + c.toNat % 128) % 128 + 128 = c.toNat by omega, show (n * 128 + c.toNat % 128) / 128 = n by omega, UInt8.ofNat_toNat, List.cons_append]
        · rw [e2, Nat.add_mul, Nat.mul_assoc, Nat.add_assoc, Nat.add_comm (n * _)]
      · rw [rd_ten _ _ _ (by omega)] at h
        cases h
    · rw [if_neg h1] at h
      split at h
      · cases h
      · rename_i h2
        simp only [Option.some.injEq, Prod.mk.injEq] at h
        obtain ⟨rfl, rfl⟩ := h
        refine ⟨c.toNat, ?_, rfl, ?_, fun h3 => ?_⟩
        · rw [numB_small (by omega), UInt8.ofNat_toNat, List.singleton_append]
        · rcases Nat.lt_or_ge i 9 with h9 | h9
          · have : 2 ^ 7 ≤ 2 ^ (64 - 7 * i) := Nat.pow_le_pow_right (by omega) (by omega)
            omega
          · obtain rfl : i = 9 := by omega
            simp only [Nat.reduceMul, Nat.reduceSub, Nat.reducePow]
            omega
        · omega
theorem readNum_numB (n : Nat) (r : List UInt8) (h : n < 2 ^ 64) : readNum (numB n ++ r) = some (n, r) := by
  unfold readNum
  rw [rd_numB n 0 0 r h (by omega) (fun h => absurd h (by omega))]
  simp
theorem readNum_some {bs : List UInt8} {m : Nat} {r : List UInt8} (h : readNum bs = some (m, r)) : bs = numB m ++ r ∧ m < 2 ^ 64 := by
  obtain ⟨n, h1, h2, h3, _⟩ := rd_some bs 0 0 m r h (by omega)
  obtain rfl : m = n := by simpa using h2
  exact ⟨h1, h3⟩
/-- A number's value, out of its bytes, the lowest first. -/
def val (bs : List UInt8) : Nat := bs.foldr (fun c n => (n * 128 + c.toNat % 128) % 2 ^ 64) 0
theorem val_cons (c : UInt8) (bs : List UInt8) : val (c :: bs) = (val bs * 128 + c.toNat % 128) % 2 ^ 64 := rfl
theorem val_lt (bs : List UInt8) : val bs < 2 ^ 64 := by
  cases bs with
  | nil => exact Nat.two_pow_pos _
  | cons c r => rw [val_cons]; exact Nat.mod_lt _ (Nat.two_pow_pos _)
theorem val_numB : ∀ n, n < 2 ^ 64 → val (numB n) = n := by
  intro n
  induction n using Nat.strongRecOn with
  | ind n ih =>
    intro hn
    by_cases h : n < 128
    · rw [numB_small h, val_cons, ofNat_toNat (by omega)]
      show (0 * 128 + n % 128) % 2 ^ 64 = n
      omega
    · rw [numB_big h, val_cons, ofNat_toNat (by omega), ih (n / 128) (by omega) (by omega)]
      omega
/-- How many bytes a number's bytes are that these may begin with: up to the first one that has no mark. -/
def ends : List UInt8 → Nat → Nat
  | [], _ => 0
  | c :: r, k => if 10 ≤ k then 0 else if 128 ≤ c.toNat then ends r (k + 1) else k + 1
theorem numB_marks : ∀ (n : Nat) (j : Nat) (c : UInt8), (numB n)[j]? = some c → (c.toNat < 128 ↔ j + 1 = (numB n).length) := by
  intro n
  induction n using Nat.strongRecOn with
  | ind n ih =>
    intro j c h
    by_cases hn : n < 128
    · rw [numB_small hn] at h ⊢
      cases j with
      | zero =>
        simp only [List.getElem?_cons_zero, Option.some.injEq] at h
        subst h
        rw [ofNat_toNat (by omega)]
        simp [hn]
      | succ j => simp at h
    · rw [numB_big hn] at h ⊢
      cases j with
      | zero =>
        simp only [List.getElem?_cons_zero, Option.some.injEq] at h
        subst h
        rw [ofNat_toNat (by omega)]
        have : 1 ≤ (numB (n / 128)).length := by
          by_cases h2 : n / 128 < 128
          · rw [numB_small h2]; exact Nat.le_refl _
          · rw [numB_big h2]; simp
        simp only [List.length_cons]
        omega
      | succ j =>
        simp only [List.getElem?_cons_succ] at h
        have := ih (n / 128) (by omega) j c h
        simp only [List.length_cons]
        omega
/-- What the law's own 'Take' answers. -/
def takeN (bs : List UInt8) : Nat × Nat := match readNum bs with
  | some (n, _) => (n, (numB n).length)
  | none => (0, 0)
/-- The first byte without a mark stands at k - 1; all ahead of it bear one: the bytes up to there are a number's, or there is none. -/
theorem takeN_at {bs : List UInt8} {k : Nat} (hk : 1 ≤ k) (hk2 : k ≤ bs.length) (hm : ∀ j c, j + 1 < k → bs[j]? = some c → 128 ≤ c.toNat) (hl : ∀ c, bs[k - 1]? = some c → c.toNat < 128) :
    takeN bs = if numB (val (bs.take k)) = bs.take k then (val (bs.take k), k) else (0, 0) := by
  split
  · rename_i h
    have h1 : bs = numB (val (bs.take k)) ++ bs.drop k := by rw [h, List.take_append_drop]
    have h2 := readNum_numB (val (bs.take k)) (bs.drop k) (val_lt _)
    rw [← h1] at h2
    unfold takeN
    rw [h2]
    simp only
    rw [h, List.length_take]
    congr 1
    omega
  · rename_i h
    unfold takeN
    cases hr : readNum bs with
    | none => rfl
    | some x =>
      obtain ⟨n, r⟩ := x
      exfalso
      obtain ⟨h1, h2⟩ := readNum_some hr
      have hp : 1 ≤ (numB n).length := by
        by_cases h2 : n < 128
        · rw [numB_small h2]; exact Nat.le_refl _
        · rw [numB_big h2]; simp
      have hget : ∀ j, j < (numB n).length → bs[j]? = (numB n)[j]? := fun j hj => by rw [h1, List.getElem?_append_left hj]
      have hlen : (numB n).length = k := by
        rcases Nat.lt_trichotomy (numB n).length k with hlt | heq | hgt
        · have e := hget ((numB n).length - 1) (by omega)
          obtain ⟨c, hc⟩ : ∃ c, (numB n)[(numB n).length - 1]? = some c := ⟨_, List.getElem?_eq_getElem (by omega)⟩
          have := hm _ c (by omega) (e.trans hc)
          have := (numB_marks n _ c hc).2 (by omega)
          omega
        · exact heq
        · have e := hget (k - 1) (by omega)
          obtain ⟨c, hc⟩ : ∃ c, (numB n)[k - 1]? = some c := ⟨_, List.getElem?_eq_getElem (by omega)⟩
          have h3 := hl c (e.trans hc)
          have := (numB_marks n _ c hc).1 h3
          omega
      have htk : bs.take k = numB n := by rw [h1, ← hlen, List.take_left]
      exact h (by rw [htk, val_numB n h2])
/-- All of the first ten bytes bear a mark, or all there are do: there is none. -/
theorem takeN_none {bs : List UInt8} (hm : ∀ j c, j < 10 → bs[j]? = some c → 128 ≤ c.toNat) : takeN bs = (0, 0) := by
  unfold takeN
  cases hr : readNum bs with
  | none => rfl
  | some x =>
    obtain ⟨n, r⟩ := x
    exfalso
    obtain ⟨h1, h2⟩ := readNum_some hr
    have hp : 1 ≤ (numB n).length := by
      by_cases h2 : n < 128
      · rw [numB_small h2]; exact Nat.le_refl _
      · rw [numB_big h2]; simp
    have h10 := numB_len10 h2
    obtain ⟨c, hc⟩ : ∃ c, (numB n)[(numB n).length - 1]? = some c := ⟨_, List.getElem?_eq_getElem (by omega)⟩
    have e : bs[(numB n).length - 1]? = some c := by rw [h1, List.getElem?_append_left (by omega)]; exact hc
    have := hm _ c (by omega) e
    have := (numB_marks n _ c hc).2 (by omega)
    omega
theorem takeN_some {bs : List UInt8} {n : Nat} {r : List UInt8} (h : readNum bs = some (n, r)) : takeN bs = (n, (numB n).length) ∧ r = bs.drop (numB n).length ∧ (numB n).length ≤ bs.length := by
  obtain ⟨h1, _⟩ := readNum_some h
  refine ⟨by unfold takeN; rw [h], ?_, ?_⟩
  · rw [h1, List.drop_left]
  · rw [h1, List.length_append]; omega
end Go.Proofs.YtocgfcboigiigaaDoor
