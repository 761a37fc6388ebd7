/- Numbers read: what Reader.Num answers. Condition: not too many bytes. -/
import Derived.Test.YtgonklbjbgekoaaDoorBase
import Derived.Test.YtgonklbjbgekoaaDoorDisk1
import Derived.Test.YtgonklbjbgekoaaDoorRd
import Derived.Test.YtgonklbjbgekoaaDoorScope
import Derived.WalkMore
import Derived.IntWalk
namespace Go.Proofs.YtgonklbjbgekoaaDoor
open Go Go.Proofs Go.RowKit

/-- A reader at p has these bytes before it. -/
def RdAt (w : World) (p : Nat) (bs : List UInt8) (bad : Bool) : Prop :=
  ∃ A c, w.heap[p]? = some (.cells #[.slice A bs.length c, .bool bad] 68 (0, 0)) ∧ Reads w w.heap.size 1 A bs.length (bv bs) ∧ bs.length ≤ c ∧ (∀ g, A.map (·.block) = some g → g ≠ p)
def RetNumR (w : World) (p : Nat) (bs : List UInt8) (bad : Bool) (e : Ending) (w' : World) : Prop :=
  match bad, readNum bs with
  | false, some (n, r) => e = .returned (.int .u64 n) ∧ RdAt w' p r false ∧ Mod (· = p) w w'
  | _, _ => e = .returned (.int .u64 0) ∧ RdAt w' p bs true ∧ Mod (· = p) w w'
theorem Reads.mod' {w w' : World} {B size n : Nat} {A : Option Addr} {xs : List Value} {F : Nat → Prop} (h : Reads w B size A n xs) (hm : Mod F w w') (hB : B ≤ w.heap.size) (hn : ∀ g, A.map (·.block) = some g → 0 < n → ¬ F g) : Reads w' B size A n xs :=
  ⟨h.1, fun hp => by
    obtain ⟨ad, rfl, hb, hc⟩ := h.2 hp
    exact ⟨ad, rfl, hb, fun j u hu => (hm.cell (p := ad.add j) (by rw [block_of_add]; omega) (by rw [block_of_add]; exact hn _ rfl hp)).trans (hc j u hu)⟩⟩
theorem and127F : ∀ x : Fin 256, bits .and .u8 (x.val : Int) 127 = ((x.val % 128 : Nat) : Int) := by decide +kernel
theorem and127 (c : UInt8) : bits .and .u8 (c.toNat : Int) 127 = ((c.toNat % 128 : Nat) : Int) := and127F ⟨c.toNat, c.toNat_lt⟩
theorem drop_at {bs : List UInt8} {k : Nat} {b : UInt8} (h : bs[k]? = some b) : bs.drop k = b :: bs.drop (k + 1) := by
  obtain ⟨hk, hb⟩ := List.getElem?_eq_some_iff.1 h
  rw [List.drop_eq_getElem_cons hk, hb]
theorem rd_more {bs : List UInt8} {k : Nat} {b : UInt8} (h : bs[k]? = some b) (hk : k ≤ 9) (hb : 128 ≤ b.toNat) (acc : Nat) : rd (bs.drop k) k acc = rd (bs.drop (k + 1)) (k + 1) (acc + b.toNat % 128 * 2 ^ (7 * k)) := by
  rw [drop_at h]
  conv => lhs; unfold rd
  rw [if_neg (by omega), if_pos hb]
theorem rd_bad {bs : List UInt8} {k : Nat} {b : UInt8} (h : bs[k]? = some b) (hb : ¬ 128 ≤ b.toNat) (hc : (b.toNat = 0 ∧ 0 < k) ∨ (k = 9 ∧ 1 < b.toNat)) (acc : Nat) : rd (bs.drop k) k acc = none := by
  rw [drop_at h]
  unfold rd
  by_cases h10 : 10 ≤ k
  · rw [if_pos h10]
  · rw [if_neg h10, if_neg hb, if_pos hc]
theorem rd_good {bs : List UInt8} {k : Nat} {b : UInt8} (h : bs[k]? = some b) (hk : k ≤ 9) (hb : ¬ 128 ≤ b.toNat) (hc : ¬ ((b.toNat = 0 ∧ 0 < k) ∨ (k = 9 ∧ 1 < b.toNat))) (acc : Nat) : rd (bs.drop k) k acc = some (acc + b.toNat * 2 ^ (7 * k), bs.drop (k + 1)) := by
  rw [drop_at h]
  unfold rd
  rw [if_neg (by omega), if_neg hb, if_neg hc]
theorem rd_out {bs : List UInt8} {k : Nat} (h : bs.length ≤ k) (acc : Nat) : rd (bs.drop k) k acc = none := by
  rw [List.drop_eq_nil_of_le h]
  rfl
theorem toNat_bv64' (x : Nat) (hx : x < 2 ^ 64) : (BitVec.ofInt 64 (x : Int)).toNat = x := by
  rw [BitVec.toNat_ofInt]
  omega
theorem orShift (acc y k : Nat) (ha : acc < 2 ^ (7 * k)) (hy : y * 2 ^ (7 * k) < 2 ^ 64) (hk : k ≤ 9) : bits .or .u64 (acc : Int) (IntKind.u64.wrap ((y : Int) * 2 ^ (7 * k))) = ((acc + y * 2 ^ (7 * k) : Nat) : Int) := by
  have e2 : (y : Int) * 2 ^ (7 * k) = ((y * 2 ^ (7 * k) : Nat) : Int) := by push_cast; rfl
  have h64 : 2 ^ (7 * k) ≤ 2 ^ 64 := Nat.pow_le_pow_right (by omega) (by omega)
  rw [e2, IntWalk.u64_in _ (by omega)]
  have hor : acc ||| y * 2 ^ (7 * k) = acc + y * 2 ^ (7 * k) := by
    have := Nat.two_pow_add_eq_or_of_lt ha y
    rw [Nat.mul_comm y, Nat.or_comm, ← this, Nat.add_comm]
  have hlt : acc + y * 2 ^ (7 * k) < 2 ^ 64 := by
    rw [← hor]
    exact Nat.or_lt_two_pow (by omega) hy
  show IntKind.u64.wrap ((BitVec.ofInt 64 (acc : Int) ||| BitVec.ofInt 64 ((y * 2 ^ (7 * k) : Nat) : Int)).toNat : Int) = _
  rw [BitVec.toNat_or, toNat_bv64' acc (by omega), toNat_bv64' _ hy, hor, IntWalk.u64_in _ (by omega)]
theorem shift_in {y k : Nat} (hy : y < 128) (hk : k ≤ 8) : y * 2 ^ (7 * k) < 2 ^ 64 := by
  have h1 : 2 ^ (7 * k) ≤ 2 ^ 56 := Nat.pow_le_pow_right (by omega) (by omega)
  have h2 : y * 2 ^ (7 * k) ≤ 127 * 2 ^ 56 := Nat.mul_le_mul (by omega) h1
  omega
theorem acc_lt {acc y k : Nat} (ha : acc < 2 ^ (7 * k)) (hy : y < 128) : acc + y * 2 ^ (7 * k) < 2 ^ (7 * (k + 1)) := by
  have e : 2 ^ (7 * (k + 1)) = 128 * 2 ^ (7 * k) := by rw [show 7 * (k + 1) = 7 + 7 * k by omega, Nat.pow_add]
  rw [e]
  have : y * 2 ^ (7 * k) ≤ 127 * 2 ^ (7 * k) := Nat.mul_le_mul_right _ (by omega)
  omega
/-- The frame where Reader.Num comes to a label. -/
def numA (p : Nat) (x : Int) (s k : Nat) (u : Nat → Value) : Act := ⟨#[.pointer (some ⟨p, 0, none⟩), u 1, u 2, .int .u64 x, .int .i64 (s : Int), .int .i64 (k : Int), u 6, u 7, u 8, u 9, u 10, u 11, u 12, u 13, u 14, u 15, u 16, u 17, u 18, u 19, u 20, u 21, u 22, u 23, u 24, u 25, u 26, u 27, u 28, u 29, u 30, u 31, u 32, u 33, u 34, u 35, u 36, u 37, u 38, u 39, u 40, u 41, u 42, u 43, u 44, u 45, u 46, u 47, u 48, u 49, u 50, u 51, u 52, u 53, u 54, u 55, u 56, u 57, u 58, u 59, u 60, u 61, u 62, u 63, u 64, u 65, u 66, u 67, u 68, u 69, u 70, u 71, u 72, u 73, u 74, u 75, u 76, u 77], []⟩
def NumH (bs : List UInt8) (k : Nat) (x : Int) : Prop := (k ≤ 9 → ∃ acc : Nat, x = acc ∧ acc < 2 ^ (7 * k) ∧ readNum bs = rd (bs.drop k) k acc) ∧ (k = 10 → readNum bs = none)
/-- What holds where Reader.Num comes to a label. -/
def numJ (p : Nat) (bs : List UInt8) (bad : Bool) (w : World) (l : Nat) (a : Act) (w' : World) : Prop :=
  ∃ (k s : Nat) (x : Int) (u : Nat → Value), a = ⟨#[.pointer (some ⟨p, 0, none⟩), u 1, u 2, .int .u64 x, .int .i64 s, .int .i64 k, u 6, u 7, u 8, u 9, u 10, u 11, u 12, u 13, u 14, u 15, u 16, u 17, u 18, u 19, u 20, u 21, u 22, u 23, u 24, u 25, u 26, u 27, u 28, u 29, u 30, u 31, u 32, u 33, u 34, u 35, u 36, u 37, u 38, u 39, u 40, u 41, u 42, u 43, u 44, u 45, u 46, u 47, u 48, u 49, u 50, u 51, u 52, u 53, u 54, u 55, u 56, u 57, u 58, u 59, u 60, u 61, u 62, u 63, u 64, u 65, u 66, u 67, u 68, u 69, u 70, u 71, u 72, u 73, u 74, u 75, u 76, u 77], []⟩ ∧ w' = w ∧ k ≤ 10 ∧ ((l = 1 ∧ s = 7 * k ∧ k ≤ bs.length ∧ NumH bs k x) ∨ (l = 0 ∧ (bad = true ∨ readNum bs = none)))
theorem numJ1 {p : Nat} {bs : List UInt8} {bad : Bool} {w : World} {a : Act} (k s : Nat) (x : Int) (ha : a = ⟨#[.pointer (some ⟨p, 0, none⟩), a.tmps.getD 1 Go.undef, a.tmps.getD 2 Go.undef, .int .u64 x, .int .i64 s, .int .i64 k, a.tmps.getD 6 Go.undef, a.tmps.getD 7 Go.undef, a.tmps.getD 8 Go.undef, a.tmps.getD 9 Go.undef, a.tmps.getD 10 Go.undef, a.tmps.getD 11 Go.undef, a.tmps.getD 12 Go.undef, a.tmps.getD 13 Go.undef, a.tmps.getD 14 Go.undef, a.tmps.getD 15 Go.undef, a.tmps.getD 16 Go.undef, a.tmps.getD 17 Go.undef, a.tmps.getD 18 Go.undef, a.tmps.getD 19 Go.undef, a.tmps.getD 20 Go.undef, a.tmps.getD 21 Go.undef, a.tmps.getD 22 Go.undef, a.tmps.getD 23 Go.undef, a.tmps.getD 24 Go.undef, a.tmps.getD 25 Go.undef, a.tmps.getD 26 Go.undef, a.tmps.getD 27 Go.undef, a.tmps.getD 28 Go.undef, a.tmps.getD 29 Go.undef, a.tmps.getD 30 Go.undef, a.tmps.getD 31 Go.undef, a.tmps.getD 32 Go.undef, a.tmps.getD 33 Go.undef, a.tmps.getD 34 Go.undef, a.tmps.getD 35 Go.undef, a.tmps.getD 36 Go.undef, a.tmps.getD 37 Go.undef, a.tmps.getD 38 Go.undef, a.tmps.getD 39 Go.undef, a.tmps.getD 40 Go.undef, a.tmps.getD 41 Go.undef, a.tmps.getD 42 Go.undef, a.tmps.getD 43 Go.undef, a.tmps.getD 44 Go.undef, a.tmps.getD 45 Go.undef, a.tmps.getD 46 Go.undef, a.tmps.getD 47 Go.undef, a.tmps.getD 48 Go.undef, a.tmps.getD 49 Go.undef, a.tmps.getD 50 Go.undef, a.tmps.getD 51 Go.undef, a.tmps.getD 52 Go.undef, a.tmps.getD 53 Go.undef, a.tmps.getD 54 Go.undef, a.tmps.getD 55 Go.undef, a.tmps.getD 56 Go.undef, a.tmps.getD 57 Go.undef, a.tmps.getD 58 Go.undef, a.tmps.getD 59 Go.undef, a.tmps.getD 60 Go.undef, a.tmps.getD 61 Go.undef, a.tmps.getD 62 Go.undef, a.tmps.getD 63 Go.undef, a.tmps.getD 64 Go.undef, a.tmps.getD 65 Go.undef, a.tmps.getD 66 Go.undef, a.tmps.getD 67 Go.undef, a.tmps.getD 68 Go.undef, a.tmps.getD 69 Go.undef, a.tmps.getD 70 Go.undef, a.tmps.getD 71 Go.undef, a.tmps.getD 72 Go.undef, a.tmps.getD 73 Go.undef, a.tmps.getD 74 Go.undef, a.tmps.getD 75 Go.undef, a.tmps.getD 76 Go.undef, a.tmps.getD 77 Go.undef], []⟩) (hk : k ≤ 10) (hs : s = 7 * k) (hl : k ≤ bs.length) (h : NumH bs k x) : numJ p bs bad w 1 a w :=
  ⟨k, s, x, fun i => a.tmps.getD i Go.undef, ha, rfl, hk, .inl ⟨rfl, hs, hl, h⟩⟩
theorem numJ0 {p : Nat} {bs : List UInt8} {bad : Bool} {w : World} {a : Act} (k s : Nat) (x : Int) (ha : a = ⟨#[.pointer (some ⟨p, 0, none⟩), a.tmps.getD 1 Go.undef, a.tmps.getD 2 Go.undef, .int .u64 x, .int .i64 s, .int .i64 k, a.tmps.getD 6 Go.undef, a.tmps.getD 7 Go.undef, a.tmps.getD 8 Go.undef, a.tmps.getD 9 Go.undef, a.tmps.getD 10 Go.undef, a.tmps.getD 11 Go.undef, a.tmps.getD 12 Go.undef, a.tmps.getD 13 Go.undef, a.tmps.getD 14 Go.undef, a.tmps.getD 15 Go.undef, a.tmps.getD 16 Go.undef, a.tmps.getD 17 Go.undef, a.tmps.getD 18 Go.undef, a.tmps.getD 19 Go.undef, a.tmps.getD 20 Go.undef, a.tmps.getD 21 Go.undef, a.tmps.getD 22 Go.undef, a.tmps.getD 23 Go.undef, a.tmps.getD 24 Go.undef, a.tmps.getD 25 Go.undef, a.tmps.getD 26 Go.undef, a.tmps.getD 27 Go.undef, a.tmps.getD 28 Go.undef, a.tmps.getD 29 Go.undef, a.tmps.getD 30 Go.undef, a.tmps.getD 31 Go.undef, a.tmps.getD 32 Go.undef, a.tmps.getD 33 Go.undef, a.tmps.getD 34 Go.undef, a.tmps.getD 35 Go.undef, a.tmps.getD 36 Go.undef, a.tmps.getD 37 Go.undef, a.tmps.getD 38 Go.undef, a.tmps.getD 39 Go.undef, a.tmps.getD 40 Go.undef, a.tmps.getD 41 Go.undef, a.tmps.getD 42 Go.undef, a.tmps.getD 43 Go.undef, a.tmps.getD 44 Go.undef, a.tmps.getD 45 Go.undef, a.tmps.getD 46 Go.undef, a.tmps.getD 47 Go.undef, a.tmps.getD 48 Go.undef, a.tmps.getD 49 Go.undef, a.tmps.getD 50 Go.undef, a.tmps.getD 51 Go.undef, a.tmps.getD 52 Go.undef, a.tmps.getD 53 Go.undef, a.tmps.getD 54 Go.undef, a.tmps.getD 55 Go.undef, a.tmps.getD 56 Go.undef, a.tmps.getD 57 Go.undef, a.tmps.getD 58 Go.undef, a.tmps.getD 59 Go.undef, a.tmps.getD 60 Go.undef, a.tmps.getD 61 Go.undef, a.tmps.getD 62 Go.undef, a.tmps.getD 63 Go.undef, a.tmps.getD 64 Go.undef, a.tmps.getD 65 Go.undef, a.tmps.getD 66 Go.undef, a.tmps.getD 67 Go.undef, a.tmps.getD 68 Go.undef, a.tmps.getD 69 Go.undef, a.tmps.getD 70 Go.undef, a.tmps.getD 71 Go.undef, a.tmps.getD 72 Go.undef, a.tmps.getD 73 Go.undef, a.tmps.getD 74 Go.undef, a.tmps.getD 75 Go.undef, a.tmps.getD 76 Go.undef, a.tmps.getD 77 Go.undef], []⟩) (hk : k ≤ 10) (h : bad = true ∨ readNum bs = none) : numJ p bs bad w 0 a w :=
  ⟨k, s, x, fun i => a.tmps.getD i Go.undef, ha, rfl, hk, .inr ⟨rfl, h⟩⟩
def numM (l : Nat) (a : Act) : Nat := if l = 1 then 20 - (intOf (a.tmps.getD 5 Go.undef)).toNat else 0
theorem rdAt_cut {w : World} {p c m : Nat} {bs : List UInt8} {A : Option Addr} {bad : Bool} {v : Value} (h1 : w.heap[p]? = some (.cells #[.slice A bs.length c, .bool bad] 68 (0, 0))) (h2 : Reads w w.heap.size 1 A bs.length (bv bs)) (h3 : bs.length ≤ c) (h4 : ∀ g, A.map (·.block) = some g → g ≠ p) (hm : m ≤ bs.length) (hv : v = .slice (if c = m then A else A.map (·.add m)) (bs.length - m) (c - m)) :
    RdAt (w.setCell ⟨p, 0, none⟩ v) p (bs.drop m) bad ∧ Mod (· = p) w (w.setCell ⟨p, 0, none⟩ v) := by
  subst hv
  have hmd : Mod (· = p) w (w.setCell ⟨p, 0, none⟩ (.slice (if c = m then A else A.map (·.add m)) (bs.length - m) (c - m))) := (Mod.refl (· = p) w).setCell (p := ⟨p, 0, none⟩) (fun _ => rfl) _
  have hl : (bs.drop m).length = bs.length - m := List.length_drop
  have hblk : ∀ g, (if c = m then A else A.map (·.add m)).map (·.block) = some g → g ≠ p := fun g hg => by
    split at hg
    · exact h4 g hg
    · cases A with
      | none => cases hg
      | some ad =>
        simp only [Option.map_some, block_of_add] at hg
        exact h4 g hg
  have hcut := h2.cut (k := m) (cap := c) hm h3
  rw [Nat.mul_one] at hcut
  refine ⟨⟨_, c - m, ?_, ?_, by omega, hblk⟩, hmd⟩
  · rw [hl]
    have := blk_set h1 0 (.slice (if c = m then A else A.map (·.add m)) (bs.length - m) (c - m))
    simpa using this
  · rw [hl]
    have e : bv (bs.drop m) = (bv bs).drop m := by simp [bv, List.map_drop]
    rw [e]
    exact ((hcut.mod' hmd (Nat.le_refl _) (fun g hg _ => hblk g hg))).more hmd.size
theorem retNumR_bad {w w' : World} {p : Nat} {bs : List UInt8} {bad : Bool} {e : Ending} (h : bad = true ∨ readNum bs = none) (he : e = .returned (.int .u64 0)) (hr : RdAt w' p bs true) (hm : Mod (· = p) w w') : RetNumR w p bs bad e w' := by
  unfold RetNumR
  rcases h with rfl | h
  · exact ⟨he, hr, hm⟩
  · rw [h]
    cases bad <;> exact ⟨he, hr, hm⟩
theorem retNumR_ok {w w' : World} {p n : Nat} {bs r : List UInt8} {e : Ending} (h : readNum bs = some (n, r)) (he : e = .returned (.int .u64 n)) (hr : RdAt w' p r false) (hm : Mod (· = p) w w') : RetNumR w p bs false e w' := by
  unfold RetNumR
  rw [h]
  exact ⟨he, hr, hm⟩
noncomputable def numY : Code := ((Tryd.f36.body.bind (scopeRest 1)).getD .skip)
set_option maxHeartbeats 4000000 in
set_option maxRecDepth 100000 in
theorem numCore (Q : Exit → Act → World → Prop) (p : Nat) (bs : List UInt8) (bad : Bool) (w : World) (h : RdAt w p bs bad) (hb : bs.length ≤ 1000000) (hQ : ∀ a w', bodyPost Tryd.prog Tryd.f36 (RetNumR w p bs bad) .ret a w' → Q .ret a w') (k : Nat) (x : Int) (u : Nat → Value) (hk10 : k ≤ 10) (hk : k ≤ bs.length) (HA : NumH bs k x) :
    Code.wp Tryd.prog numY (jumps (fun l a w' => numJ p bs bad w l a w' ∧ numM l a < 20 - k) Q) ⟨#[.pointer (some ⟨p, 0, none⟩), u 1, u 2, .int .u64 x, .int .i64 ((7 * k : Nat) : Int), .int .i64 k, u 6, u 7, u 8, u 9, u 10, u 11, u 12, u 13, u 14, u 15, u 16, u 17, u 18, u 19, u 20, u 21, u 22, u 23, u 24, u 25, u 26, u 27, u 28, u 29, u 30, u 31, u 32, u 33, u 34, u 35, u 36, u 37, u 38, u 39, u 40, u 41, u 42, u 43, u 44, u 45, u 46, u 47, u 48, u 49, u 50, u 51, u 52, u 53, u 54, u 55, u 56, u 57, u 58, u 59, u 60, u 61, u 62, u 63, u 64, u 65, u 66, u 67, u 68, u 69, u 70, u 71, u 72, u 73, u 74, u 75, u 76, u 77], []⟩ w := by
  conv => arg 2; whnf
  obtain ⟨A, c, h1, h2, h3, h4⟩ := h
  have d0 : w.cell? ⟨p, 0, none⟩ = some (.slice A bs.length c) := by rw [cell_of_blk h1]; rfl
  have d1 : w.cell? ⟨p, 1, none⟩ = some (.bool bad) := by rw [cell_of_blk h1]; rfl
  have e0 : w.frozen? ⟨p, 0, none⟩ = false := frozen_of_blk h1 0
  have H1 := Lib.hid h1
  have H2 := Lib.hid h2
  have H4 := Lib.hid h4
  have HQ := Lib.hid hQ
  have HA := Lib.hid HA
  clear h1 h2 h4 hQ
  cases bad with
  | true =>
    go_wp2_with (fail)
    refine wp_goto ?_
    refine ⟨numJ0 k (7 * k) _ (by rfl) hk10 (.inl rfl), ?_⟩
    show (0 : Nat) < 20 - k
    omega
  | false =>
    have hs0 : (0 : Int) ≤ 7 * (k : Int) := by omega
    have hs1 : 7 * (k : Int) ≤ 70 := by omega
    by_cases hlt : k < bs.length
    · by_cases h9 : k ≤ 9
      · obtain ⟨b, hbk⟩ : ∃ b, bs[k]? = some b := ⟨bs[k], List.getElem?_eq_getElem hlt⟩
        obtain ⟨ad, rfl, hbl, hc⟩ := H2.out.2 (by omega)
        have f0 : w.cell? (ad.add k) = some (.int .u8 b.toNat) := hc k _ (bv_get hbk)
        have hbl := b.toNat_lt
        have HBK := Lib.hid hbk
        have hand := and127 b
        have g1 : decide ((63 : Int) < 7 * (k : Int)) = false := decide_eq_false (by omega)
        have g2 : decide (bs.length ≤ k) = false := decide_eq_false (by omega)
        have hin0 : (0 : Int) ≤ (k : Int) := by omega
        have hin1 : (k : Int) < (bs.length : Int) := by omega
        obtain ⟨acc, rfl, hacc, hrd⟩ := HA.out.1 h9
        clear hbk hc
        have HH := Lib.hid hrd
        clear hrd
        by_cases hb7 : 128 ≤ b.toNat
        · have g3 : decide ((128 : Int) ≤ (b.toNat : Int)) = true := decide_eq_true (by omega)
          go_wp2_with (fail)
          refine wp_goto ?_
          refine ⟨?_, ?_⟩
          · refine numJ1 (k + 1) (7 * k + 7) _ (by rfl) (by omega) (by omega) (by omega) ⟨fun h8 => ?_, fun h10 => ?_⟩
            · have := orShift acc (b.toNat % 128) k hacc (shift_in (Nat.mod_lt _ (by omega)) (by omega)) (by omega)
              exact ⟨acc + b.toNat % 128 * 2 ^ (7 * k), this, acc_lt hacc (Nat.mod_lt _ (by omega)), by rw [HH.out, rd_more HBK.out h9 hb7]⟩
            · rw [HH.out, rd_more HBK.out h9 hb7]
              exact rd_ten _ _ _ (by omega)
          · show 20 - (intOf (.int .i64 ((k : Int) + 1))).toNat < 20 - k
            simp only [intOf]
            omega
        · have g3 : decide ((128 : Int) ≤ (b.toNat : Int)) = false := decide_eq_false (by omega)
          by_cases hbad : (b.toNat = 0 ∧ 0 < k) ∨ (k = 9 ∧ 1 < b.toNat)
          · have hno : readNum bs = none := by rw [HH.out]; exact rd_bad HBK.out hb7 hbad acc
            have HN := Lib.hid hno
            clear hno
            by_cases h0 : b.toNat = 0
            · have g4 : ((b.toNat : Int) == 0) = true := by simp [h0]
              have g5 : decide ((0 : Int) < (k : Int)) = true := decide_eq_true (by omega)
              have g6 : 0 < k := by omega
              clear hbad h0
              go_wp2_with (fail)
              refine wp_goto ?_
              refine ⟨numJ0 k (7 * k) _ (by rfl) hk10 (.inr HN.out), ?_⟩
              show (0 : Nat) < 20 - k
              omega
            · have g4 : ((b.toNat : Int) == 0) = false := by simp [h0]
              have g5 : (7 * (k : Int) == 63) = true := by simp; omega
              have g6 : decide ((1 : Int) < (b.toNat : Int)) = true := decide_eq_true (by omega)
              have g7 : 1 < b.toNat := by omega
              clear hbad h0
              go_wp2_with (fail)
              refine wp_goto ?_
              refine ⟨numJ0 k (7 * k) _ (by rfl) hk10 (.inr HN.out), ?_⟩
              show (0 : Nat) < 20 - k
              omega
          · have h10 : b.toNat * 2 ^ (7 * k) < 2 ^ 64 := by
              by_cases h8 : k ≤ 8
              · exact shift_in (by omega) h8
              · obtain rfl : k = 9 := by omega
                have : b.toNat ≤ 1 := by omega
                omega
            have hor := orShift acc b.toNat k hacc h10 h9
            have hrd : readNum bs = some (acc + b.toNat * 2 ^ (7 * k), bs.drop (k + 1)) := by rw [HH.out]; exact rd_good HBK.out h9 hb7 hbad acc
            have HR := Lib.hid hrd
            have HO := Lib.hid hor
            have hk1 : k + 1 ≤ c := by omega
            have hk2 : (0 : Int) ≤ (k : Int) + 1 := by omega
            have hk3 : (k : Int) + 1 ≤ (bs.length : Int) := by omega
            have hk4 : ((k : Int) + 1).toNat = k + 1 := by omega
            have hk5 : (k : Int) + 1 ≤ (c : Int) := by omega
            have g9 : k = 9 → b.toNat ≤ 1 := by omega
            have g8 : b.toNat = 0 → k = 0 := by omega
            clear hbad hor hrd h10
            by_cases h0 : b.toNat = 0
            · have g4 : ((b.toNat : Int) == 0) = true := by simp [h0]
              have g5 : decide ((0 : Int) < (k : Int)) = false := decide_eq_false (by have := g8 h0; omega)
              have g6 : ¬ 0 < k := by have := g8 h0; omega
              have g7 : (7 * (k : Int) == 63) = false := by have := g8 h0; simp; omega
              clear h0 g8 g9
              go_wp2_with (fail)
              all_goals
                refine HQ.out _ _ ?_
                go_ret
                refine (fun (hE : RdAt _ p (bs.drop (k + 1)) false ∧ Mod (· = p) w _) => retNumR_ok HR.out (by rw [HO.out]; rfl) hE.1 hE.2) (rdAt_cut H1.out H2.out h3 H4.out (by omega) ?_)
              · subst h; simp
              · rw [if_neg h]; simp [Addr.add]
            · have g4 : ((b.toNat : Int) == 0) = false := by simp [h0]
              clear g8 h0
              by_cases h6 : k = 9
              · have g5 : (7 * (k : Int) == 63) = true := by simp; omega
                have g6 : decide ((1 : Int) < (b.toNat : Int)) = false := decide_eq_false (by omega)
                clear h6
                go_wp2_with (fail)
                all_goals
                  refine HQ.out _ _ ?_
                  go_ret
                  refine (fun (hE : RdAt _ p (bs.drop (k + 1)) false ∧ Mod (· = p) w _) => retNumR_ok HR.out (by rw [HO.out]; rfl) hE.1 hE.2) (rdAt_cut H1.out H2.out h3 H4.out (by omega) ?_)
                · subst h; simp
                · rw [if_neg h]; simp [Addr.add]
              · have g5 : (7 * (k : Int) == 63) = false := by simp; omega
                clear h6 g9
                go_wp2_with (fail)
                all_goals
                  refine HQ.out _ _ ?_
                  go_ret
                  refine (fun (hE : RdAt _ p (bs.drop (k + 1)) false ∧ Mod (· = p) w _) => retNumR_ok HR.out (by rw [HO.out]; rfl) hE.1 hE.2) (rdAt_cut H1.out H2.out h3 H4.out (by omega) ?_)
                · subst h; simp
                · rw [if_neg h]; simp [Addr.add]
      · have g1 : decide ((63 : Int) < 7 * (k : Int)) = true := decide_eq_true (by omega)
        have g2 : decide (bs.length ≤ k) = false := decide_eq_false (by omega)
        go_wp2_with (fail)
        refine wp_goto ?_
        refine ⟨numJ0 k (7 * k) _ (by rfl) hk10 (.inr (HA.out.2 (by omega))), ?_⟩
        show (0 : Nat) < 20 - k
        omega
    · have g2 : decide (bs.length ≤ k) = true := decide_eq_true (by omega)
      have hno : readNum bs = none := by
        by_cases h9 : k ≤ 9
        · obtain ⟨acc, _, _, h⟩ := HA.out.1 h9
          rw [h]
          exact rd_out (by omega) acc
        · exact HA.out.2 (by omega)
      have HN := Lib.hid hno
      clear hno
      go_wp2_with (fail)
      refine wp_goto ?_
      refine ⟨numJ0 k (7 * k) _ (by rfl) hk10 (.inr HN.out), ?_⟩
      show (0 : Nat) < 20 - k
      omega
set_option maxHeartbeats 4000000 in
set_option maxRecDepth 100000 in
theorem numR (p : Nat) (bs : List UInt8) (bad : Bool) (w : World) (h : RdAt w p bs bad) (hb : bs.length ≤ 1000000) :
    Calls Tryd.prog 36 #[.pointer (some ⟨p, 0, none⟩)] w (RetNumR w p bs bad) := by
  have HRD := Lib.hid h
  clear h
  go_enter Tryd.func36, Tryd.ntmps36
  go_wp2_with (fail)
  refine wp_scope_labels (numJ p bs bad w) (fun l a _ => numM l a) ?_ ?_
  · go_wp2_with (fail)
    refine wp_label ?_
    rename_i K hK
    refine hK _ _ ?_
    exact wp_mono (numCore (bodyPost Tryd.prog Tryd.f36 (RetNumR w p bs bad)) p bs bad w HRD.out hb (fun _ _ h => h) 0 0 (fun i => if i = 2 then .int .u64 0 else Go.undef) (by omega) (by omega) ⟨fun _ => ⟨0, rfl, by omega, rfl⟩, fun h => by omega⟩) (fun e a' w' h => by
      cases e with
      | goto l' => exact h.1
      | normal => exact h
      | exit id => exact h
      | ret => exact h
      | panic ch => exact h
      | outgrown => exact h)
  · intro l a w' hJ
    obtain ⟨k, s, x, u, rfl, rfl, hk10, hJ⟩ := hJ
    rcases hJ with ⟨rfl, rfl, hk, HA⟩ | ⟨rfl, hJ⟩
    · refine ⟨_, rfl, ?_⟩
      refine wp_seq_k fun K hK => ?_
      refine wp_skip ?_
      refine hK _ _ ?_
      exact wp_mono (numCore (bodyPost Tryd.prog Tryd.f36 (RetNumR w' p bs bad)) p bs bad w' HRD.out hb (fun _ _ h => h) k x u hk10 hk HA) (fun e a' w' h => by
        cases e with
        | goto l' => exact h
        | normal => exact h
        | exit id => exact h
        | ret => exact h
        | panic ch => exact h
        | outgrown => exact h)
    · refine ⟨_, rfl, ?_⟩
      have HJ := Lib.hid hJ
      clear hJ
      obtain ⟨A, c, h1, h2, h3, h4⟩ := HRD.out
      have d1 : w'.cell? ⟨p, 1, none⟩ = some (.bool bad) := by rw [cell_of_blk h1]; rfl
      have e1 : w'.frozen? ⟨p, 1, none⟩ = false := frozen_of_blk h1 1
      have H1 := Lib.hid h1
      have H2 := Lib.hid h2
      have H4 := Lib.hid h4
      clear h1 h2 h4
      go_wp2_with (fail)
      show bodyPost _ _ _ Exit.ret _ _
      go_ret
      have hm : Mod (· = p) w' (w'.setCell ⟨p, 1, none⟩ (.bool true)) := (Mod.refl (· = p) w').setCell (p := ⟨p, 1, none⟩) (fun _ => rfl) _
      refine retNumR_bad HJ.out rfl ⟨A, c, ?_, ?_, h3, H4.out⟩ hm
      · have := blk_set H1.out 1 (.bool true)
        simpa using this
      · exact (H2.out.mod' hm (Nat.le_refl _) (fun g hg _ => H4.out g hg)).more hm.size
end Go.Proofs.YtgonklbjbgekoaaDoor
