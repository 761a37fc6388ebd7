/- A piece in its wrapping: frame.four, frame.number, frame.Wrap. Condition: not too many bytes. -/
import Derived.Test.YtocgfcboigiigaaDoorFrm1
import Derived.Test.YtocgfcboigiigaaDoorEqualQ
namespace Go.Proofs.YtocgfcboigiigaaDoor
open Go Go.Proofs Go.RowKit

/-- A number as four bytes, the lowest first. -/
def fourF (m : Nat) : List UInt8 := [UInt8.ofNat (m % 256), UInt8.ofNat (m / 256 % 256), UInt8.ofNat (m / 65536 % 256), UInt8.ofNat (m / 16777216 % 256)]
/-- The number of four bytes. -/
def num4 (bs : List UInt8) : Nat := (bs.getD 0 0).toNat + 256 * (bs.getD 1 0).toNat + 65536 * (bs.getD 2 0).toNat + 16777216 * (bs.getD 3 0).toNat
theorem num4_lt (bs : List UInt8) : num4 bs < 2 ^ 32 := by
  have := (bs.getD 0 0).toNat_lt
  have := (bs.getD 1 0).toNat_lt
  have := (bs.getD 2 0).toNat_lt
  have := (bs.getD 3 0).toNat_lt
  unfold num4
  omega
theorem num4_four (m : Nat) (h : m < 2 ^ 32) (r : List UInt8) : num4 (fourF m ++ r) = m := by
  simp only [num4, fourF, List.cons_append, List.getD_cons_zero, List.getD_cons_succ, List.nil_append]
  rw [ofNat_toNat (by omega), ofNat_toNat (by omega), ofNat_toNat (by omega), ofNat_toNat (by omega)]
  omega
theorem four_num4 {bs : List UInt8} (h : 4 ≤ bs.length) : bs.take 4 = fourF (num4 bs) := by
  match bs, h with
  | a :: b :: c :: d :: r, _ =>
    have := a.toNat_lt
    have := b.toNat_lt
    have := c.toNat_lt
    have := d.toNat_lt
    simp only [num4, fourF, List.getD_cons_zero, List.getD_cons_succ, List.take_succ_cons, List.take_zero]
    refine congr (congrArg List.cons ?_) (congr (congrArg List.cons ?_) (congr (congrArg List.cons ?_) (congr (congrArg List.cons ?_) rfl))) <;>
    · apply UInt8.toNat_inj.1
      rw [ofNat_toNat (by omega)]
      omega
theorem fourF_len (m : Nat) : (fourF m).length = 4 := rfl
theorem bv_four (m : Nat) (h : m < 2 ^ 32) : bv (fourF m) = [.int .u8 ((m : Int) % 256), .int .u8 ((m : Int) / 256 % 256), .int .u8 ((m : Int) / 65536 % 256), .int .u8 ((m : Int) / 16777216)] := by
  have e0 : ((UInt8.ofNat (m % 256)).toNat : Int) = (m : Int) % 256 := by rw [ofNat_toNat (by omega)]; omega
  have e1 : ((UInt8.ofNat (m / 256 % 256)).toNat : Int) = (m : Int) / 256 % 256 := by rw [ofNat_toNat (by omega)]; omega
  have e2 : ((UInt8.ofNat (m / 65536 % 256)).toNat : Int) = (m : Int) / 65536 % 256 := by rw [ofNat_toNat (by omega)]; omega
  have e3 : ((UInt8.ofNat (m / 16777216 % 256)).toNat : Int) = (m : Int) / 16777216 := by rw [ofNat_toNat (by omega)]; omega
  show [byteV _, byteV _, byteV _, byteV _] = _
  unfold byteV
  rw [e0, e1, e2, e3]
theorem reads_blk {w : World} {g n : Nat} {t : TypeId} {fr : Nat × Nat} {cs : Array Value} (hg : w.heap[g]? = some (.cells cs t fr)) (hn : n = cs.size) : Reads w w.heap.size 1 (some ⟨g, 0, none⟩) n cs.toList :=
  ⟨by simp [hn], fun _ => ⟨_, rfl, lt_of_heap hg, fun j u hj => by
    rw [show (⟨g, 0, none⟩ : Addr).add j = ⟨g, j, none⟩ by unfold Addr.add; split <;> simp_all, cell_of_row _ _ _ _ _ _ hg]
    simpa using hj⟩⟩
set_option maxHeartbeats 2000000 in
set_option maxRecDepth 100000 in
theorem fourC (base : Nat) (A : Option Addr) (n c m : Nat) (xs : List UInt8) (w : World) (hown : w.ownsRow base 5 1 (.slice A n c) n (bv xs)) (hm : m < 2 ^ 32) (hn : n ≤ 1000000000) (hb : base ≤ w.heap.size) :
    Calls Tryd.prog 47 #[.slice A n c, .int .u32 m] w fun e w' => ∃ A' c', e = .returned (.slice A' (n + 4) c') ∧ w'.ownsRow base 5 1 (.slice A' (n + 4) c') (n + 4) (bv (xs ++ fourF m)) ∧ Below base w w' := by
  obtain ⟨i0, hi, hz0, hz1, hz2⟩ := info_parts info_u8
  have hB := bv_four m hm
  have HB := Lib.hid hB
  have HO := Lib.hid hown
  clear hB hown
  have hrd := reads_blk (heap_alloc_new w (.cells #[.int .u8 ((m : Int) % 256), .int .u8 ((m : Int) / 256 % 256), .int .u8 ((m : Int) / 65536 % 256), .int .u8 ((m : Int) / 16777216)] 5 (0, 0))) (n := 4) rfl
  have HRD := Lib.hid hrd
  clear hrd
  go_enter Tryd.func47, Tryd.ntmps47
  go_wp2_with (at_builtin; (refine wpList_append_any _ rfl (.tmp 5) (.tmp 17) 22 rfl base 5 i0 (.int .u8 0) 1 1 Tryd.underlying22 hi hz0 hz1 hz2 rfl (by decide) (.slice A n c) n (bv xs) rfl (HO.out.alloc _) _ (some ⟨w.heap.size, 0, none⟩) 4 4 [.int .u8 ((m : Int) % 256), .int .u8 ((m : Int) / 256 % 256), .int .u8 ((m : Int) / 65536 % 256), .int .u8 ((m : Int) / 16777216)] rfl HRD.out (by intro u hu; simp only [List.mem_cons, List.not_mem_nil, or_false] at hu; rcases hu with rfl | rfl | rfl | rfl <;> rfl) (by unfold maxLen; omega) (by omega) (by rw [World.size_alloc]; omega) ?_; intro v5 w5 hown5 hgr5 _; obtain ⟨A5, c5, rfl, hc5⟩ := owns_form hown5))
  go_ret
  rw [bv_append, HB.out]
  exact ⟨A5, c5, rfl, hown5, ((Below.refl _ _).alloc hb _).grown hgr5 (by rw [World.size_alloc]; omega) (fun j hj => (HO.out.lt j hj).1)⟩
theorem orsh (k x y : Nat) (hx : x < 2 ^ k) (hy : y * 2 ^ k < 2 ^ 32) (hk : k ≤ 32) : bits .or .u32 (x : Int) ((y * 2 ^ k : Nat) : Int) = ((x + y * 2 ^ k : Nat) : Int) := by
  have h64 : 2 ^ k ≤ 2 ^ 32 := Nat.pow_le_pow_right (by omega) (by omega)
  rw [or32 x _ (by omega) hy]
  have := Nat.two_pow_add_eq_or_of_lt hx y
  rw [Nat.mul_comm y, Nat.or_comm, ← this, Nat.add_comm]
theorem or4 (a b c d : UInt8) (r : List UInt8) : bits .or .u32 (bits .or .u32 (bits .or .u32 (a.toNat : Int) ((b.toNat : Int) * 256)) ((c.toNat : Int) * 65536)) ((d.toNat : Int) * 16777216) = (num4 (a :: b :: c :: d :: r) : Int) := by
  have := a.toNat_lt
  have := b.toNat_lt
  have := c.toNat_lt
  have := d.toNat_lt
  have e1 := orsh 8 a.toNat b.toNat (by omega) (by omega) (by omega)
  have e2 := orsh 16 (a.toNat + b.toNat * 2 ^ 8) c.toNat (by omega) (by omega) (by omega)
  have e3 := orsh 24 (a.toNat + b.toNat * 2 ^ 8 + c.toNat * 2 ^ 16) d.toNat (by omega) (by omega) (by omega)
  rw [show (b.toNat : Int) * 256 = ((b.toNat * 2 ^ 8 : Nat) : Int) by omega, e1, show (c.toNat : Int) * 65536 = ((c.toNat * 2 ^ 16 : Nat) : Int) by omega, e2, show (d.toNat : Int) * 16777216 = ((d.toNat * 2 ^ 24 : Nat) : Int) by omega, e3]
  simp only [num4, List.getD_cons_zero, List.getD_cons_succ]
  congr 1
  omega
set_option maxHeartbeats 2000000 in
set_option maxRecDepth 100000 in
theorem numC (A : Option Addr) (n c B : Nat) (bs : List UInt8) (w : World) (hr : Reads w B 1 A n (bv bs)) (hn : 4 ≤ n) :
    Calls Tryd.prog 48 #[.slice A n c] w fun e w' => e = .returned (.int .u32 (num4 bs)) ∧ ∃ q, w' = w.drewN q := by
  have hl : bs.length = n := by have := hr.1; rw [bv_length] at this; omega
  obtain ⟨a, b, c', d, r, rfl⟩ : ∃ a b c' d r, bs = a :: b :: c' :: d :: r := by
    match bs, hl with
    | [], h => simp at h; omega
    | [_], h => simp at h; omega
    | [_, _], h => simp at h; omega
    | [_, _, _], h => simp at h; omega
    | a :: b :: c' :: d :: r, _ => exact ⟨a, b, c', d, r, rfl⟩
  · have p0 : 0 < n := by omega
    have p1 : 1 < n := by omega
    have p2 : 2 < n := by omega
    have p3 : 3 < n := by omega
    have i0 : (0 : Int) < (n : Int) := by omega
    have i1 : (1 : Int) < (n : Int) := by omega
    have i2 : (2 : Int) < (n : Int) := by omega
    have i3 : (3 : Int) < (n : Int) := by omega
    obtain ⟨ad, rfl, _, hc⟩ := hr.2 (by omega)
    have f0 : w.cell? ad = some (.int .u8 a.toNat) := hc 0 _ rfl
    have f1 : w.cell? ⟨ad.block, ad.off + 1, none⟩ = some (.int .u8 b.toNat) := hc 1 _ rfl
    have f2 : w.cell? ⟨ad.block, ad.off + 2, none⟩ = some (.int .u8 c'.toNat) := hc 2 _ rfl
    have f3 : w.cell? ⟨ad.block, ad.off + 3, none⟩ = some (.int .u8 d.toNat) := hc 3 _ rfl
    have k0 : (a.toNat : Int) < 256 := by have := a.toNat_lt; omega
    have k1 : (b.toNat : Int) < 256 := by have := b.toNat_lt; omega
    have k2 : (c'.toNat : Int) < 256 := by have := c'.toNat_lt; omega
    have k3 : (d.toNat : Int) < 256 := by have := d.toNat_lt; omega
    have u0 : IntKind.u32.wrap (a.toNat : Int) = (a.toNat : Int) := IntWalk.u32_in _ (by omega)
    have u1 : IntKind.u32.wrap (b.toNat : Int) = (b.toNat : Int) := IntWalk.u32_in _ (by omega)
    have u2 : IntKind.u32.wrap (c'.toNat : Int) = (c'.toNat : Int) := IntWalk.u32_in _ (by omega)
    have u3 : IntKind.u32.wrap (d.toNat : Int) = (d.toNat : Int) := IntWalk.u32_in _ (by omega)
    have hn0 : (4 : Int) ≤ (n : Int) := by omega
    clear hr hc hl
    go_enter Tryd.func48, Tryd.ntmps48
    go_wp2_with (fail)
    go_quiet (fail)
    go_wp2_with (fail)
    go_ret
    refine ⟨?_, nq, rfl⟩
    rw [← or4]
    rfl
/-- A piece in its wrapping. -/
def wrapF (bs : List UInt8) : List UInt8 := fourF bs.length ++ fourF (sumB bs) ++ bs
set_option maxHeartbeats 2000000 in
set_option maxRecDepth 100000 in
theorem wrapC (A : Option Addr) (n c B : Nat) (bs : List UInt8) (w : World) (hr : Reads w B 1 A n (bv bs)) (hB : B ≤ w.heap.size) (hn : n ≤ 100000000) :
    Calls Tryd.prog 16 #[.slice A n c] w fun e w' => ∃ A' c', e = .returned (.slice A' (n + 8) c') ∧ w'.ownsRow w.heap.size 5 1 (.slice A' (n + 8) c') (n + 8) (bv (wrapF bs)) ∧ Below w.heap.size w w' := by
  obtain ⟨i0, hi, hz0, hz1, hz2⟩ := info_parts info_u8
  have hl : bs.length = n := by have := hr.1; rw [bv_length] at this; omega
  have HR := Lib.hid hr
  have HL := Lib.hid hl
  have hs := sumB_lt bs
  clear hr hl
  have h4 := fourC w.heap.size none 0 0 n [] w (World.ownsRow_nil _ _ _ _) (by omega) (by omega) (Nat.le_refl _)
  simp only [Nat.zero_add, List.nil_append] at h4
  have H4 := Lib.hid h4
  clear h4
  go_enter Tryd.func16, Tryd.ntmps16
  go_wp2_with (fail)
  refine H4.out.mono ?_
  rintro e w1 ⟨A1, c1, rfl, hown1, hb1⟩
  have hz := hb1.size
  have HO1 := Lib.hid hown1
  have HB1 := Lib.hid hb1
  clear hown1 hb1
  go_wp2_with (fail)
  refine (sumC A n c B bs w1 ((HR.out.below (HB1.out.mono hB))) (by omega)).mono ?_
  rintro e w2 ⟨rfl, rfl⟩
  go_wp2_with (fail)
  refine (fourC w.heap.size A1 4 c1 (sumB bs) (fourF n) w2 HO1.out hs (by omega) hz).mono ?_
  rintro e w3 ⟨A3, c3, rfl, hown3, hb3⟩
  have hz3 := hb3.size
  have HO3 := Lib.hid hown3
  have HB3 := Lib.hid (HB1.out.trans hb3)
  clear hown3 hb3
  go_wp2_with (at_builtin; (refine wpList_append_any _ rfl (.tmp 11) (.tmp 12) 22 rfl w.heap.size 5 i0 (.int .u8 0) 1 1 Tryd.underlying22 hi hz0 hz1 hz2 rfl (by decide) (.slice A3 8 c3) 8 (bv (fourF n ++ fourF (sumB bs))) rfl HO3.out B A n c (bv bs) rfl (HR.out.below (HB3.out.mono hB)) (bv_one bs) (by unfold maxLen; omega) (by omega) (by omega) ?_; intro v5 w5 hown5 hgr5 _; obtain ⟨A5, c5, rfl, hc5⟩ := owns_form hown5))
  go_ret
  have e1 : wrapF bs = fourF n ++ fourF (sumB bs) ++ bs := by unfold wrapF; rw [HL.out]
  rw [e1, bv_append _ bs, Nat.add_comm n 8]
  exact ⟨A5, c5, rfl, hown5, HB3.out.grown hgr5 (by have := HB3.out.size; omega) (fun j hj => (HO3.out.lt j hj).1)⟩
end Go.Proofs.YtocgfcboigiigaaDoor
