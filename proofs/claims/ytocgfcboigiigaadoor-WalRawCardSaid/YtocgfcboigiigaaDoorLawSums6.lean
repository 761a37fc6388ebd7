/- selionlaw06.FrameSums answers true, whatever the bytes. Condition: the package's variable 'none' holds what its text lays. -/
import Derived.Test.YtocgfcboigiigaaDoorFrm4
import Derived.Test.YtocgfcboigiigaaDoorAwake6
namespace Go.Proofs.YtocgfcboigiigaaDoor
open Go Go.Proofs Go.RowKit

set_option maxHeartbeats 2000000 in
set_option maxRecDepth 100000 in
theorem fourL (m : Nat) (w : World) (hm : m < 2 ^ 32) :
    Calls Tryd.prog 49 #[.int .u32 m] w fun e w' => ∃ A' c', e = .returned (.slice A' 4 c') ∧ w'.ownsRow w.heap.size 5 1 (.slice A' 4 c') 4 (bv (fourF m)) ∧ Below w.heap.size w w' := by
  have HB := Lib.hid (bv_four m hm)
  go_enter Tryd.func49, Tryd.ntmps49
  go_wp2_with (fail)
  go_ret
  rw [HB.out]
  exact ⟨_, _, rfl, owns_new (n := 4) (heap_alloc_new w (.cells #[.int .u8 ((m : Int) % 256), .int .u8 ((m : Int) / 256 % 256), .int .u8 ((m : Int) / 65536 % 256), .int .u8 ((m : Int) / 16777216)] 5 (0, 0))) (by unfold maxLen; omega) rfl (Nat.le_refl _), (Below.refl _ _).alloc (Nat.le_refl _) _⟩
set_option maxHeartbeats 2000000 in
set_option maxRecDepth 100000 in
theorem wrapL (A : Option Addr) (n c B : Nat) (bs : List UInt8) (w : World) (hr : Reads w B 1 A n (bv bs)) (hB : B ≤ w.heap.size) (hn : n ≤ 100000000) :
    Calls Tryd.prog 22 #[.slice A n c] w fun e w' => ∃ A' c', e = .returned (.slice A' (n + 8) c') ∧ w'.ownsRow w.heap.size 5 1 (.slice A' (n + 8) c') (n + 8) (bv (wrapF bs)) ∧ Below w.heap.size w w' := by
  have hl : bs.length = n := by have := hr.1; rw [bv_length] at this; omega
  have HR := Lib.hid hr
  have HL := Lib.hid hl
  have hs := sumB_lt bs
  clear hr hl
  go_enter Tryd.func22, Tryd.ntmps22
  go_wp2_with (fail)
  refine (fourL n w (by omega)).mono ?_
  rintro e w1 ⟨A1, c1, rfl, hown1, hb1⟩
  have hz := hb1.size
  have HO1 := Lib.hid (Reads.of_own hown1)
  have HB1 := Lib.hid hb1
  clear hown1 hb1
  go_wp2_with (fail)
  refine (sumL A n c B bs w1 ((HR.out.below (HB1.out.mono hB))) (by omega)).mono ?_
  rintro e w2 ⟨rfl, rfl⟩
  go_wp2_with (fail)
  refine (fourL (sumB bs) w2 hs).mono ?_
  rintro e w3 ⟨A3, c3, rfl, hown3, hb3⟩
  have hz3 := hb3.size
  have HO3 := Lib.hid (Reads.of_own hown3)
  have HO1 := Lib.hid (HO1.out.below hb3)
  have HB3 := Lib.hid (HB1.out.trans (hb3.mono hz))
  clear hown3 hb3
  go_wp2_with (fail)
  have hm := heap_alloc_new w3 (.cells #[.slice A1 4 c1, .slice A3 4 c3, .slice A n c] 22 (0, 0))
  have h := concatB w3.heap.size 3 3 (w3.alloc (.cells #[.slice A1 4 c1, .slice A3 4 c3, .slice A n c] 22 (0, 0))).heap.size [(A1, 4, c1, fourF n), (A3, 4, c3, fourF (sumB bs)), (A, n, c, bs)] _ rfl (by omega) (lt_of_heap hm) (Nat.le_refl _) (fun j x hx => by
    rw [cell_of_blk hm]
    match j, hx with
    | 0, hx => obtain rfl := Option.some.inj hx; rfl
    | 1, hx => obtain rfl := Option.some.inj hx; rfl
    | 2, hx => obtain rfl := Option.some.inj hx; rfl) (fun x hx => by
    simp only [List.mem_cons, List.not_mem_nil, or_false] at hx
    rcases hx with rfl | rfl | rfl
    · exact (HO1.out.alloc (by omega) _).more (by simp; omega)
    · exact (HO3.out.alloc (Nat.le_refl _) _).more (by simp)
    · exact ((HR.out.below (HB3.out.mono hB)).alloc (by omega) _).more (by simp; omega)) (by simp [totB]; omega)
  refine h.mono ?_
  rintro e w4 ⟨A4, c4, rfl, hown4, hb4⟩
  have e1 : flatB [(A1, 4, c1, fourF n), (A3, 4, c3, fourF (sumB bs)), (A, n, c, bs)] = wrapF bs := by simp [flatB, wrapF, HL.out]
  have e2 : (wrapF bs).length = n + 8 := by simp [wrapF, fourF_len, HL.out]; omega
  rw [e1, e2] at hown4 ⊢
  have HO4 := Lib.hid hown4
  have HB4 := Lib.hid hb4
  clear h hm hown4 hb4 e1 e2
  go_wp2_with (fail)
  go_ret
  exact ⟨A4, c4, rfl, owns_lower HO4.out (by simp; omega), (HB3.out.alloc (by omega) _).trans (HB4.out.mono (by simp; omega))⟩
set_option maxHeartbeats 2000000 in
set_option maxRecDepth 100000 in
theorem sums6 (A : Option Addr) (n c : Nat) (bs : List UInt8) (w : World) (hn : NoneLaid w) (hr : Reads w w.heap.size 1 A n (bv bs)) (hn1 : n ≤ 140737488355328) :
    Calls Tryd.prog 5 #[.slice A n c] w fun e w' => e = .returned (.bool true) ∧ Below w.heap.size w w' := by
  have HR := Lib.hid hr
  clear hr
  by_cases hbig : n ≤ 500
  · have g1 : decide ((500 : Int) < (n : Int)) = false := decide_eq_false (by omega)
    go_enter Tryd.func5, Tryd.ntmps5
    go_wp2_with (fail)
    refine (awake6_any w hn).mono ?_
    rintro e w1 ⟨rfl, hb1⟩
    clear hn
    have hz1 := hb1.size
    go_wp2_with (fail)
    refine (sumC A n c _ bs w1 (HR.out.below hb1) (by omega)).mono ?_
    rintro e w2 ⟨rfl, rfl⟩
    go_wp2_with (fail)
    refine (sumL A n c _ bs w2 (HR.out.below hb1) (by omega)).mono ?_
    rintro e w3 ⟨rfl, rfl⟩
    go_wp2_with (fail)
    refine (wrapC A n c _ bs w3 (HR.out.below hb1) hz1 (by omega)).mono ?_
    rintro e w4 ⟨A4, c4, rfl, hown4, hb4⟩
    have hz4 := hb4.size
    have HO4 := Lib.hid (Reads.of_own hown4)
    have HB4 := Lib.hid (hb1.trans (hb4.mono hz1))
    clear hown4 hb1 hb4
    go_wp2_with (fail)
    refine (wrapL A n c _ bs w4 (HR.out.below HB4.out) (by omega) (by omega)).mono ?_
    rintro e w5 ⟨A5, c5, rfl, hown5, hb5⟩
    have HO5 := Lib.hid (Reads.of_own hown5)
    have HO4 := Lib.hid (HO4.out.below hb5)
    have HB5 := Lib.hid (HB4.out.trans (hb5.mono HB4.out.size))
    clear hown5 hb5
    go_wp2_with (fail)
    refine (equalB true A4 A5 (n + 8) c4 (n + 8) c5 _ _ (wrapF bs) (wrapF bs) w5 HO4.out HO5.out (by omega) (by omega) (decide_eq_true rfl)).mono ?_
    rintro e w6 ⟨rfl, hb6⟩
    go_wp2_with (fail)
    go_ret
    exact ⟨rfl, HB5.out.trans (hb6.mono HB5.out.size)⟩
  · have g1 : decide ((500 : Int) < (n : Int)) = true := decide_eq_true (by omega)
    go_enter Tryd.func5, Tryd.ntmps5
    go_wp2_with (fail)
    refine (awake6_any w hn).mono ?_
    rintro e w1 ⟨rfl, hb1⟩
    clear hn
    go_wp2_with (fail)
    go_ret
    exact ⟨rfl, hb1⟩
end Go.Proofs.YtocgfcboigiigaaDoor
