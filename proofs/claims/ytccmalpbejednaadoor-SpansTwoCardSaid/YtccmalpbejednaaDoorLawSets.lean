/- selionlaw02.SpansParts: a set is what it has with another one, and what it has without it. No condition. -/
import Derived.Test.YtccmalpbejednaaDoorLawOf
import Derived.Test.YtccmalpbejednaaDoorLess2
import Derived.Test.YtccmalpbejednaaDoorSame2
namespace Go.Proofs.YtccmalpbejednaaDoor
open Go Go.Proofs Go.RowKit

/-- Make and Of, one behind the other. -/
theorem pow15 {n a b : Nat} (ha : a ≤ 15) (hn : n ≤ 15) (hb : b = n * 2 ^ a) : b ≤ 491520 := by
  have h1 : 2 ^ a ≤ 2 ^ 15 := Nat.pow_le_pow_right (by omega) ha
  have h2 := Nat.mul_le_mul hn h1
  rw [hb]
  exact h2
set_option maxHeartbeats 4000000 in
set_option maxRecDepth 100000 in
theorem spansParts_any (A A' : Option Addr) (n c n' c' : Nat) (xs3 ys3 : List (Int × Int × Int)) (w : World) (hN : NoneLaid w) (ha : SArg w A n xs3) (ha' : SArg w A' n' ys3) (hnm : n ≤ maxLen) (hnm' : n' ≤ maxLen) :
    Calls Tryd.prog 10 #[.slice A n c, .slice A' n' c'] w fun e w' => e = .returned (.bool true) ∧ Below w.heap.size w w' := by
  unfold maxLen at hnm hnm'
  by_cases hbig : 15 < n
  · have hbig' : decide ((15 : Int) < (n : Int)) = true := by simp; omega
    go_enter Tryd.func10, Tryd.ntmps10
    go_wp2_with (go_at_call 13; refine (awake2_any _ hN).mono ?_; rintro e w1 ⟨rfl, hb1⟩)
    go_ret
    exact ⟨rfl, hb1⟩
  by_cases hbig2 : 15 < n'
  · have hbig' : decide ((15 : Int) < (n : Int)) = false := by simp; omega
    have hbig3 : decide ((15 : Int) < (n' : Int)) = true := by simp; omega
    go_enter Tryd.func10, Tryd.ntmps10
    go_wp2_with (go_at_call 13; refine (awake2_any _ hN).mono ?_; rintro e w1 ⟨rfl, hb1⟩)
    go_ret
    exact ⟨rfl, hb1⟩
  have hbig' : decide ((15 : Int) < (n : Int)) = false := by simp; omega
  have hbig3 : decide ((15 : Int) < (n' : Int)) = false := by simp; omega
  have hHA := Lib.hid ha
  have hHA' := Lib.hid ha'
  clear ha ha'
  go_enter Tryd.func10, Tryd.ntmps10
  go_wp2_with (go_at_call 13; refine (awake2_any _ hN).mono ?_; rintro e w1 ⟨rfl, hb1⟩)
  refine (make_row A n c xs3 _ (hHA.out.below hb1) (by omega)).mono ?_
  rintro e w2 ⟨A2, n2, c2, xs, rfl, hc2, hr2, hxs, hb2⟩
  have hn2 : n2 ≤ 15 := by
    have := hr2.len
    rw [hxs, List.length_map, hHA.out.1] at this
    omega
  have hux : AllU xs := by rw [hxs]; exact mkF_all hHA.out.2.1
  clear hxs
  go_wp2_with (fail)
  refine (of_set A2 n2 c2 _ xs _ hr2 (by omega) hux).mono ?_
  rintro e w3 ⟨A3, n3, c3, ps, rfl, hc3, hr3, ⟨hg3, hh3, hn3⟩, hb3⟩
  have hn3' : n3 ≤ 15 := by have := hr3.len; omega
  have hb03 : Below w.heap.size w w3 := hb1.trans ((hb2.trans (hb3.mono hb2.size)).mono hb1.size)
  have HG3 := Lib.hid hg3
  clear hux hn3 hr2 hh3 hb1 hb2 hb3 hg3
  go_wp2_with (fail)
  refine (make_row A' n' c' ys3 _ (hHA'.out.below hb03) (by omega)).mono ?_
  rintro e w4 ⟨A4, n4, c4, ys, rfl, hc4, hr4, hys, hb4⟩
  have hn4 : n4 ≤ 15 := by
    have := hr4.len
    rw [hys, List.length_map, hHA'.out.1] at this
    omega
  have huy : AllU ys := by rw [hys]; exact mkF_all hHA'.out.2.1
  clear hys
  go_wp2_with (fail)
  refine (of_set A4 n4 c4 _ ys _ hr4 (by omega) huy).mono ?_
  rintro e w5 ⟨A5, n5, c5, bs, rfl, hc5, hr5, ⟨hg5, hh5, hn5⟩, hb5⟩
  have hn5' : n5 ≤ 15 := by have := hr5.len; omega
  have hb35 : Below w3.heap.size w3 w5 := hb4.trans (hb5.mono hb4.size)
  have hr35 := hr3.below hb35 (Nat.le_refl _)
  have hs35 := hb35.size
  have hb05 : Below w.heap.size w w5 := hb03.trans (hb35.mono hb03.size)
  have hN5 : NoneLaid w5 := hN.below hb05 hN.lt
  have HG5 := Lib.hid hg5
  clear huy hn5 hr4 hh5 hb4 hb5 hg5 hb35 hb03 hr3 hN
  have hmul : n3 * n5 ≤ 225 := Nat.mul_le_mul hn3' hn5'
  have HMU := Lib.hid hmul
  have HPW := Lib.hid (pow15 (b := n3 * 2 ^ n5) hn5' hn3' rfl)
  have HPW3 := Lib.hid (pow15 (b := n3 * 2 ^ n3) hn3' hn3' rfl)
  clear hmul
  go_wp2_with (fail)
  refine (meetRow _ _ _ _ _ _ _ _ ps bs _ hN5 hr35 hr5 (by omega) (by omega) (Nat.le_trans HMU.out (by omega)) (by omega) (by omega) (goodS_u64 HG3.out) (goodS_u64 HG5.out)).mono ?_
  rintro e w6 ⟨A6, n6, c6, ws, rfl, hc6, hr6, ⟨hg6, hh6, hn6⟩, hb6⟩
  have hn6' : n6 ≤ 225 := by have := hr6.len; have := HMU.out; omega
  have hs6 := hb6.size
  have hr36 := hr35.below hb6 hs35
  have hr56 := hr5.below hb6 (Nat.le_refl _)
  have hb06 : Below w.heap.size w w6 := hb05.trans (hb6.mono hb05.size)
  have hN6 : NoneLaid w6 := hN5.below hb6 hN5.lt
  have HG6 := Lib.hid hg6
  have HH6 : Hid (∀ t, hasB ws t = (hasB ps t && hasB bs t)) := Lib.hid hh6
  clear hn6 hh6 hg6 hr35 hr5 hb6 hb05 hN5
  go_wp2_with (fail)
  refine (lessRow 491520 _ _ _ _ _ _ _ _ ps bs _ hN6 hr36 hr56 (by omega) HPW.out (by omega) (by omega) (by omega) (goodS_u64 HG3.out) (goodS_u64 HG5.out)).mono ?_
  rintro e w7 ⟨A7, n7, c7, os, rfl, hc7, hr7, ⟨hg7, hh7, hn7⟩, hb7⟩
  have hn7' : n7 ≤ 491520 := by have := hr7.len; omega
  have hs7 := hb7.size
  have hr37 := hr36.below hb7 (by omega)
  have hr57 := hr56.below hb7 (by omega)
  have hr67 := hr6.below hb7 (by omega)
  have hb07 : Below w.heap.size w w7 := hb06.trans (hb7.mono hb06.size)
  have hN7 : NoneLaid w7 := hN6.below hb7 hN6.lt
  have HG7 := Lib.hid hg7
  have HH7 : Hid (∀ t, hasB os t = (hasB ps t && !hasB bs t)) := Lib.hid hh7
  clear hn7 hh7 hg7 hr36 hr56 hr6 hb7 hb06 hN6
  go_wp2_with (fail)
  -- with.Join(without) is a
  refine (joinAny _ _ _ _ _ _ _ _ ws os _ hr67 hr7 (by omega) (by omega) (goodS_u64 HG6.out) (goodS_u64 HG7.out)).mono ?_
  rintro e w8 ⟨A8, n8, c8, js, rfl, hc8, hr8, ⟨hg8, hh8, hn8⟩, hb8⟩
  have hn8' : n8 ≤ 1000000 := by have := hr8.len; omega
  have hs8 := hb8.size
  have hr38 := hr37.below hb8 (by omega)
  have hr58 := hr57.below hb8 (by omega)
  have hr68 := hr67.below hb8 (by omega)
  have hr78 := hr7.below hb8 (by omega)
  have hb08 : Below w.heap.size w w8 := hb07.trans (hb8.mono hb07.size)
  have hN8 : NoneLaid w8 := hN7.below hb8 hN7.lt
  have HE8 : Hid (decide (js = ps) = true) := Lib.hid (decide_eq_true (good_ext hg8 HG3.out fun t => by
    rw [hh8]
    simp only [HH6.out, HH7.out]
    cases hasB ps t <;> cases hasB bs t <;> rfl))
  clear hn8 hh8 hg8 hr37 hr57 hr67 hr7 hb8 hb07 hN7
  go_wp2_with (fail)
  refine (sameAny true _ _ _ _ _ _ _ _ js ps _ hr8 hr38 (by omega) (by omega) HE8.out).mono ?_
  rintro e w9 ⟨rfl, hb9⟩
  have hs9 := hb9.size
  have hr39 := hr38.below hb9 (by omega)
  have hr59 := hr58.below hb9 (by omega)
  have hr69 := hr68.below hb9 (by omega)
  have hr79 := hr78.below hb9 (by omega)
  have hb09 : Below w.heap.size w w9 := hb08.trans (hb9.mono hb08.size)
  have hN9 : NoneLaid w9 := hN8.below hb9 hN8.lt
  clear hr38 hr58 hr68 hr78 hb9 hb08 hN8 hr8
  go_wp2_with (fail)
  have hr3_9 := hr39
  have hr5_9 := hr59
  have hr6_9 := hr69
  have hr7_9 := hr79
  clear hr39 hr59 hr69 hr79
  have hm67 : n6 * n7 ≤ 110592000 := Nat.le_trans (Nat.mul_le_mul hn6' hn7') (by omega)
  have HM67 := Lib.hid hm67
  clear hm67
  refine (meetRow _ _ _ _ _ _ _ _ ws os _ hN9 hr6_9 hr7_9 (by omega) (by omega) (Nat.le_trans HM67.out (by omega)) (by omega) (by omega) (goodS_u64 HG6.out) (goodS_u64 HG7.out)).mono ?_
  rintro e w10 ⟨A10, n10, c10, zs10, rfl, hc10, hr10_10, ⟨hg10, hh10, hn10⟩, hb10⟩
  have hs10 := hb10.size
  have hr3_10 := hr3_9.below hb10 (by omega)
  have hr5_10 := hr5_9.below hb10 (by omega)
  have hb010 : Below w.heap.size w w10 := hb09.trans (hb10.mono hb09.size)
  have hN10 : NoneLaid w10 := hN9.below hb10 hN9.lt
  have he10 : zs10 = [] := good_ext hg10 goodS_nil fun t => by
    rw [hh10]
    simp only [HH6.out, HH7.out, hasB_nil]
    cases hasB ps t <;> cases hasB bs t <;> rfl
  have hl10 : n10 = 0 := by have := hr10_10.len; rw [he10] at this; exact this.symm
  subst hl10
  clear he10 hg10 hh10 hn10 hr10_10
  clear hb10 hb09 hN9 hr3_9 hr5_9 hr6_9 hr7_9
  go_wp2_with (fail)
  refine (joinAny _ _ _ _ _ _ _ _ ps bs _ hr3_10 hr5_10 (by omega) (by omega) (goodS_u64 HG3.out) (goodS_u64 HG5.out)).mono ?_
  rintro e w11 ⟨A11, n11, c11, zs11, rfl, hc11, hr11_11, ⟨hg11, hh11, hn11⟩, hb11⟩
  have hs11 := hb11.size
  have hr3_11 := hr3_10.below hb11 (by omega)
  have hr5_11 := hr5_10.below hb11 (by omega)
  have hb011 : Below w.heap.size w w11 := hb010.trans (hb11.mono hb010.size)
  have hN11 : NoneLaid w11 := hN10.below hb11 hN10.lt
  have hn'11 : n11 ≤ 30 := by have := hr11_11.len; omega
  have HG11 := Lib.hid hg11
  have HH11 : Hid (∀ t, hasB zs11 t = (hasB ps t || hasB bs t)) := Lib.hid hh11
  clear hn11 hh11 hg11
  clear hb11 hb010 hN10 hr3_10 hr5_10
  go_wp2_with (fail)
  refine (joinAny _ _ _ _ _ _ _ _ bs ps _ hr5_11 hr3_11 (by omega) (by omega) (goodS_u64 HG5.out) (goodS_u64 HG3.out)).mono ?_
  rintro e w12 ⟨A12, n12, c12, zs12, rfl, hc12, hr12_12, ⟨hg12, hh12, hn12⟩, hb12⟩
  have hs12 := hb12.size
  have hr3_12 := hr3_11.below hb12 (by omega)
  have hr5_12 := hr5_11.below hb12 (by omega)
  have hr11_12 := hr11_11.below hb12 (by omega)
  have hb012 : Below w.heap.size w w12 := hb011.trans (hb12.mono hb011.size)
  have hN12 : NoneLaid w12 := hN11.below hb12 hN11.lt
  have hn'12 : n12 ≤ 30 := by have := hr12_12.len; omega
  have HE12 : Hid (decide (zs11 = zs12) = true) := Lib.hid (decide_eq_true (good_ext HG11.out hg12 fun t => by rw [hh12, HH11.out]; exact Bool.or_comm _ _))
  clear hn12 hh12 hg12
  clear hb12 hb011 hN11 hr3_11 hr5_11 hr11_11
  go_wp2_with (fail)
  refine (sameAny true _ _ _ _ _ _ _ _ zs11 zs12 _ hr11_12 hr12_12 (by omega) (by omega) HE12.out).mono ?_
  rintro e w13 ⟨rfl, hb13⟩
  have hs13 := hb13.size
  have hr3_13 := hr3_12.below hb13 (by omega)
  have hr5_13 := hr5_12.below hb13 (by omega)
  have hb013 : Below w.heap.size w w13 := hb012.trans (hb13.mono hb012.size)
  have hN13 : NoneLaid w13 := hN12.below hb13 hN12.lt
  clear hb13 hb012 hN12 hr3_12 hr5_12 hr11_12 hr12_12
  go_wp2_with (fail)
  refine (meetRow _ _ _ _ _ _ _ _ ps bs _ hN13 hr3_13 hr5_13 (by omega) (by omega) (Nat.le_trans HMU.out (by omega)) (by omega) (by omega) (goodS_u64 HG3.out) (goodS_u64 HG5.out)).mono ?_
  rintro e w14 ⟨A14, n14, c14, zs14, rfl, hc14, hr14_14, ⟨hg14, hh14, hn14⟩, hb14⟩
  have hs14 := hb14.size
  have hr3_14 := hr3_13.below hb14 (by omega)
  have hr5_14 := hr5_13.below hb14 (by omega)
  have hb014 : Below w.heap.size w w14 := hb013.trans (hb14.mono hb013.size)
  have hN14 : NoneLaid w14 := hN13.below hb14 hN13.lt
  have hn'14 : n14 ≤ 225 := by have := hr14_14.len; have := HMU.out; omega
  have HG14 := Lib.hid hg14
  have HH14 : Hid (∀ t, hasB zs14 t = (hasB ps t && hasB bs t)) := Lib.hid hh14
  clear hn14 hh14 hg14
  clear hb14 hb013 hN13 hr3_13 hr5_13
  go_wp2_with (fail)
  refine (meetRow _ _ _ _ _ _ _ _ bs ps _ hN14 hr5_14 hr3_14 (by omega) (by omega) (by rw [Nat.mul_comm]; exact Nat.le_trans HMU.out (by omega)) (by omega) (by omega) (goodS_u64 HG5.out) (goodS_u64 HG3.out)).mono ?_
  rintro e w15 ⟨A15, n15, c15, zs15, rfl, hc15, hr15_15, ⟨hg15, hh15, hn15⟩, hb15⟩
  have hs15 := hb15.size
  have hr3_15 := hr3_14.below hb15 (by omega)
  have hr14_15 := hr14_14.below hb15 (by omega)
  have hb015 : Below w.heap.size w w15 := hb014.trans (hb15.mono hb014.size)
  have hN15 : NoneLaid w15 := hN14.below hb15 hN14.lt
  have hn'15 : n15 ≤ 225 := by have := hr15_15.len; have := HMU.out; rw [Nat.mul_comm] at hn15; omega
  have HE15 : Hid (decide (zs14 = zs15) = true) := Lib.hid (decide_eq_true (good_ext HG14.out hg15 fun t => by rw [hh15, HH14.out]; exact Bool.and_comm _ _))
  clear hn15 hh15 hg15
  clear hb15 hb014 hN14 hr3_14 hr5_14 hr14_14
  go_wp2_with (fail)
  refine (sameAny true _ _ _ _ _ _ _ _ zs14 zs15 _ hr14_15 hr15_15 (by omega) (by omega) HE15.out).mono ?_
  rintro e w16 ⟨rfl, hb16⟩
  have hs16 := hb16.size
  have hr3_16 := hr3_15.below hb16 (by omega)
  have hb016 : Below w.heap.size w w16 := hb015.trans (hb16.mono hb015.size)
  have hN16 : NoneLaid w16 := hN15.below hb16 hN15.lt
  clear hb16 hb015 hN15 hr3_15 hr14_15 hr15_15
  go_wp2_with (fail)
  refine (lessRow 491520 _ _ _ _ _ _ _ _ ps ps _ hN16 hr3_16 hr3_16 (by omega) HPW3.out (by omega) (by omega) (by omega) (goodS_u64 HG3.out) (goodS_u64 HG3.out)).mono ?_
  rintro e w17 ⟨A17, n17, c17, zs17, rfl, hc17, hr17_17, ⟨hg17, hh17, hn17⟩, hb17⟩
  have hs17 := hb17.size
  have hb017 : Below w.heap.size w w17 := hb016.trans (hb17.mono hb016.size)
  have hN17 : NoneLaid w17 := hN16.below hb17 hN16.lt
  have he17 : zs17 = [] := good_ext hg17 goodS_nil fun t => by
    rw [hh17]
    simp only [hasB_nil]
    cases hasB ps t <;> rfl
  have hl17 : n17 = 0 := by have := hr17_17.len; rw [he17] at this; exact this.symm
  subst hl17
  clear he17 hg17 hh17 hn17 hr17_17
  clear hb17 hb016 hN16 hr3_16
  go_wp2_with (fail)
  go_ret
  exact ⟨rfl, hb017⟩
end Go.Proofs.YtccmalpbejednaaDoor
