/- selionlaw02.SpansTwo: what one of two sets has, both, the first alone. No condition. -/
import Derived.Test.YtccmalpbejednaaDoorLawOf
import Derived.Test.YtccmalpbejednaaDoorLess2
import Derived.Test.YtccmalpbejednaaDoorSame2
import Derived.Test.YtccmalpbejednaaDoorConcat2
import Derived.Test.YtccmalpbejednaaDoorLawSets
namespace Go.Proofs.YtccmalpbejednaaDoor
open Go Go.Proofs Go.RowKit

theorem many_cells {w : World} {g : Nat} {L : SL} {ty : TypeId} (h : w.heap[g]? = some (.cells (L.map fun x => Value.slice x.1 x.2.1 x.2.2.1).toArray ty (0, 0))) : ∀ j x, L[j]? = some x → w.cell? ⟨g, j, none⟩ = some (.slice x.1 x.2.1 x.2.2.1) := by
  intro j x hj
  rw [cell_of_row w g j _ ty (0, 0) h]
  simp [hj]
set_option maxHeartbeats 4000000 in
set_option maxRecDepth 100000 in
theorem spansTwo_any (A A' : Option Addr) (n c n' c' : Nat) (xs3 ys3 : List (Int × Int × Int)) (w : World) (hN : NoneLaid w) (ha : SArg w A n xs3) (ha' : SArg w A' n' ys3) (hnm : n ≤ maxLen) (hnm' : n' ≤ maxLen) :
    Calls Tryd.prog 12 #[.slice A n c, .slice A' n' c'] w fun e w' => e = .returned (.bool true) ∧ Below w.heap.size w w' := by
  unfold maxLen at hnm hnm'
  by_cases hbig : 15 < n
  · have hbig' : decide ((15 : Int) < (n : Int)) = true := by simp; omega
    go_enter Tryd.func12, Tryd.ntmps12
    go_wp2_with (go_at_call 13; refine (awake2_any _ hN).mono ?_; rintro e w1 ⟨rfl, hb1⟩)
    go_ret
    exact ⟨rfl, hb1⟩
  by_cases hbig2 : 15 < n'
  · have hbig' : decide ((15 : Int) < (n : Int)) = false := by simp; omega
    have hbig3 : decide ((15 : Int) < (n' : Int)) = true := by simp; omega
    go_enter Tryd.func12, Tryd.ntmps12
    go_wp2_with (go_at_call 13; refine (awake2_any _ hN).mono ?_; rintro e w1 ⟨rfl, hb1⟩)
    go_ret
    exact ⟨rfl, hb1⟩
  have hbig' : decide ((15 : Int) < (n : Int)) = false := by simp; omega
  have hbig3 : decide ((15 : Int) < (n' : Int)) = false := by simp; omega
  have hHA := Lib.hid ha
  have hHA' := Lib.hid ha'
  clear ha ha'
  go_enter Tryd.func12, Tryd.ntmps12
  go_wp2_with (go_at_call 13; refine (awake2_any _ hN).mono ?_; rintro e w1 ⟨rfl, hb1⟩)
  refine (make_row A n c xs3 _ (hHA.out.below hb1) (by omega)).mono ?_
  rintro e w2 ⟨A2, n2, c2, xs, rfl, hc2, hr2, hxs, hb2⟩
  have hn2 : n2 ≤ 15 := by
    have := hr2.len
    rw [hxs, List.length_map, hHA.out.1] at this
    omega
  have hux : AllU xs := by rw [hxs]; exact mkF_all hHA.out.2.1
  clear hxs
  go_wp2_with (fail)
  refine (of_set A2 n2 c2 _ xs _ hr2 (by omega) hux).mono ?_
  rintro e w3 ⟨A3, n3, c3, ps, rfl, hc3, hr3, ⟨hg3, hh3, hn3⟩, hb3⟩
  have hn3' : n3 ≤ 15 := by have := hr3.len; omega
  have hb03 : Below w.heap.size w w3 := hb1.trans ((hb2.trans (hb3.mono hb2.size)).mono hb1.size)
  have HG3 := Lib.hid hg3
  clear hux hn3 hr2 hh3 hb1 hb2 hb3 hg3
  go_wp2_with (fail)
  refine (make_row A' n' c' ys3 _ (hHA'.out.below hb03) (by omega)).mono ?_
  rintro e w4 ⟨A4, n4, c4, ys, rfl, hc4, hr4, hys, hb4⟩
  have hn4 : n4 ≤ 15 := by
    have := hr4.len
    rw [hys, List.length_map, hHA'.out.1] at this
    omega
  have huy : AllU ys := by rw [hys]; exact mkF_all hHA'.out.2.1
  clear hys
  go_wp2_with (fail)
  refine (of_set A4 n4 c4 _ ys _ hr4 (by omega) huy).mono ?_
  rintro e w5 ⟨A5, n5, c5, bs, rfl, hc5, hr5, ⟨hg5, hh5, hn5⟩, hb5⟩
  have hn5' : n5 ≤ 15 := by have := hr5.len; omega
  have hb35 : Below w3.heap.size w3 w5 := hb4.trans (hb5.mono hb4.size)
  have hr35 := hr3.below hb35 (Nat.le_refl _)
  have hs35 := hb35.size
  have hb05 : Below w.heap.size w w5 := hb03.trans (hb35.mono hb03.size)
  have hN5 : NoneLaid w5 := hN.below hb05 hN.lt
  have HG5 := Lib.hid hg5
  clear huy hn5 hr4 hh5 hb4 hb5 hg5 hb35 hb03 hr3 hN

  have hmul : n3 * n5 ≤ 225 := Nat.mul_le_mul hn3' hn5'
  have HMU := Lib.hid hmul
  have HPW := Lib.hid (pow15 (b := n3 * 2 ^ n5) hn5' hn3' rfl)
  clear hmul
  go_wp2_with (fail)
  have hr3_5 := hr35
  have hr5_5 := hr5
  clear hr35 hr5
  refine (joinAny _ _ _ _ _ _ _ _ ps bs _ hr3_5 hr5_5 (by omega) (by omega) (goodS_u64 HG3.out) (goodS_u64 HG5.out)).mono ?_
  rintro e w6 ⟨A6, n6, c6, zs6, rfl, hc6, hr6_6, ⟨hg6, hh6, hn6⟩, hb6⟩
  have hs6 := hb6.size
  have hr3_6 := hr3_5.below hb6 (by omega)
  have hr5_6 := hr5_5.below hb6 (by omega)
  have hb06 : Below w.heap.size w w6 := hb05.trans (hb6.mono hb05.size)
  have hN6 : NoneLaid w6 := hN5.below hb6 hN5.lt
  have hn'6 : n6 ≤ 30 := by have := hr6_6.len; omega
  have HG6 := Lib.hid hg6
  have HH6 : Hid (∀ t, hasB zs6 t = (hasB ps t || hasB bs t)) := Lib.hid hh6
  clear hn6 hh6 hg6
  clear hb6 hb05 hN5 hr3_5 hr5_5
  go_wp2_with (fail)
  refine (meetRow _ _ _ _ _ _ _ _ ps bs _ hN6 hr3_6 hr5_6 (by omega) (by omega) (Nat.le_trans HMU.out (by omega)) (by omega) (by omega) (goodS_u64 HG3.out) (goodS_u64 HG5.out)).mono ?_
  rintro e w7 ⟨A7, n7, c7, zs7, rfl, hc7, hr7_7, ⟨hg7, hh7, hn7⟩, hb7⟩
  have hs7 := hb7.size
  have hr3_7 := hr3_6.below hb7 (by omega)
  have hr5_7 := hr5_6.below hb7 (by omega)
  have hr6_7 := hr6_6.below hb7 (by omega)
  have hb07 : Below w.heap.size w w7 := hb06.trans (hb7.mono hb06.size)
  have hN7 : NoneLaid w7 := hN6.below hb7 hN6.lt
  have hn'7 : n7 ≤ 225 := by have := hr7_7.len; have := HMU.out; omega
  have HG7 := Lib.hid hg7
  have HH7 : Hid (∀ t, hasB zs7 t = (hasB ps t && hasB bs t)) := Lib.hid hh7
  clear hn7 hh7 hg7
  clear hb7 hb06 hN6 hr3_6 hr5_6 hr6_6
  go_wp2_with (fail)
  refine (lessRow 491520 _ _ _ _ _ _ _ _ ps bs _ hN7 hr3_7 hr5_7 (by omega) HPW.out (by omega) (by omega) (by omega) (goodS_u64 HG3.out) (goodS_u64 HG5.out)).mono ?_
  rintro e w8 ⟨A8, n8, c8, zs8, rfl, hc8, hr8_8, ⟨hg8, hh8, hn8⟩, hb8⟩
  have hs8 := hb8.size
  have hr3_8 := hr3_7.below hb8 (by omega)
  have hr5_8 := hr5_7.below hb8 (by omega)
  have hr6_8 := hr6_7.below hb8 (by omega)
  have hr7_8 := hr7_7.below hb8 (by omega)
  have hb08 : Below w.heap.size w w8 := hb07.trans (hb8.mono hb07.size)
  have hN8 : NoneLaid w8 := hN7.below hb8 hN7.lt
  have hn'8 : n8 ≤ 491520 := by have := hr8_8.len; omega
  have HG8 := Lib.hid hg8
  have HH8 : Hid (∀ t, hasB zs8 t = (hasB ps t && !hasB bs t)) := Lib.hid hh8
  clear hn8 hh8 hg8
  clear hb8 hb07 hN7 hr3_7 hr5_7 hr6_7 hr7_7
  go_wp2_with (fail)
  refine (goodAny _ _ _ _ zs6 _ hr6_8 (by omega) (by omega) HG6.out).mono ?_
  rintro e w9 ⟨rfl, hb9⟩
  have hs9 := hb9.size
  have hr3_9 := hr3_8.below hb9 (by omega)
  have hr5_9 := hr5_8.below hb9 (by omega)
  have hr6_9 := hr6_8.below hb9 (by omega)
  have hr7_9 := hr7_8.below hb9 (by omega)
  have hr8_9 := hr8_8.below hb9 (by omega)
  have hb09 : Below w.heap.size w w9 := hb08.trans (hb9.mono hb08.size)
  have hN9 : NoneLaid w9 := hN8.below hb9 hN8.lt
  clear hb9 hb08 hN8 hr3_8 hr5_8 hr6_8 hr7_8 hr8_8
  go_wp2_with (fail)
  refine (goodAny _ _ _ _ zs7 _ hr7_9 (by omega) (by omega) HG7.out).mono ?_
  rintro e w10 ⟨rfl, hb10⟩
  have hs10 := hb10.size
  have hr3_10 := hr3_9.below hb10 (by omega)
  have hr5_10 := hr5_9.below hb10 (by omega)
  have hr6_10 := hr6_9.below hb10 (by omega)
  have hr7_10 := hr7_9.below hb10 (by omega)
  have hr8_10 := hr8_9.below hb10 (by omega)
  have hb010 : Below w.heap.size w w10 := hb09.trans (hb10.mono hb09.size)
  have hN10 : NoneLaid w10 := hN9.below hb10 hN9.lt
  clear hb10 hb09 hN9 hr3_9 hr5_9 hr6_9 hr7_9 hr8_9
  go_wp2_with (fail)
  refine (goodAny _ _ _ _ zs8 _ hr8_10 (by omega) (by omega) HG8.out).mono ?_
  rintro e w11 ⟨rfl, hb11⟩
  have hs11 := hb11.size
  have hr3_11 := hr3_10.below hb11 (by omega)
  have hr5_11 := hr5_10.below hb11 (by omega)
  have hr6_11 := hr6_10.below hb11 (by omega)
  have hr7_11 := hr7_10.below hb11 (by omega)
  have hr8_11 := hr8_10.below hb11 (by omega)
  have hb011 : Below w.heap.size w w11 := hb010.trans (hb11.mono hb010.size)
  have hN11 : NoneLaid w11 := hN10.below hb11 hN10.lt
  clear hb11 hb010 hN10 hr3_10 hr5_10 hr6_10 hr7_10 hr8_10
  go_wp2_with (fail)
  have hOk : SLok w11 w11.heap.size [(A3, n3, c3, ps), (A5, n5, c5, bs), (A6, n6, c6, zs6), (A7, n7, c7, zs7), (A8, n8, c8, zs8)] := fun x hx => by
    simp only [List.mem_cons, List.not_mem_nil, or_false] at hx
    rcases hx with rfl | rfl | rfl | rfl | rfl
    · exact hr3_11.more (by omega)
    · exact hr5_11.more (by omega)
    · exact hr6_11.more (by omega)
    · exact hr7_11.more (by omega)
    · exact hr8_11.more (by omega)
  have hTl : totL [(A3, n3, c3, ps), (A5, n5, c5, bs), (A6, n6, c6, zs6), (A7, n7, c7, zs7), (A8, n8, c8, zs8)] ≤ 500000 := by simp [totL]; omega
  have HC : Calls Tryd.prog 41 #[.slice (some ⟨w11.heap.size, 0, none⟩) 5 5] (w11.alloc (.cells #[.slice A3 n3 c3, .slice A5 n5 c5, .slice A6 n6 c6, .slice A7 n7 c7, .slice A8 n8 c8] 26)) (RetOwn _ _) :=
    concatSets w11.heap.size 5 5 w11.heap.size [(A3, n3, c3, ps), (A5, n5, c5, bs), (A6, n6, c6, zs6), (A7, n7, c7, zs7), (A8, n8, c8, zs8)] _ rfl (by omega) (by simp) (by simp) (many_cells (heap_new_at rfl)) (hOk.below ((Below.refl w11.heap.size w11).alloc (Nat.le_refl _) _) (Nat.le_refl _)) (Nat.le_trans hTl (by omega))
  have hlen : (flatL [(A3, n3, c3, ps), (A5, n5, c5, bs), (A6, n6, c6, zs6), (A7, n7, c7, zs7), (A8, n8, c8, zs8)]).length ≤ 500000 := by
    have h3 := hr3_11.len
    have h5 := hr5_11.len
    have h6 := hr6_11.len
    have h7 := hr7_11.len
    have h8 := hr8_11.len
    simp [flatL]
    omega
  generalize flatL [(A3, n3, c3, ps), (A5, n5, c5, bs), (A6, n6, c6, zs6), (A7, n7, c7, zs7), (A8, n8, c8, zs8)] = al at *
  refine HC.mono ?_
  rintro e w12 ⟨v12, n12, rfl, hown12, hb12⟩
  clear HC hOk hTl
  have hb1112 : Below w11.heap.size w11 w12 := ((Below.refl w11.heap.size w11).alloc (Nat.le_refl _) _).trans (hb12.mono (by simp))
  have hs12 := hb1112.size
  have hn12 : n12 = al.length := by
    have := hown12.1
    rw [flatS_length] at this
    omega
  obtain ⟨A12, c12, rfl, hc12, hr12⟩ := SpanRow.of_owns hown12
  have hn12a : n12 ≤ 500000 := by omega
  have hN12 : NoneLaid w12 := hN11.below hb1112 hN11.lt
  have hb012 : Below w.heap.size w w12 := hb011.trans (hb1112.mono hb011.size)
  have hr3_12 := hr3_11.below hb1112 (by omega)
  have hr5_12 := hr5_11.below hb1112 (by omega)
  have hr6_12 := hr6_11.below hb1112 (by omega)
  have hr7_12 := hr7_11.below hb1112 (by omega)
  have hr8_12 := hr8_11.below hb1112 (by omega)
  clear hr3_11 hr5_11 hr6_11 hr7_11 hr8_11 hb011 hN11 hown12 hb12 hn12 hb1112 hlen
  go_wp2_with (fail)
  refine (turnsAny A12 n12 c12 _ al _ hr12 (by omega) (by omega)).mono ?_
  rintro e w13 ⟨v13, rfl, hown13, hb13⟩
  have hs13 := hb13.size
  have htl := turnsF_length al
  have hal := hr12.len
  have htb : (turnsF al).length ≤ 3000002 := by omega
  have hcel := cells_turn hown13
  obtain ⟨A13, c13, rfl, hc13⟩ := owns_form hown13
  generalize hTS : turnsF al = ts at *
  generalize hm : ts.length = m at *
  have HM := Lib.hid hm
  have HCE := Lib.hid hcel
  have hr3_13 := hr3_12.below hb13 (by omega)
  have hr5_13 := hr5_12.below hb13 (by omega)
  have hr6_13 := hr6_12.below hb13 (by omega)
  have hr7_13 := hr7_12.below hb13 (by omega)
  have hr8_13 := hr8_12.below hb13 (by omega)
  have hb013 : Below w.heap.size w w13 := hb012.trans (hb13.mono hb012.size)
  clear hr3_12 hr5_12 hr6_12 hr7_12 hr8_12 hb012 hN12 hb13 hown13 htl hal hTS hm hcel hr12
  go_wp2_with (fail)
  go_loopw [12, 13, 14, 63] (fun _ _ _ i wr => ∃ k : Nat, k ≤ m ∧ i = .int .i64 k ∧ Below w13.heap.size w13 wr) (fun _ _ _ i _ => m - (intOf i).toNat)
  case atStart => exact ⟨0, Nat.zero_le _, rfl, Below.refl _ _⟩
  case round =>
    obtain ⟨k, hk, rfl, hb⟩ := hrel
    have hsz := hb.size
    have hr3 := hr3_13.below hb (by omega)
    have hr5 := hr5_13.below hb (by omega)
    have hr6 := hr6_13.below hb (by omega)
    have hr7 := hr7_13.below hb (by omega)
    have hr8 := hr8_13.below hb (by omega)
    clear hr3_13 hr5_13 hr6_13 hr7_13 hr8_13
    by_cases hlt : k < m
    · obtain ⟨x, hx⟩ : ∃ x, ts[k]? = some x := ⟨ts[k]'(by rw [HM.out]; omega), List.getElem?_eq_getElem _⟩
      obtain ⟨g, cc, he, hgl, d0⟩ := HCE.out k x hx
      injection he with he1 he2 he3
      subst he1 he3
      replace d0 := cellk hb (p := ⟨g, k, none⟩) hgl d0
      have hin0 : (0 : Int) ≤ (k : Int) := by omega
      have hin1 : (k : Int) < (m : Int) := by omega
      have h6 := HH6.out x
      have h7 := HH7.out x
      have h8 := HH8.out x
      generalize hp : hasB ps x = p at *
      generalize hq : hasB bs x = q at *
      have HP := Lib.hid hp
      have HQ := Lib.hid hq
      have H6 := Lib.hid h6
      have H7 := Lib.hid h7
      have H8 := Lib.hid h8
      clear hx he2 hp hq h6 h7 h8
      cases p <;> cases q
      all_goals
        go_wp2_with (fail)
        refine (inAny x _ _ _ _ _ ps _ hr3 (by omega) (by omega) HP.out).mono ?_
        rintro e w14 ⟨rfl, hb14⟩
        have hs14 := hb14.size
        have hr5' := hr5.below hb14 (by omega)
        have hr6' := hr6.below hb14 (by omega)
        have hr7' := hr7.below hb14 (by omega)
        have hr8' := hr8.below hb14 (by omega)
        clear hr3 hr5 hr6 hr7 hr8
        go_wp2_with (fail)
        refine (inAny x _ _ _ _ _ bs _ hr5' (by omega) (by omega) HQ.out).mono ?_
        rintro e w15 ⟨rfl, hb15⟩
        have hs15 := hb15.size
        have hr6 := hr6'.below hb15 (by omega)
        have hr7 := hr7'.below hb15 (by omega)
        have hr8 := hr8'.below hb15 (by omega)
        clear hr5' hr6' hr7' hr8'
        go_wp2_with (fail)
        refine (inAny x _ _ _ _ _ zs6 _ hr6 (by omega) (by omega) H6.out).mono ?_
        rintro e w16 ⟨rfl, hb16⟩
        have hs16 := hb16.size
        have hr7' := hr7.below hb16 (by omega)
        have hr8' := hr8.below hb16 (by omega)
        clear hr6 hr7 hr8
        go_wp2_with (fail)
        refine (inAny x _ _ _ _ _ zs7 _ hr7' (by omega) (by omega) H7.out).mono ?_
        rintro e w17 ⟨rfl, hb17⟩
        have hs17 := hb17.size
        have hr8 := hr8'.below hb17 (by omega)
        clear hr7' hr8'
        go_wp2_with (fail)
        refine (inAny x _ _ _ _ _ zs8 _ hr8 (by omega) (by omega) H8.out).mono ?_
        rintro e w18 ⟨rfl, hb18⟩
        have hb' : Below w13.heap.size w13 w18 := hb.trans ((hb14.trans ((hb15.trans ((hb16.trans ((hb17.trans (hb18.mono hs17)).mono hs16)).mono hs15)).mono hs14)).mono hsz)
        clear hr8 hb hb14 hb15 hb16 hb17 hb18
        go_wp2_with (fail)
        exact ⟨⟨k + 1, by omega, by go_num, hb'⟩, by simp [intOf]; omega⟩
    · obtain rfl : k = m := by omega
      have hb0 : Below w.heap.size w wr := hb013.trans (hb.mono hb013.size)
      clear hr6 hr7 hr8 hb hb013
      go_wp2_with (fail)
      refine (of_set _ _ _ _ ps _ hr3 (by omega) (goodS_u64 HG3.out)).mono ?_
      rintro e w14 ⟨A14, n14, c14, fs, rfl, hc14, hr14, ⟨hg14, hh14, hn14⟩, hb14⟩
      have hs14 := hb14.size
      have hn14' : n14 ≤ 15 := by have := hr14.len; omega
      have hr3' := hr3.below hb14 (by omega)
      have hr5' := hr5.below hb14 (by omega)
      have HE : Hid (decide (ps = fs) = true) := Lib.hid (decide_eq_true (good_ext HG3.out hg14 fun t => (hh14 t).symm))
      clear hr3 hr5 hg14 hh14 hn14
      go_wp2_with (fail)
      refine (sameAny true _ _ _ _ _ _ _ _ ps fs _ hr3' hr14 (by omega) (by omega) HE.out).mono ?_
      rintro e w15 ⟨rfl, hb15⟩
      have hs15 := hb15.size
      have hr3 := hr3'.below hb15 (by omega)
      have hr5 := hr5'.below hb15 (by omega)
      clear hr3' hr5' hr14
      obtain ⟨v, hv⟩ : ∃ v, decide (ps = bs) = v := ⟨_, rfl⟩
      have HV := Lib.hid hv
      clear hv
      go_wp2_with (fail)
      refine (sameAny v _ _ _ _ _ _ _ _ ps bs _ hr3 hr5 (by omega) (by omega) HV.out).mono ?_
      rintro e w16 ⟨rfl, hb16⟩
      have hs16 := hb16.size
      have hr3' := hr3.below hb16 (by omega)
      have hr5' := hr5.below hb16 (by omega)
      clear hr3 hr5
      go_wp2_with (fail)
      refine (equalAny v _ _ _ _ _ _ _ _ ps bs _ hr3' hr5' (by omega) (by omega) HV.out).mono ?_
      rintro e w17 ⟨rfl, hb17⟩
      clear hr3' hr5'
      have hbe : (v == v) = true := by cases v <;> rfl
      go_wp2_with (fail)
      go_ret
      exact ⟨by simp, hb0.trans ((hb14.trans ((hb15.trans ((hb16.trans (hb17.mono hs16)).mono hs15)).mono hs14)).mono hb0.size)⟩
end Go.Proofs.YtccmalpbejednaaDoor
