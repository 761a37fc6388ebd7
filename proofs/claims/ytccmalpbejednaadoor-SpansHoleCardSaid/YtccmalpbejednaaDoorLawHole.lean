/- selionlaw02.SpansHole: a time that is taken out is out, all others stay; put back the set is as it was. No condition. -/
import Derived.Test.YtccmalpbejednaaDoorLawOf
import Derived.Test.YtccmalpbejednaaDoorLess2
import Derived.Test.YtccmalpbejednaaDoorSame2
namespace Go.Proofs.YtccmalpbejednaaDoor
open Go Go.Proofs Go.RowKit

theorem one_row {w : World} {g : Nat} {t : Int} {ty : TypeId} (h : w.heap[g]? = some (.cells #[.int .u64 t, .int .u64 t] ty (0, 0))) : SpanRow w w.heap.size (some ⟨g, 0, none⟩) 1 [(t, t)] := by
  refine ⟨rfl, .inr ⟨g, 0, rfl, (Array.getElem?_eq_some_iff.1 h).1, fun j s hj => ?_⟩⟩
  have := flat_cells (xs := [(t, t)]) h j s hj
  rwa [Nat.zero_add]
theorem one_u {t : Int} (h : U64 t) : AllU [(t, t)] := fun s hs => by
  obtain rfl : s = (t, t) := by simpa using hs
  exact ⟨h, h⟩
theorem inB_one (t k : Int) : inB t t k = decide (k = t) := by
  rw [Bool.eq_iff_iff, inB_iff, decide_eq_true_iff]; omega
set_option maxHeartbeats 4000000 in
set_option maxRecDepth 100000 in
theorem spansHole_any (A : Option Addr) (n c : Nat) (xs3 : List (Int × Int × Int)) (t : Int) (near : Bool) (w : World) (hN : NoneLaid w) (ha : SArg w A n xs3) (hnm : n ≤ maxLen) (ht : U64 t) :
    Calls Tryd.prog 9 #[.slice A n c, .int .u64 t, .bool near] w fun e w' => e = .returned (.bool true) ∧ Below w.heap.size w w' := by
  unfold maxLen at hnm
  obtain ⟨i0, hi, hz0, hz1, hz2⟩ := info_parts info_u64
  by_cases hbig : 20 < n
  · have hbig' : (20 : Int) < (n : Int) := by omega
    go_enter Tryd.func9, Tryd.ntmps9
    go_wp2_with (go_at_call 13; refine (awake2_any _ hN).mono ?_; rintro e w1 ⟨rfl, hb1⟩)
    go_ret
    exact ⟨rfl, hb1⟩
  · have hbig' : decide ((20 : Int) < (n : Int)) = false := by simp; omega
    have hHA := Lib.hid ha
    have ht0 : 0 ≤ t := ht.1
    clear ha
    go_enter Tryd.func9, Tryd.ntmps9
    go_wp2_with (go_at_call 13; refine (awake2_any _ hN).mono ?_; rintro e w1 ⟨rfl, hb1⟩)
    refine (make_row A n c xs3 _ (hHA.out.below hb1) (by omega)).mono ?_
    rintro e w2 ⟨A2, n2, c2, xs, rfl, hc2, hr2, hxs, hb2⟩
    have hnx : n2 = n := by
      have := hr2.len
      rw [hxs, List.length_map, hHA.out.1] at this
      exact this.symm
    have hux : AllU xs := by rw [hxs]; exact mkF_all hHA.out.2.1
    have hn2 : n2 ≤ 20 := by omega
    clear hxs hnx hHA
    go_wp2_with (fail)
    refine (of_set A2 n2 c2 _ xs _ hr2 (by omega) hux).mono ?_
    rintro e w3 ⟨A3, n3, c3, zs, rfl, hc3, hr3, ⟨hg3, hh3, hn3⟩, hb3⟩
    have hn3' : n3 ≤ 20 := by have := hr3.len; omega
    have hb03 : Below w.heap.size w w3 := hb1.trans ((hb2.trans (hb3.mono hb2.size)).mono hb1.size)
    have hN3 : NoneLaid w3 := hN.below hb03 hN.lt
    have HG3 := Lib.hid hg3
    clear hux hn3 hr2 hh3 hb1 hb2 hb3 hg3 hN
    have ht40 : U64 (t % 40) := by unfold U64; omega
    cases near
    rotate_left
    go_wp2_with (fail)
    generalize t % 40 = t' at *
    have hT : U64 t' := ht40
    clear ht0 ht40 ht
    rotate_left
    go_wp2_with (fail)
    generalize t = t' at *
    have hT : U64 t' := ht
    clear ht0 ht40 ht
    all_goals
      refine (of_set _ 1 1 _ [(t', t')] _ (one_row (heap_new_at (by simp))) (by omega) (one_u hT)).mono ?_
      rintro e w4 ⟨A4, n4, c4, os, rfl, hc4, hr4, ⟨hg4, hh4, hn4⟩, hb4⟩
      have hn4' : n4 ≤ 1 := by have := hr4.len; omega
      have hz4 := hb4.size
      simp at hz4
      have hb04 : Below w3.heap.size w3 w4 := ((Below.refl w3.heap.size w3).alloc (Nat.le_refl _) _).trans (hb4.mono (by simp))
      have hr34 := hr3.below hb04 (Nat.le_refl _)
      have HH4 := Lib.hid hh4
      have hN4 : NoneLaid w4 := hN3.below hb04 hN3.lt
      clear hh4 hn4
      have hpow : n3 * 2 ^ n4 ≤ 40 := by
        have h1 : 2 ^ n4 ≤ 2 ^ 1 := Nat.pow_le_pow_right (by omega) hn4'
        have h2 := Nat.mul_le_mul hn3' h1
        omega
      have HP := Lib.hid hpow
      clear hpow
      go_wp2_with (fail)
      refine (lessRow 40 A3 A4 n3 c3 n4 c4 _ _ zs os _ hN4 hr34 hr4 (Nat.le_refl _) HP.out (by omega) (by omega) (by omega) (goodS_u64 HG3.out) (goodS_u64 hg4)).mono ?_
      rintro e w5 ⟨A5, n5, c5, bs, rfl, hc5, hr5, ⟨hg5, hh5, hn5⟩, hb5⟩
      have hz5 := hb5.size
      have hn5' : n5 ≤ 40 := by have := hr5.len; omega
      have hb5' := hb5
      have hb05 : Below w3.heap.size w3 w5 := hb04.trans (hb5.mono hb04.size)
      have hr35 := hr3.below hb05 (Nat.le_refl _)
      have hr45 := hr4.below hb5 (Nat.le_refl _)
      have hh5' : ∀ k, hasB bs k = (hasB zs k && !decide (k = t')) := fun k => by rw [hh5]; simp only [HH4.out, hasB_one, inB_one]
      have HH5 := Lib.hid hh5'
      have HG5 := Lib.hid hg5
      have hs35 : w3.heap.size ≤ w5.heap.size := hb05.size
      clear hr3 hr34 hr4 hb04 hb4 hb5 hh5 hh5' hg5 hn5 hz4 hN3
      go_wp2_with (fail)
      refine (turnsAny A3 n3 c3 _ zs _ hr35 hs35 (by omega)).mono ?_
      rintro e w6 ⟨v6, rfl, hown6, hb6⟩
      have hz6 := hb6.size
      have htl := turnsF_length zs
      have hzl := hr35.len
      have htb : (turnsF zs).length ≤ 122 := by omega
      obtain ⟨A6, c6, rfl, hc6⟩ := owns_form hown6
      generalize hTS : turnsF zs = ts at *
      generalize hm : ts.length = m at *
      have HO6 := Lib.hid hown6
      have HM := Lib.hid hm
      clear htl hzl hTS hm hown6
      go_wp2_with (at_builtin; (refine wpList_append_own _ rfl (.tmp 32) (.tmp 37) 33 rfl w5.heap.size 29 i0 (.int .u64 0) 1 8 Tryd.underlying33 hi hz0 hz1 hz2 rfl (by decide) (.slice A6 m c6) m (ts.map (.int .u64)) rfl (HO6.out.alloc _) ⟨w6.heap.size, 0, none⟩ 2 2 [.int .u64 (IntKind.u64.wrap (t' - 1)), .int .u64 (IntKind.u64.wrap (t' + 1))] rfl rfl (World.news_of_block (cs := #[.int .u64 (IntKind.u64.wrap (t' - 1)), .int .u64 (IntKind.u64.wrap (t' + 1))]) (t := 29) (fr := (0, 0)) (heap_new_at rfl)) (by simp [Value.oneCell']) (by unfold maxLen; omega) (by omega) (by simp; omega) ?_; intro v7 w7 hown7 hgr7 _; obtain ⟨A7, c7, rfl, hc7⟩ := owns_form hown7))
      have hb57 : Below w5.heap.size w5 w7 := (hb6.alloc hz6 _).grown hgr7 (by simp; omega) (fun j hj => (HO6.out.lt j hj).1)
      have hcel := cells_turn (ts := ts ++ [IntKind.u64.wrap (t' - 1), IntKind.u64.wrap (t' + 1)]) (by rw [List.map_append]; exact hown7)
      have HM2 : Hid ((ts ++ [IntKind.u64.wrap (t' - 1), IntKind.u64.wrap (t' + 1)]).length = m + 2) := Lib.hid (by rw [List.length_append, HM.out]; rfl)
      generalize ts ++ [IntKind.u64.wrap (t' - 1), IntKind.u64.wrap (t' + 1)] = ks at *
      have hr37 := hr35.below hb57 hs35
      have hr47 := hr45.below hb57 hz5
      have hr57 := hr5.below hb57 (Nat.le_refl _)
      have hz7 := hb57.size
      have hb07 : Below w.heap.size w w7 := hb03.trans ((hb05.trans (hb57.mono hs35)).mono hb03.size)
      have hN7 : NoneLaid w7 := hN4.below (hb5'.trans (hb57.mono hz5)) hN4.lt
      have HC := Lib.hid hcel
      clear hcel hown7 hgr7 hr35 hr45 hr5 hb57 hb05 hb6 hb03 HO6 HM hb5'
      go_loopw [11, 40] (fun _ i wr => ∃ k : Nat, k ≤ m + 2 ∧ i = .int .i64 k ∧ Below w7.heap.size w7 wr) (fun _ i _ => m + 2 - (intOf i).toNat)
      case atStart => exact ⟨0, Nat.zero_le _, rfl, Below.refl _ _⟩
      case round =>
        obtain ⟨k, hk, rfl, hb⟩ := hrel
        have hsz := hb.size
        by_cases hlt : k < m + 2
        · obtain ⟨x, hx⟩ : ∃ x, ks[k]? = some x := ⟨ks[k]'(by rw [HM2.out]; omega), List.getElem?_eq_getElem _⟩
          obtain ⟨g, cc, he, hgl, d0⟩ := HC.out k x hx
          injection he with he1 he2 he3
          subst he1 he3
          replace d0 := cellk hb (p := ⟨g, k, none⟩) hgl d0
          have hin0 : (0 : Int) ≤ (k : Int) := by omega
          have hin1 : (k : Int) < ((m + 2 : Nat) : Int) := by omega
          clear hx he2
          by_cases hxt : x = t'
          · subst hxt
            go_wp2_with (fail)
            exact ⟨⟨k + 1, by omega, by go_num, hb⟩, by simp [intOf]; omega⟩
          · have hxb : (x == t') = false := by simpa using hxt
            obtain ⟨v, hv⟩ : ∃ v, hasB zs x = v := ⟨_, rfl⟩
            have hv5 : hasB bs x = v := by rw [HH5.out, hv, decide_eq_false hxt]; simp
            have HV := Lib.hid hv
            have HV5 := Lib.hid hv5
            have hX := hr37.below hb (by omega)
            have hZ := hr57.below hb (by omega)
            clear hv hv5
            go_wp2_with (fail)
            refine (setHas x v _ _ _ _ zs _ hX (by omega) (by omega) HV.out).mono ?_
            rintro e w8 ⟨rfl, hb8⟩
            have hz8 := hb8.size
            have hZ8 := hZ.below hb8 (by omega)
            clear hX hZ
            go_wp2_with (fail)
            refine (setHas x v _ _ _ _ bs _ hZ8 (by omega) (by omega) HV5.out).mono ?_
            rintro e w9 ⟨rfl, hb9⟩
            have hvv := bne_self' v
            clear hZ8
            go_wp2_with (fail)
            exact ⟨⟨k + 1, by omega, by go_num, hb.trans ((hb8.trans (hb9.mono hz8)).mono hsz)⟩, by simp [intOf]; omega⟩
        · obtain rfl : k = m + 2 := by omega
          have hX := hr37.below hb (by omega)
          have hY := hr47.below hb (by omega)
          have hZ := hr57.below hb (by omega)
          have hN' := hN7.below hb hN7.lt
          have hbs : hasB bs t' = false := by rw [HH5.out]; simp
          have HBS := Lib.hid hbs
          obtain ⟨v, hv⟩ : ∃ v, hasB zs t' = v := ⟨_, rfl⟩
          have HV := Lib.hid hv
          clear hbs hv hr37 hr47 hr57
          go_wp2_with (fail)
          refine (setHas t' false _ _ _ _ bs _ hZ (by omega) (by omega) HBS.out).mono ?_
          rintro e w8 ⟨rfl, hb8⟩
          have hz8 := hb8.size
          have hX8 := hX.below hb8 (by omega)
          have hY8 := hY.below hb8 (by omega)
          have hZ8 := hZ.below hb8 (by omega)
          clear hX hY hZ
          go_wp2_with (fail)
          refine (goodAny _ _ _ _ bs _ hZ8 (by omega) (by omega) HG5.out).mono ?_
          rintro e w9 ⟨rfl, hb9⟩
          have hz9 := hb9.size
          have hX9 := hX8.below hb9 (by omega)
          have hY9 := hY8.below hb9 (by omega)
          have hZ9 := hZ8.below hb9 (by omega)
          clear hX8 hY8 hZ8
          go_wp2_with (fail)
          refine (setHas t' v _ _ _ _ zs _ hX9 (by omega) (by omega) HV.out).mono ?_
          rintro e w10 ⟨rfl, hb10⟩
          have hz10 := hb10.size
          have hX10 := hX9.below hb10 (by omega)
          have hY10 := hY9.below hb10 (by omega)
          have hZ10 := hZ9.below hb10 (by omega)
          have hb010 : Below w.heap.size w w10 := hb07.trans ((hb.trans ((hb8.trans ((hb9.trans (hb10.mono hz9)).mono hz8)).mono hsz)).mono hb07.size)
          clear hX9 hY9 hZ9 hb hb8 hb9 hb10 hb07
          cases v with
          | false =>
            clear hX10 hY10 hZ10
            go_wp2_with (fail)
            go_ret
            exact ⟨rfl, hb010⟩
          | true =>
            go_wp2_with (fail)
            refine (joinAny _ _ _ _ _ _ _ _ bs os _ hZ10 hY10 (by omega) (by omega) (goodS_u64 HG5.out) (goodS_u64 hg4)).mono ?_
            rintro e w11 ⟨A11, n11, c11, js, rfl, hc11, hr11, ⟨hg11, hh11, hn11⟩, hb11⟩
            have hz11 := hb11.size
            have hn11' : n11 ≤ 41 := by have := hr11.len; omega
            have hX11 := hX10.below hb11 (by omega)
            have hjs : Hid (decide (js = zs) = true) := Lib.hid (decide_eq_true (good_ext hg11 HG3.out fun k => by
              rw [hh11]
              simp only [HH5.out, HH4.out, hasB_one, inB_one]
              by_cases hkt : k = t'
              · rw [hkt, HV.out]; simp
              · simp [hkt]))
            clear hX10 hY10 hZ10 hh11 hg11 hn11
            go_wp2_with (fail)
            refine (sameAny true _ _ _ _ _ _ _ _ js zs _ hr11 hX11 (by omega) (by omega) hjs.out).mono ?_
            rintro e w12 ⟨rfl, hb12⟩
            clear hr11 hX11
            go_wp2_with (fail)
            go_ret
            exact ⟨rfl, hb010.trans ((hb11.trans (hb12.mono hz11)).mono hb010.size)⟩
end Go.Proofs.YtccmalpbejednaaDoor
