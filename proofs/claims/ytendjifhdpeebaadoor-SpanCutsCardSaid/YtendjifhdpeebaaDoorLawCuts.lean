/- SpanCuts: the call answers true and leaves what was there as it was. Condition: the package's variable 'none' holds what its text lays. -/
import Derived.Test.YtendjifhdpeebaaDoorSpanLaws
import Derived.Test.YtendjifhdpeebaaDoorLaw1
import Derived.Test.YtendjifhdpeebaaDoorInv
namespace Go.Proofs.YtendjifhdpeebaaDoor
open Go Go.Proofs Go.RowKit

set_option maxHeartbeats 10000000 in
theorem spanCuts_any (lo hi near t : Int) (nr : Bool) (w : World) (hn : NoneLaid w) (h1 : 0 ≤ lo) (h2 : lo < 18446744073709551616) (h3 : 0 ≤ hi) (h4 : hi < 18446744073709551616) (h5 : 0 ≤ near) (h6 : near < 256)
    (ht1 : 0 ≤ t) (ht2 : t < 18446744073709551616) :
    Calls Tryd.prog 4 #[.agg #[.int .u64 lo, .int .u64 hi, .int .u8 near], .int .u64 t, .bool nr] w fun e w' => e = .returned (.bool true) ∧ Below w.heap.size w w' := by
  cases nr
  all_goals
    go_enter Tryd.func4, Tryd.ntmps4
    go_wp2_with (first
      | (go_at_call 9; refine (awake_any _ (hn.next (by repeat (first | exact Below.refl _ _ | assumption | refine Below.drew ?_ | refine Below.setCell ?_ (by first | (simp; done) | omega | (simp; omega)) _ | refine Below.alloc ?_ (by first | (simp; done) | omega | (simp; omega)) _ | refine bdrewN ?_ _ | refine bstep ?_ (by assumption) (by first | (simp; done) | omega | (simp; omega)))))).mono ?_; rintro e w1 ⟨rfl, hb1⟩; have hz1 := hb1.size; (try simp at hz1); have hx1_0 : w1.cell? ⟨w.heap.size, 0, none⟩ = some (.int .u64 lo) := cellk hb1 (by first | (simp; done) | (simp; omega) | omega) (by first | assumption | (simp; done) | (simp; assumption) | (go_simp; done)); have hy1_0 : w1.frozen? ⟨w.heap.size, 0, none⟩ = false := frzk hb1 (by first | (simp; done) | (simp; omega) | omega) (by first | assumption | (simp; done) | (simp; assumption) | (go_simp; done)); have hx1_1 : w1.cell? ⟨w.heap.size, 1, none⟩ = some (.int .u64 hi) := cellk hb1 (by first | (simp; done) | (simp; omega) | omega) (by first | assumption | (simp; done) | (simp; assumption) | (go_simp; done)); have hy1_1 : w1.frozen? ⟨w.heap.size, 1, none⟩ = false := frzk hb1 (by first | (simp; done) | (simp; omega) | omega) (by first | assumption | (simp; done) | (simp; assumption) | (go_simp; done)); have hx1_2 : w1.cell? ⟨w.heap.size, 2, none⟩ = some (.int .u8 near) := cellk hb1 (by first | (simp; done) | (simp; omega) | omega) (by first | assumption | (simp; done) | (simp; assumption) | (go_simp; done)); have hy1_2 : w1.frozen? ⟨w.heap.size, 2, none⟩ = false := frzk hb1 (by first | (simp; done) | (simp; omega) | omega) (by first | assumption | (simp; done) | (simp; assumption) | (go_simp; done)))
      | (go_at_call 10; refine (make_some _ _ _ _ h1 h2 h3 h4 h5 h6).mono ?_; rintro e w2 ⟨a, b, ⟨⟨ha1, ha2⟩, hb1', hb2'⟩, rfl, hb2⟩; have hz2 := hb2.size))
  have hu : U64 t := ⟨ht1, ht2⟩
  obtain ⟨u, rfl⟩ : ∃ u, u = t := ⟨t, rfl⟩
  rotate_left
  have hu : U64 (t % 32) := by unfold U64; omega
  generalize t % 32 = u at hu ⊢
  rotate_left
  all_goals
    have hB2 : Below w.heap.size w w2 := by repeat (first | exact Below.refl _ _ | assumption | refine Below.drew ?_ | refine Below.setCell ?_ (by first | (simp; done) | omega | (simp; omega)) _ | refine Below.alloc ?_ (by first | (simp; done) | omega | (simp; omega)) _ | refine bdrewN ?_ _ | refine bstep ?_ (by assumption) (by first | (simp; done) | omega | (simp; omega)))
    have hn2 := hn.next hB2
    obtain ⟨W, hW⟩ : ∃ W, W = w2.alloc (.cells #[.int .u64 a, .int .u64 b] 27) := ⟨_, rfl⟩
    have hd0 : W.cell? ⟨w2.heap.size, 0, none⟩ = some (.int .u64 a) := by rw [hW]; simp
    have hd1 : W.cell? ⟨w2.heap.size, 1, none⟩ = some (.int .u64 b) := by rw [hW]; simp
    have hlW : w2.heap.size < W.heap.size := by rw [hW]; simp
    have hNW : NoneLaid W := by rw [hW]; exact hn2.alloc _
    have hBW : Below w.heap.size w W := by rw [hW]; exact hB2.alloc hB2.size _
    rw [← hW]
    obtain ⟨hu1, hu2⟩ := hu
    clear hb1 hb2 hx1_0 hx1_1 hx1_2 hy1_0 hy1_1 hy1_2 hn hn2 hB2 hz1 hz2 hW h1 h2 h3 h4 h5 h6
    go_cut [8, 9] (fun s8 s9 wx => ∃ g8 g9 : Nat, s8 = .pointer (some ⟨g8, 0, none⟩) ∧ s9 = .pointer (some ⟨g9, 0, none⟩) ∧ Below W.heap.size W wx ∧
      wx.cell? ⟨g8, 0, none⟩ = some (.int .u64 (aboveF a b u).1) ∧ wx.cell? ⟨g8, 1, none⟩ = some (.int .u64 (aboveF a b u).2) ∧ wx.cell? ⟨g9, 0, none⟩ = some (.int .u64 (belowF a b u).1) ∧ wx.cell? ⟨g9, 1, none⟩ = some (.int .u64 (belowF a b u).2))
    case first =>
      refine wp_region_steps 8 (fun sq => match sq with | 19 => .agg #[.int .u64 a, .int .u64 b] | 20 => .int .u64 u | 21 => .agg #[.int .u64 (aboveF a b u).1, .int .u64 (aboveF a b u).2] | 22 => .agg #[.int .u64 a, .int .u64 b] | 23 => .int .u64 u | 24 => .agg #[.int .u64 (belowF a b u).1, .int .u64 (belowF a b u).2] | _ => undef) (fun sq => match sq with | 8 => some (#[.int .u64 0, .int .u64 0], 27) | 9 => some (#[.int .u64 0, .int .u64 0], 27) | _ => none) (by kernel_rfl) (by kernel_rfl) (by kernel_rfl) (by kernel_rfl) rfl (steps_succ (steps_succ (steps_succ (steps_succ (steps_succ (steps_succ (steps_succ (steps_succ steps_zero ?_) ?_) ?_) ?_) ?_) ?_) ?_) ?_) ?_
      · intro o aa ww ho hG hold hnew K hK
        obtain rfl := Option.some.inj ho
        have s7 : aa.tmps[7]? = some (.pointer (some ⟨w2.heap.size, 0, none⟩)) := hold 7 rfl
        clear hold hnew
        have c0 := cellk hG hlW hd0; have c1 := cellk hG hlW hd1
        go_simp
        refine hK _ _ (Below.refl _ _) (fun sq hsq => ?_)
        obtain rfl := Option.some.inj hsq
        exact ⟨(show (_ : Value) = (.agg #[.int .u64 a, .int .u64 b]) from (by first | rfl | (simp [*]; done))), fun h => absurd rfl h⟩
      · intro o aa ww ho hG hold hnew K hK
        obtain rfl := Option.some.inj ho
        have s1 : aa.tmps[1]? = some (.int .u64 u) := hold 1 rfl
        clear hold hnew
        go_simp
        refine hK _ _ (Below.refl _ _) (fun sq hsq => ?_)
        obtain rfl := Option.some.inj hsq
        exact ⟨(show (_ : Value) = (.int .u64 u) from (by first | rfl | (simp [*]; done))), fun h => absurd rfl h⟩
      · intro o aa ww ho hG hold hnew K hK
        obtain rfl := Option.some.inj ho
        obtain ⟨x19, s19, e19⟩ := hnew 19 (by kernel_rfl)
        obtain rfl : x19 = (.agg #[.int .u64 a, .int .u64 b]) := e19
        obtain ⟨x20, s20, e20⟩ := hnew 20 (by kernel_rfl)
        obtain rfl : x20 = (.int .u64 u) := e20
        clear hold hnew
        go_simp
        refine (above_any _ _ _ _ (hNW.below hG hNW.lt) hu1 hb2').mono ?_; rintro e w3 ⟨rfl, hbb⟩
        refine hK _ _ hbb (fun sq hsq => ?_)
        obtain rfl := Option.some.inj hsq
        exact ⟨(show (_ : Value) = (.agg #[.int .u64 (aboveF a b u).1, .int .u64 (aboveF a b u).2]) from (by first | rfl | (simp [*]; done))), fun h => absurd rfl h⟩
      · intro o aa ww ho hG hold hnew K hK
        obtain rfl := Option.some.inj ho
        have s7 : aa.tmps[7]? = some (.pointer (some ⟨w2.heap.size, 0, none⟩)) := hold 7 rfl
        clear hold hnew
        have c0 := cellk hG hlW hd0; have c1 := cellk hG hlW hd1
        go_simp
        refine hK _ _ (Below.refl _ _) (fun sq hsq => ?_)
        obtain rfl := Option.some.inj hsq
        exact ⟨(show (_ : Value) = (.agg #[.int .u64 a, .int .u64 b]) from (by first | rfl | (simp [*]; done))), fun h => absurd rfl h⟩
      · intro o aa ww ho hG hold hnew K hK
        obtain rfl := Option.some.inj ho
        have s1 : aa.tmps[1]? = some (.int .u64 u) := hold 1 rfl
        clear hold hnew
        go_simp
        refine hK _ _ (Below.refl _ _) (fun sq hsq => ?_)
        obtain rfl := Option.some.inj hsq
        exact ⟨(show (_ : Value) = (.int .u64 u) from (by first | rfl | (simp [*]; done))), fun h => absurd rfl h⟩
      · intro o aa ww ho hG hold hnew K hK
        obtain rfl := Option.some.inj ho
        obtain ⟨x22, s22, e22⟩ := hnew 22 (by kernel_rfl)
        obtain rfl : x22 = (.agg #[.int .u64 a, .int .u64 b]) := e22
        obtain ⟨x23, s23, e23⟩ := hnew 23 (by kernel_rfl)
        obtain rfl : x23 = (.int .u64 u) := e23
        clear hold hnew
        go_simp
        refine (below_any _ _ _ _ (hNW.below hG hNW.lt) hu2 ha1).mono ?_; rintro e w3 ⟨rfl, hbb⟩
        refine hK _ _ hbb (fun sq hsq => ?_)
        obtain rfl := Option.some.inj hsq
        exact ⟨(show (_ : Value) = (.agg #[.int .u64 (belowF a b u).1, .int .u64 (belowF a b u).2]) from (by first | rfl | (simp [*]; done))), fun h => absurd rfl h⟩
      · intro o aa ww ho hG hold hnew K hK
        obtain rfl := Option.some.inj ho
        clear hold hnew
        go_simp
        refine hK _ _ ((Below.refl _ _).alloc (Nat.le_refl _) _) (fun sq hsq => ?_)
        obtain rfl := Option.some.inj hsq
        exact ⟨⟨_, rfl, hG.size, heap_new_at rfl⟩, fun _ g hg => by injection hg with hg; injection hg with hg; injection hg with hg; omega⟩
      · intro o aa ww ho hG hold hnew K hK
        obtain rfl := Option.some.inj ho
        clear hold hnew
        go_simp
        refine hK _ _ ((Below.refl _ _).alloc (Nat.le_refl _) _) (fun sq hsq => ?_)
        obtain rfl := Option.some.inj hsq
        exact ⟨⟨_, rfl, hG.size, heap_new_at rfl⟩, fun _ g hg => by injection hg with hg; injection hg with hg; injection hg with hg; omega⟩
      · intro U ww hbr hU hI
        have u19 : U 19 = (.agg #[.int .u64 a, .int .u64 b]) := hU 19 rfl
        have u20 : U 20 = (.int .u64 u) := hU 20 rfl
        have u21 : U 21 = (.agg #[.int .u64 (aboveF a b u).1, .int .u64 (aboveF a b u).2]) := hU 21 rfl
        have u22 : U 22 = (.agg #[.int .u64 a, .int .u64 b]) := hU 22 rfl
        have u23 : U 23 = (.int .u64 u) := hU 23 rfl
        have u24 : U 24 = (.agg #[.int .u64 (belowF a b u).1, .int .u64 (belowF a b u).2]) := hU 24 rfl
        obtain ⟨g8, u8, hg8, hk8⟩ : ∃ g, U 8 = .pointer (some ⟨g, 0, none⟩) ∧ _ ≤ g ∧ ww.heap[g]? = some (.cells (#[.int .u64 0, .int .u64 0]) (27) (0, 0)) := hU 8 rfl
        obtain ⟨g9, u9, hg9, hk9⟩ : ∃ g, U 9 = .pointer (some ⟨g, 0, none⟩) ∧ _ ≤ g ∧ ww.heap[g]? = some (.cells (#[.int .u64 0, .int .u64 0]) (27) (0, 0)) := hU 9 rfl
        have hi8_0 : ww.cell? ⟨g8, 0, none⟩ = some (.int .u64 0) := cellH hk8 rfl
        have hj8_0 := frzH (i := 0) hk8
        have hi8_1 : ww.cell? ⟨g8, 1, none⟩ = some (.int .u64 0) := cellH hk8 rfl
        have hj8_1 := frzH (i := 1) hk8
        have hi9_0 : ww.cell? ⟨g9, 0, none⟩ = some (.int .u64 0) := cellH hk9 rfl
        have hj9_0 := frzH (i := 0) hk9
        have hi9_1 : ww.cell? ⟨g9, 1, none⟩ = some (.int .u64 0) := cellH hk9 rfl
        have hj9_1 := frzH (i := 1) hk9
        have n8_9 : g8 ≠ g9 := fun e => hI 8 9 rfl rfl (by decide) (by intro h; cases h) (by intro h; cases h) (by rw [u8, u9, e])
        have n9_8 : g9 ≠ g8 := Ne.symm n8_9
        clear hU hI
        simp only [setAll, dsts, List.take_succ_cons, List.take_zero, List.filterMap_cons, List.filterMap_nil, List.drop_succ_cons, List.drop_zero, List.setIfInBounds_toArray, List.set_cons_succ, List.set_cons_zero, u19, u20, u21, u22, u23, u24, u8, u9]
        clear u19 u20 u21 u22 u23 u24 u8 u9
        go_wp2_with (fail)
        go_meet
        refine ⟨g8, g9, rfl, rfl, ?_, ?_, ?_, ?_, ?_⟩
        · repeat (first | exact Below.refl _ _ | assumption | refine Below.drew ?_ | refine Below.setCell ?_ (by first | (simp; done) | omega | (simp; omega)) _ | refine Below.alloc ?_ (by first | (simp; done) | omega | (simp; omega)) _ | refine bdrewN ?_ _ | refine bstep ?_ (by assumption) (by first | (simp; done) | omega | (simp; omega)))
        all_goals go_simp
    case rest =>
      obtain ⟨g8, g9, rfl, rfl, hbx, c80, c81, c90, c91⟩ := hcut
      have hd0' := cellk hbx hlW hd0
      have hd1' := cellk hbx hlW hd1
      have hBx : Below w.heap.size w wc := hBW.trans (hbx.mono hBW.size)
      have hzx := hBx.size
      have hlx := World.block_lt_of_cell? _ _ hd0'
      have hl8 := World.block_lt_of_cell? _ _ c80
      have hl9 := World.block_lt_of_cell? _ _ c90
      have hA := aboveF_in a b u
      have hP := belowF_in a b u
      have hAp := aboveF_plain a b u
      have hPp := belowF_plain a b u
      have hAu := aboveF_u64 (lo := a) (hi := b) (t := u) ⟨ha1, ha2⟩ ⟨hb1', hb2'⟩ ⟨hu1, hu2⟩
      have hPu := belowF_u64 (lo := a) (hi := b) (t := u) ⟨ha1, ha2⟩ ⟨hb1', hb2'⟩ ⟨hu1, hu2⟩
      generalize aboveF a b u = sa at *
      generalize belowF a b u = sb at *
      obtain ⟨c, d⟩ := sa
      obtain ⟨p, q⟩ := sb
      simp only at c80 c81 c90 c91 hA hP hAp hPp hAu hPu
      obtain ⟨⟨hAu1, hAu2⟩, hAu3, hAu4⟩ := hAu
      obtain ⟨⟨hPu1, hPu2⟩, hPu3, hPu4⟩ := hPu
      have HA := Lib.hid hA
      have HP := Lib.hid hP
      clear hA hP hNW hbx hd0 hd1 hlW hBW
      go_wp2_with (first
        | (go_at_call 11; refine (times_any u _ 3 3 [(a, b), (c, d), (p, q)] _ ⟨hu1, hu2⟩ (by simp) rfl (by omega) (flat_cells (heap_new_at (by simp))) (by simp; omega)).mono ?_; rintro e w3 ⟨v3, ks, rfl, hown3, hks, hlen3, hb3⟩; have HL := Lib.hid hlen3; have hll : 0 < ks.length := (by omega); have hlu : ks.length ≤ 1000 := (by omega); clear hlen3; obtain ⟨A3, c3, rfl, hc3⟩ := owns_form hown3; obtain ⟨g3, rfl, hg3, hg3', hcell3⟩ := owns_at hown3 hll; have hz3 := hb3.size; simp at hz3; have hx3_0 : w3.cell? ⟨w2.heap.size, 0, none⟩ = some (.int .u64 a) := cellk hb3 (by first | (simp; done) | (simp; omega) | omega) (by first | assumption | (simp; done) | (simp; assumption) | (go_simp; done)); have hx3_1 : w3.cell? ⟨w2.heap.size, 1, none⟩ = some (.int .u64 b) := cellk hb3 (by first | (simp; done) | (simp; omega) | omega) (by first | assumption | (simp; done) | (simp; assumption) | (go_simp; done)); have hx3_2 : w3.cell? ⟨g8, 0, none⟩ = some (.int .u64 c) := cellk hb3 (by first | (simp; done) | (simp; omega) | omega) (by first | assumption | (simp; done) | (simp; assumption) | (go_simp; done)); have hx3_3 : w3.cell? ⟨g8, 1, none⟩ = some (.int .u64 d) := cellk hb3 (by first | (simp; done) | (simp; omega) | omega) (by first | assumption | (simp; done) | (simp; assumption) | (go_simp; done)); have hx3_4 : w3.cell? ⟨g9, 0, none⟩ = some (.int .u64 p) := cellk hb3 (by first | (simp; done) | (simp; omega) | omega) (by first | assumption | (simp; done) | (simp; assumption) | (go_simp; done)); have hx3_5 : w3.cell? ⟨g9, 1, none⟩ = some (.int .u64 q) := cellk hb3 (by first | (simp; done) | (simp; omega) | omega) (by first | assumption | (simp; done) | (simp; assumption) | (go_simp; done))))
      have hB3 : Below w.heap.size w w3 := by repeat (first | exact Below.refl _ _ | assumption | refine Below.drew ?_ | refine Below.setCell ?_ (by first | (simp; done) | omega | (simp; omega)) _ | refine Below.alloc ?_ (by first | (simp; done) | omega | (simp; omega)) _ | refine bdrewN ?_ _ | refine bstep ?_ (by assumption) (by first | (simp; done) | omega | (simp; omega)))
      have hlx3 := World.block_lt_of_cell? _ _ hx3_0
      have hl83 := World.block_lt_of_cell? _ _ hx3_2
      have hl93 := World.block_lt_of_cell? _ _ hx3_4
      simp only at hlx3 hl83 hl93
      clear hb3 hown3 hc3 c80 c81 c90 c91 hd0' hd1' hBx hlx hl8 hl9
      go_loopw [32] (fun i wr => ∃ k : Nat, k ≤ ks.length ∧ i = .int .i64 k ∧ Below w3.heap.size w3 wr) (fun i _ => ks.length - (intOf i).toNat)
      case atStart => exact ⟨0, Nat.zero_le _, rfl, Below.refl _ _⟩
      case round =>
        obtain ⟨k, hk, rfl, hb⟩ := hrel
        have hsz := hb.size
        have hd0 := cellk hb (p := ⟨w2.heap.size, 0, none⟩) hlx3 hx3_0
        have hd1 := cellk hb (p := ⟨w2.heap.size, 1, none⟩) hlx3 hx3_1
        have hd2 := cellk hb (p := ⟨g8, 0, none⟩) hl83 hx3_2
        have hd3 := cellk hb (p := ⟨g8, 1, none⟩) hl83 hx3_3
        have hd4 := cellk hb (p := ⟨g9, 0, none⟩) hl93 hx3_4
        have hd5 := cellk hb (p := ⟨g9, 1, none⟩) hl93 hx3_5
        clear hx3_0 hx3_1 hx3_2 hx3_3 hx3_4 hx3_5
        by_cases hlt : k < ks.length
        · have hs : ks[k]? = some ks[k] := List.getElem?_eq_getElem hlt
          have hc := hcell3 k (.int .u64 ks[k]) (by rw [List.getElem?_map, hs]; rfl)
          have hdk := cellk hb (p := ⟨g3, k, none⟩) hg3' hc
          have hx1 := hks _ (List.getElem_mem hlt)
          generalize ks[k] = s at hc hx1 hs hdk
          have hin0 : (0 : Int) ≤ (k : Int) := by omega
          have hin1 : (k : Int) < (ks.length : Int) := by omega
          have hA := HA.out s
          have hP := HP.out s
          have hq7 : w2.heap.size < wr.heap.size := by omega
          have hq8 : g8 < wr.heap.size := by omega
          have hq9 : g9 < wr.heap.size := by omega
          clear hcell3 hks hc hs HA HP HL
          obtain ⟨X, hX⟩ : ∃ X, inB a b s = X := ⟨_, rfl⟩
          obtain ⟨Y, hY⟩ : ∃ Y, decide (u < s) = Y := ⟨_, rfl⟩
          obtain ⟨Z, hZ⟩ : ∃ Z, decide (s < u) = Z := ⟨_, rfl⟩
          rw [hX, hY] at hA
          rw [hX, hZ] at hP
          rcases Bool.eq_false_or_eq_true X with hXv | hXv
          all_goals
            rw [hXv] at hA hP
            simp only [Bool.true_and, Bool.false_and] at hA hP
            have HX := Lib.hid (hX.trans hXv)
            have HA := Lib.hid hA
            have HP := Lib.hid hP
            clear hX hA hP
            go_wp2_with (fail)
            refine wp_region_steps 26 (fun sq => match sq with | 36 => .agg #[.int .u64 c, .int .u64 d] | 37 => .int .u64 s | 38 => .bool (X && Y) | 39 => .agg #[.int .u64 a, .int .u64 b] | 40 => .int .u64 s | 41 => .bool X | 42 => .bool X | 43 => if X then .int .u64 s else undef | 44 => if X then .int .u64 u else undef | 45 => if X then .bool Y else undef | 46 => .bool (X && Y) | 47 => .bool false | 48 => .bool false | 49 => .agg #[.int .u64 p, .int .u64 q] | 50 => .int .u64 s | 51 => .bool (X && Z) | 52 => .agg #[.int .u64 a, .int .u64 b] | 53 => .int .u64 s | 54 => .bool X | 55 => .bool X | 56 => if X then .int .u64 s else undef | 57 => if X then .int .u64 u else undef | 58 => if X then .bool Z else undef | 59 => .bool (X && Z) | 60 => .bool false | 61 => .bool false | _ => undef) (fun sq => match sq with  | _ => none) (by kernel_rfl) (by kernel_rfl) (by kernel_rfl) (by kernel_rfl) rfl (steps_succ (steps_succ (steps_succ (steps_succ (steps_succ (steps_succ (steps_succ (steps_succ (steps_succ (steps_succ (steps_succ (steps_succ (steps_succ (steps_succ (steps_succ (steps_succ (steps_succ (steps_succ (steps_succ (steps_succ (steps_succ (steps_succ (steps_succ (steps_succ (steps_succ (steps_succ steps_zero ?_) ?_) ?_) ?_) ?_) ?_) ?_) ?_) ?_) ?_) ?_) ?_) ?_) ?_) ?_) ?_) ?_) ?_) ?_) ?_) ?_) ?_) ?_) ?_) ?_) ?_) ?_
            · intro o aa ww ho hG hold hnew K hK
              obtain rfl := Option.some.inj ho
              have s8 : aa.tmps[8]? = some (.pointer (some ⟨g8, 0, none⟩)) := hold 8 rfl
              clear hold hnew
              have c0 := cellk hG hq8 hd2; have c1 := cellk hG hq8 hd3
              go_simp
              refine hK _ _ (Below.refl _ _) (fun sq hsq => ?_)
              obtain rfl := Option.some.inj hsq
              exact ⟨(show (_ : Value) = (.agg #[.int .u64 c, .int .u64 d]) from (by first | rfl | (simp [*]; done))), fun h => absurd rfl h⟩
            · intro o aa ww ho hG hold hnew K hK
              obtain rfl := Option.some.inj ho
              have s11 : aa.tmps[11]? = some (.int .u64 s) := hold 11 rfl
              clear hold hnew
              go_simp
              refine hK _ _ (Below.refl _ _) (fun sq hsq => ?_)
              obtain rfl := Option.some.inj hsq
              exact ⟨(show (_ : Value) = (.int .u64 s) from (by first | rfl | (simp [*]; done))), fun h => absurd rfl h⟩
            · intro o aa ww ho hG hold hnew K hK
              obtain rfl := Option.some.inj ho
              obtain ⟨x36, s36, e36⟩ := hnew 36 (by kernel_rfl)
              obtain rfl : x36 = (.agg #[.int .u64 c, .int .u64 d]) := e36
              obtain ⟨x37, s37, e37⟩ := hnew 37 (by kernel_rfl)
              obtain rfl : x37 = (.int .u64 s) := e37
              clear hold hnew
              go_simp
              refine (in_is _ _ _ _ HA.out _).mono ?_; rintro e w3 ⟨rfl, hbb⟩
              refine hK _ _ hbb (fun sq hsq => ?_)
              obtain rfl := Option.some.inj hsq
              exact ⟨(show (_ : Value) = (.bool (X && Y)) from (by first | rfl | (simp [*]; done))), fun h => absurd rfl h⟩
            · intro o aa ww ho hG hold hnew K hK
              obtain rfl := Option.some.inj ho
              have s7 : aa.tmps[7]? = some (.pointer (some ⟨w2.heap.size, 0, none⟩)) := hold 7 rfl
              clear hold hnew
              have c0 := cellk hG hq7 hd0; have c1 := cellk hG hq7 hd1
              go_simp
              refine hK _ _ (Below.refl _ _) (fun sq hsq => ?_)
              obtain rfl := Option.some.inj hsq
              exact ⟨(show (_ : Value) = (.agg #[.int .u64 a, .int .u64 b]) from (by first | rfl | (simp [*]; done))), fun h => absurd rfl h⟩
            · intro o aa ww ho hG hold hnew K hK
              obtain rfl := Option.some.inj ho
              have s11 : aa.tmps[11]? = some (.int .u64 s) := hold 11 rfl
              clear hold hnew
              go_simp
              refine hK _ _ (Below.refl _ _) (fun sq hsq => ?_)
              obtain rfl := Option.some.inj hsq
              exact ⟨(show (_ : Value) = (.int .u64 s) from (by first | rfl | (simp [*]; done))), fun h => absurd rfl h⟩
            · intro o aa ww ho hG hold hnew K hK
              obtain rfl := Option.some.inj ho
              obtain ⟨x39, s39, e39⟩ := hnew 39 (by kernel_rfl)
              obtain rfl : x39 = (.agg #[.int .u64 a, .int .u64 b]) := e39
              obtain ⟨x40, s40, e40⟩ := hnew 40 (by kernel_rfl)
              obtain rfl : x40 = (.int .u64 s) := e40
              clear hold hnew
              go_simp
              refine (in_is _ _ _ _ HX.out _).mono ?_; rintro e w3 ⟨rfl, hbb⟩
              refine hK _ _ hbb (fun sq hsq => ?_)
              obtain rfl := Option.some.inj hsq
              exact ⟨(show (_ : Value) = (.bool X) from (by first | rfl | (simp [*]; done))), fun h => absurd rfl h⟩
            · intro o aa ww ho hG hold hnew K hK
              obtain rfl := Option.some.inj ho
              obtain ⟨x41, s41, e41⟩ := hnew 41 (by kernel_rfl)
              obtain rfl : x41 = (.bool X) := e41
              clear hold hnew
              go_simp
              refine hK _ _ (Below.refl _ _) (fun sq hsq => ?_)
              obtain rfl := Option.some.inj hsq
              exact ⟨(show (_ : Value) = (.bool X) from (by first | rfl | (simp [*]; done))), fun h => absurd rfl h⟩
            · intro o aa ww ho hG hold hnew K hK
              obtain rfl := Option.some.inj ho
              have s11 : aa.tmps[11]? = some (.int .u64 s) := hold 11 rfl
              obtain ⟨x42, s42, e42⟩ := hnew 42 (by kernel_rfl)
              obtain rfl : x42 = (.bool X) := e42
              clear hold hnew
              go_simp
              refine hK _ _ (Below.refl _ _) (fun sq hsq => ?_)
              obtain rfl := Option.some.inj hsq
              exact ⟨(show (_ : Value) = (if X then .int .u64 s else undef) from (by first | rfl | (simp [*]; done))), fun h => absurd rfl h⟩
            · intro o aa ww ho hG hold hnew K hK
              obtain rfl := Option.some.inj ho
              have s1 : aa.tmps[1]? = some (.int .u64 u) := hold 1 rfl
              obtain ⟨x42, s42, e42⟩ := hnew 42 (by kernel_rfl)
              obtain rfl : x42 = (.bool X) := e42
              clear hold hnew
              go_simp
              refine hK _ _ (Below.refl _ _) (fun sq hsq => ?_)
              obtain rfl := Option.some.inj hsq
              exact ⟨(show (_ : Value) = (if X then .int .u64 u else undef) from (by first | rfl | (simp [*]; done))), fun h => absurd rfl h⟩
            · intro o aa ww ho hG hold hnew K hK
              obtain rfl := Option.some.inj ho
              obtain ⟨x42, s42, e42⟩ := hnew 42 (by kernel_rfl)
              obtain rfl : x42 = (.bool X) := e42
              obtain ⟨x43, s43, e43⟩ := hnew 43 (by kernel_rfl)
              obtain rfl : x43 = (if X then .int .u64 s else undef) := e43
              obtain ⟨x44, s44, e44⟩ := hnew 44 (by kernel_rfl)
              obtain rfl : x44 = (if X then .int .u64 u else undef) := e44
              clear hold hnew
              go_simp
              refine hK _ _ (Below.refl _ _) (fun sq hsq => ?_)
              obtain rfl := Option.some.inj hsq
              exact ⟨(show (_ : Value) = (if X then .bool Y else undef) from (by first | rfl | (simp [*]; done))), fun h => absurd rfl h⟩
            · intro o aa ww ho hG hold hnew K hK
              obtain rfl := Option.some.inj ho
              obtain ⟨x42, s42, e42⟩ := hnew 42 (by kernel_rfl)
              obtain rfl : x42 = (.bool X) := e42
              obtain ⟨x45, s45, e45⟩ := hnew 45 (by kernel_rfl)
              obtain rfl : x45 = (if X then .bool Y else undef) := e45
              clear hold hnew
              go_simp
              refine hK _ _ (Below.refl _ _) (fun sq hsq => ?_)
              obtain rfl := Option.some.inj hsq
              exact ⟨(show (_ : Value) = (.bool (X && Y)) from (by first | rfl | (simp [*]; done))), fun h => absurd rfl h⟩
            · intro o aa ww ho hG hold hnew K hK
              obtain rfl := Option.some.inj ho
              obtain ⟨x38, s38, e38⟩ := hnew 38 (by kernel_rfl)
              obtain rfl : x38 = (.bool (X && Y)) := e38
              obtain ⟨x46, s46, e46⟩ := hnew 46 (by kernel_rfl)
              obtain rfl : x46 = (.bool (X && Y)) := e46
              clear hold hnew
              go_simp
              refine hK _ _ (Below.refl _ _) (fun sq hsq => ?_)
              obtain rfl := Option.some.inj hsq
              exact ⟨(show (_ : Value) = (.bool false) from (by first | rfl | (simp [*]; done))), fun h => absurd rfl h⟩
            · intro o aa ww ho hG hold hnew K hK
              obtain rfl := Option.some.inj ho
              obtain ⟨x47, s47, e47⟩ := hnew 47 (by kernel_rfl)
              obtain rfl : x47 = (.bool false) := e47
              clear hold hnew
              go_simp
              refine hK _ _ (Below.refl _ _) (fun sq hsq => ?_)
              obtain rfl := Option.some.inj hsq
              exact ⟨(show (_ : Value) = (.bool false) from (by first | rfl | (simp [*]; done))), fun h => absurd rfl h⟩
            · intro o aa ww ho hG hold hnew K hK
              obtain rfl := Option.some.inj ho
              have s9 : aa.tmps[9]? = some (.pointer (some ⟨g9, 0, none⟩)) := hold 9 rfl
              obtain ⟨x48, s48, e48⟩ := hnew 48 (by kernel_rfl)
              obtain rfl : x48 = (.bool false) := e48
              clear hold hnew
              have c0 := cellk hG hq9 hd4; have c1 := cellk hG hq9 hd5
              go_simp
              refine hK _ _ (Below.refl _ _) (fun sq hsq => ?_)
              obtain rfl := Option.some.inj hsq
              exact ⟨(show (_ : Value) = (.agg #[.int .u64 p, .int .u64 q]) from (by first | rfl | (simp [*]; done))), fun h => absurd rfl h⟩
            · intro o aa ww ho hG hold hnew K hK
              obtain rfl := Option.some.inj ho
              have s11 : aa.tmps[11]? = some (.int .u64 s) := hold 11 rfl
              obtain ⟨x48, s48, e48⟩ := hnew 48 (by kernel_rfl)
              obtain rfl : x48 = (.bool false) := e48
              clear hold hnew
              go_simp
              refine hK _ _ (Below.refl _ _) (fun sq hsq => ?_)
              obtain rfl := Option.some.inj hsq
              exact ⟨(show (_ : Value) = (.int .u64 s) from (by first | rfl | (simp [*]; done))), fun h => absurd rfl h⟩
            · intro o aa ww ho hG hold hnew K hK
              obtain rfl := Option.some.inj ho
              obtain ⟨x48, s48, e48⟩ := hnew 48 (by kernel_rfl)
              obtain rfl : x48 = (.bool false) := e48
              obtain ⟨x49, s49, e49⟩ := hnew 49 (by kernel_rfl)
              obtain rfl : x49 = (.agg #[.int .u64 p, .int .u64 q]) := e49
              obtain ⟨x50, s50, e50⟩ := hnew 50 (by kernel_rfl)
              obtain rfl : x50 = (.int .u64 s) := e50
              clear hold hnew
              go_simp
              refine (in_is _ _ _ _ HP.out _).mono ?_; rintro e w3 ⟨rfl, hbb⟩
              refine hK _ _ hbb (fun sq hsq => ?_)
              obtain rfl := Option.some.inj hsq
              exact ⟨(show (_ : Value) = (.bool (X && Z)) from (by first | rfl | (simp [*]; done))), fun h => absurd rfl h⟩
            · intro o aa ww ho hG hold hnew K hK
              obtain rfl := Option.some.inj ho
              have s7 : aa.tmps[7]? = some (.pointer (some ⟨w2.heap.size, 0, none⟩)) := hold 7 rfl
              obtain ⟨x48, s48, e48⟩ := hnew 48 (by kernel_rfl)
              obtain rfl : x48 = (.bool false) := e48
              clear hold hnew
              have c0 := cellk hG hq7 hd0; have c1 := cellk hG hq7 hd1
              go_simp
              refine hK _ _ (Below.refl _ _) (fun sq hsq => ?_)
              obtain rfl := Option.some.inj hsq
              exact ⟨(show (_ : Value) = (.agg #[.int .u64 a, .int .u64 b]) from (by first | rfl | (simp [*]; done))), fun h => absurd rfl h⟩
            · intro o aa ww ho hG hold hnew K hK
              obtain rfl := Option.some.inj ho
              have s11 : aa.tmps[11]? = some (.int .u64 s) := hold 11 rfl
              obtain ⟨x48, s48, e48⟩ := hnew 48 (by kernel_rfl)
              obtain rfl : x48 = (.bool false) := e48
              clear hold hnew
              go_simp
              refine hK _ _ (Below.refl _ _) (fun sq hsq => ?_)
              obtain rfl := Option.some.inj hsq
              exact ⟨(show (_ : Value) = (.int .u64 s) from (by first | rfl | (simp [*]; done))), fun h => absurd rfl h⟩
            · intro o aa ww ho hG hold hnew K hK
              obtain rfl := Option.some.inj ho
              obtain ⟨x48, s48, e48⟩ := hnew 48 (by kernel_rfl)
              obtain rfl : x48 = (.bool false) := e48
              obtain ⟨x52, s52, e52⟩ := hnew 52 (by kernel_rfl)
              obtain rfl : x52 = (.agg #[.int .u64 a, .int .u64 b]) := e52
              obtain ⟨x53, s53, e53⟩ := hnew 53 (by kernel_rfl)
              obtain rfl : x53 = (.int .u64 s) := e53
              clear hold hnew
              go_simp
              refine (in_is _ _ _ _ HX.out _).mono ?_; rintro e w3 ⟨rfl, hbb⟩
              refine hK _ _ hbb (fun sq hsq => ?_)
              obtain rfl := Option.some.inj hsq
              exact ⟨(show (_ : Value) = (.bool X) from (by first | rfl | (simp [*]; done))), fun h => absurd rfl h⟩
            · intro o aa ww ho hG hold hnew K hK
              obtain rfl := Option.some.inj ho
              obtain ⟨x48, s48, e48⟩ := hnew 48 (by kernel_rfl)
              obtain rfl : x48 = (.bool false) := e48
              obtain ⟨x54, s54, e54⟩ := hnew 54 (by kernel_rfl)
              obtain rfl : x54 = (.bool X) := e54
              clear hold hnew
              go_simp
              refine hK _ _ (Below.refl _ _) (fun sq hsq => ?_)
              obtain rfl := Option.some.inj hsq
              exact ⟨(show (_ : Value) = (.bool X) from (by first | rfl | (simp [*]; done))), fun h => absurd rfl h⟩
            · intro o aa ww ho hG hold hnew K hK
              obtain rfl := Option.some.inj ho
              have s11 : aa.tmps[11]? = some (.int .u64 s) := hold 11 rfl
              obtain ⟨x55, s55, e55⟩ := hnew 55 (by kernel_rfl)
              obtain rfl : x55 = (.bool X) := e55
              clear hold hnew
              go_simp
              refine hK _ _ (Below.refl _ _) (fun sq hsq => ?_)
              obtain rfl := Option.some.inj hsq
              exact ⟨(show (_ : Value) = (if X then .int .u64 s else undef) from (by first | rfl | (simp [*]; done))), fun h => absurd rfl h⟩
            · intro o aa ww ho hG hold hnew K hK
              obtain rfl := Option.some.inj ho
              have s1 : aa.tmps[1]? = some (.int .u64 u) := hold 1 rfl
              obtain ⟨x55, s55, e55⟩ := hnew 55 (by kernel_rfl)
              obtain rfl : x55 = (.bool X) := e55
              clear hold hnew
              go_simp
              refine hK _ _ (Below.refl _ _) (fun sq hsq => ?_)
              obtain rfl := Option.some.inj hsq
              exact ⟨(show (_ : Value) = (if X then .int .u64 u else undef) from (by first | rfl | (simp [*]; done))), fun h => absurd rfl h⟩
            · intro o aa ww ho hG hold hnew K hK
              obtain rfl := Option.some.inj ho
              obtain ⟨x55, s55, e55⟩ := hnew 55 (by kernel_rfl)
              obtain rfl : x55 = (.bool X) := e55
              obtain ⟨x56, s56, e56⟩ := hnew 56 (by kernel_rfl)
              obtain rfl : x56 = (if X then .int .u64 s else undef) := e56
              obtain ⟨x57, s57, e57⟩ := hnew 57 (by kernel_rfl)
              obtain rfl : x57 = (if X then .int .u64 u else undef) := e57
              clear hold hnew
              go_simp
              refine hK _ _ (Below.refl _ _) (fun sq hsq => ?_)
              obtain rfl := Option.some.inj hsq
              exact ⟨(show (_ : Value) = (if X then .bool Z else undef) from (by first | rfl | (simp [*]; done))), fun h => absurd rfl h⟩
            · intro o aa ww ho hG hold hnew K hK
              obtain rfl := Option.some.inj ho
              obtain ⟨x48, s48, e48⟩ := hnew 48 (by kernel_rfl)
              obtain rfl : x48 = (.bool false) := e48
              obtain ⟨x55, s55, e55⟩ := hnew 55 (by kernel_rfl)
              obtain rfl : x55 = (.bool X) := e55
              obtain ⟨x58, s58, e58⟩ := hnew 58 (by kernel_rfl)
              obtain rfl : x58 = (if X then .bool Z else undef) := e58
              clear hold hnew
              go_simp
              refine hK _ _ (Below.refl _ _) (fun sq hsq => ?_)
              obtain rfl := Option.some.inj hsq
              exact ⟨(show (_ : Value) = (.bool (X && Z)) from (by first | rfl | (simp [*]; done))), fun h => absurd rfl h⟩
            · intro o aa ww ho hG hold hnew K hK
              obtain rfl := Option.some.inj ho
              obtain ⟨x48, s48, e48⟩ := hnew 48 (by kernel_rfl)
              obtain rfl : x48 = (.bool false) := e48
              obtain ⟨x51, s51, e51⟩ := hnew 51 (by kernel_rfl)
              obtain rfl : x51 = (.bool (X && Z)) := e51
              obtain ⟨x59, s59, e59⟩ := hnew 59 (by kernel_rfl)
              obtain rfl : x59 = (.bool (X && Z)) := e59
              clear hold hnew
              go_simp
              refine hK _ _ (Below.refl _ _) (fun sq hsq => ?_)
              obtain rfl := Option.some.inj hsq
              exact ⟨(show (_ : Value) = (.bool false) from (by first | rfl | (simp [*]; done))), fun h => absurd rfl h⟩
            · intro o aa ww ho hG hold hnew K hK
              obtain rfl := Option.some.inj ho
              obtain ⟨x48, s48, e48⟩ := hnew 48 (by kernel_rfl)
              obtain rfl : x48 = (.bool false) := e48
              obtain ⟨x60, s60, e60⟩ := hnew 60 (by kernel_rfl)
              obtain rfl : x60 = (.bool false) := e60
              clear hold hnew
              go_simp
              refine hK _ _ (Below.refl _ _) (fun sq hsq => ?_)
              obtain rfl := Option.some.inj hsq
              exact ⟨(show (_ : Value) = (.bool false) from (by first | rfl | (simp [*]; done))), fun h => absurd rfl h⟩
            · intro U ww hbr hU hI
              have u36 : U 36 = (.agg #[.int .u64 c, .int .u64 d]) := hU 36 rfl
              have u37 : U 37 = (.int .u64 s) := hU 37 rfl
              have u38 : U 38 = (.bool (X && Y)) := hU 38 rfl
              have u39 : U 39 = (.agg #[.int .u64 a, .int .u64 b]) := hU 39 rfl
              have u40 : U 40 = (.int .u64 s) := hU 40 rfl
              have u41 : U 41 = (.bool X) := hU 41 rfl
              have u42 : U 42 = (.bool X) := hU 42 rfl
              have u43 : U 43 = (if X then .int .u64 s else undef) := hU 43 rfl
              have u44 : U 44 = (if X then .int .u64 u else undef) := hU 44 rfl
              have u45 : U 45 = (if X then .bool Y else undef) := hU 45 rfl
              have u46 : U 46 = (.bool (X && Y)) := hU 46 rfl
              have u47 : U 47 = (.bool false) := hU 47 rfl
              have u48 : U 48 = (.bool false) := hU 48 rfl
              have u49 : U 49 = (.agg #[.int .u64 p, .int .u64 q]) := hU 49 rfl
              have u50 : U 50 = (.int .u64 s) := hU 50 rfl
              have u51 : U 51 = (.bool (X && Z)) := hU 51 rfl
              have u52 : U 52 = (.agg #[.int .u64 a, .int .u64 b]) := hU 52 rfl
              have u53 : U 53 = (.int .u64 s) := hU 53 rfl
              have u54 : U 54 = (.bool X) := hU 54 rfl
              have u55 : U 55 = (.bool X) := hU 55 rfl
              have u56 : U 56 = (if X then .int .u64 s else undef) := hU 56 rfl
              have u57 : U 57 = (if X then .int .u64 u else undef) := hU 57 rfl
              have u58 : U 58 = (if X then .bool Z else undef) := hU 58 rfl
              have u59 : U 59 = (.bool (X && Z)) := hU 59 rfl
              have u60 : U 60 = (.bool false) := hU 60 rfl
              have u61 : U 61 = (.bool false) := hU 61 rfl
              clear hU hI
              simp only [setAll, dsts, List.take_succ_cons, List.take_zero, List.filterMap_cons, List.filterMap_nil, List.drop_succ_cons, List.drop_zero, List.setIfInBounds_toArray, List.set_cons_succ, List.set_cons_zero, u36, u37, u38, u39, u40, u41, u42, u43, u44, u45, u46, u47, u48, u49, u50, u51, u52, u53, u54, u55, u56, u57, u58, u59, u60, u61]
              clear u36 u37 u38 u39 u40 u41 u42 u43 u44 u45 u46 u47 u48 u49 u50 u51 u52 u53 u54 u55 u56 u57 u58 u59 u60 u61
              go_wp2_with (fail)
              go_roundw
              case rel => exact ⟨k + 1, by omega, by go_num, by repeat (first | exact Below.refl _ _ | assumption | refine Below.drew ?_ | refine Below.setCell ?_ (by first | (simp; done) | omega | (simp; omega)) _ | refine Below.alloc ?_ (by first | (simp; done) | omega | (simp; omega)) _ | refine bdrewN ?_ _ | refine bstep ?_ (by assumption) (by first | (simp; done) | omega | (simp; omega)))⟩
              case measure => simp [intOf]; omega
        · have hge : ¬ (k : Int) < (ks.length : Int) := by omega
          go_wp2_with (first | (go_at_call 17; refine (isplain_is _ _ (by assumption) _).mono ?_; rintro e w5 ⟨rfl, hb5⟩; have hz5 := hb5.size; (try simp at hz5); have hx5_0 : w5.cell? ⟨w2.heap.size, 0, none⟩ = some (.int .u64 a) := cellk hb5 (by first | (simp; done) | (simp; omega) | omega) (by first | assumption | (simp; done) | (simp; assumption) | (go_simp; done)); have hx5_1 : w5.cell? ⟨w2.heap.size, 1, none⟩ = some (.int .u64 b) := cellk hb5 (by first | (simp; done) | (simp; omega) | omega) (by first | assumption | (simp; done) | (simp; assumption) | (go_simp; done)); have hx5_2 : w5.cell? ⟨g8, 0, none⟩ = some (.int .u64 c) := cellk hb5 (by first | (simp; done) | (simp; omega) | omega) (by first | assumption | (simp; done) | (simp; assumption) | (go_simp; done)); have hx5_3 : w5.cell? ⟨g8, 1, none⟩ = some (.int .u64 d) := cellk hb5 (by first | (simp; done) | (simp; omega) | omega) (by first | assumption | (simp; done) | (simp; assumption) | (go_simp; done)); have hx5_4 : w5.cell? ⟨g9, 0, none⟩ = some (.int .u64 p) := cellk hb5 (by first | (simp; done) | (simp; omega) | omega) (by first | assumption | (simp; done) | (simp; assumption) | (go_simp; done)); have hx5_5 : w5.cell? ⟨g9, 1, none⟩ = some (.int .u64 q) := cellk hb5 (by first | (simp; done) | (simp; omega) | omega) (by first | assumption | (simp; done) | (simp; assumption) | (go_simp; done))))
          go_ret
          refine ⟨by simp, ?_⟩
          repeat (first | exact Below.refl _ _ | assumption | refine Below.drew ?_ | refine Below.setCell ?_ (by first | (simp; done) | omega | (simp; omega)) _ | refine Below.alloc ?_ (by first | (simp; done) | omega | (simp; omega)) _ | refine bdrewN ?_ _ | refine bstep ?_ (by assumption) (by first | (simp; done) | omega | (simp; omega)))
end Go.Proofs.YtendjifhdpeebaaDoor
