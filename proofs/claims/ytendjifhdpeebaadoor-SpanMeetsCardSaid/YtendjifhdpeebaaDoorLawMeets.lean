/- SpanMeets: the call answers true and leaves what was there as it was. Condition: the package's variable 'none' holds what its text lays. -/
import Derived.Test.YtendjifhdpeebaaDoorSpanLaws
import Derived.Test.YtendjifhdpeebaaDoorLaw1
import Derived.Test.YtendjifhdpeebaaDoorInv
namespace Go.Proofs.YtendjifhdpeebaaDoor
open Go Go.Proofs Go.RowKit

theorem meet_is (a b c d e f : Int) (w : World) (hn : NoneLaid w) (h : meetF a b c d = (e, f)) :
    Calls Tryd.prog 19 #[.agg #[.int .u64 a, .int .u64 b], .agg #[.int .u64 c, .int .u64 d]] w fun e' w' => e' = .returned (.agg #[.int .u64 e, .int .u64 f]) ∧ Below w.heap.size w w' := by
  have := meet_any a b c d w hn
  rw [h] at this
  exact this
theorem make_is (lo hi near a b : Int) (w : World) (h1 : U64 lo) (h3 : U64 hi) (h5 : 0 ≤ near ∧ near < 256) (h : makeF lo hi near = (a, b)) :
    Calls Tryd.prog 10 #[.agg #[.int .u64 lo, .int .u64 hi, .int .u8 near]] w fun e w' => e = .returned (.agg #[.int .u64 a, .int .u64 b]) ∧ Below w.heap.size w w' := by
  have := make_any lo hi near w h1.1 h1.2 h3.1 h3.2 h5.1 h5.2
  rw [h] at this
  exact this

set_option maxHeartbeats 10000000 in
theorem spanMeets_any (l1 m1 n1 l2 m2 n2 t : Int) (w : World) (hn : NoneLaid w) (h1 : U64 l1) (h2 : U64 m1) (h3 : 0 ≤ n1 ∧ n1 < 256) (h4 : U64 l2) (h5 : U64 m2) (h6 : 0 ≤ n2 ∧ n2 < 256)
    (ht : U64 t) :
    Calls Tryd.prog 6 #[.agg #[.int .u64 l1, .int .u64 m1, .int .u8 n1], .agg #[.int .u64 l2, .int .u64 m2, .int .u8 n2], .int .u64 t] w fun e w' => e = .returned (.bool true) ∧ Below w.heap.size w w' := by
  obtain ⟨⟨a, b⟩, hab⟩ : ∃ x, makeF l1 m1 n1 = x := ⟨_, rfl⟩
  obtain ⟨⟨c, d⟩, hcd⟩ : ∃ x, makeF l2 m2 n2 = x := ⟨_, rfl⟩
  obtain ⟨⟨e, f⟩, hef⟩ : ∃ x, meetF a b c d = x := ⟨_, rfl⟩
  have hfe : meetF c d a b = (e, f) := by rw [meetF_comm, hef]
  have hab' := makeF_range l1 m1 n1 h1.1 h1.2 h2.1 h2.2
  have hcd' := makeF_range l2 m2 n2 h4.1 h4.2 h5.1 h5.2
  rw [hab] at hab'
  rw [hcd] at hcd'
  obtain ⟨⟨ha1, ha2⟩, hb1', hb2'⟩ := hab'
  obtain ⟨⟨hc1', hc2'⟩, hd1', hd2'⟩ := hcd'
  simp only at ha1 ha2 hb1' hb2' hc1' hc2' hd1' hd2'
  have hefu := meetF_u64 (a := a) (b := b) (c := c) (d := d) ⟨ha1, ha2⟩ ⟨hb1', hb2'⟩ ⟨hc1', hc2'⟩ ⟨hd1', hd2'⟩
  have hefp := meetF_plain a b c d
  have hefi := meetF_in a b c d
  rw [hef] at hefu hefp hefi
  simp only at hefu hefp hefi
  obtain ⟨⟨he1, he2⟩, hf1, hf2⟩ := hefu
  have HE := Lib.hid hefi
  have HP := Lib.hid hefp
  have HM := Lib.hid hef
  have HM' := Lib.hid hfe
  have HA := Lib.hid hab
  have HC := Lib.hid hcd
  clear hefi hefp hef hfe hab hcd
  go_enter Tryd.func6, Tryd.ntmps6
  go_wp2_with (first
    | (go_at_call 9; refine (awake_any _ (hn.next (by repeat (first | exact Below.refl _ _ | assumption | refine Below.drew ?_ | refine Below.setCell ?_ (by first | (simp; done) | omega | (simp; omega)) _ | refine Below.alloc ?_ (by first | (simp; done) | omega | (simp; omega)) _ | refine bdrewN ?_ _ | refine bstep ?_ (by assumption) (by first | (simp; done) | omega | (simp; omega)))))).mono ?_; rintro e w1 ⟨rfl, hb1⟩; have hz1 := hb1.size; (try simp at hz1); have hx1_0 : w1.cell? ⟨w.heap.size, 0, none⟩ = some (.int .u64 l1) := cellk hb1 (by first | (simp; done) | (simp; omega) | omega) (by first | assumption | (simp; done) | (simp; assumption) | (go_simp; done)); have hy1_0 : w1.frozen? ⟨w.heap.size, 0, none⟩ = false := frzk hb1 (by first | (simp; done) | (simp; omega) | omega) (by first | assumption | (simp; done) | (simp; assumption) | (go_simp; done)); have hx1_1 : w1.cell? ⟨w.heap.size, 1, none⟩ = some (.int .u64 m1) := cellk hb1 (by first | (simp; done) | (simp; omega) | omega) (by first | assumption | (simp; done) | (simp; assumption) | (go_simp; done)); have hy1_1 : w1.frozen? ⟨w.heap.size, 1, none⟩ = false := frzk hb1 (by first | (simp; done) | (simp; omega) | omega) (by first | assumption | (simp; done) | (simp; assumption) | (go_simp; done)); have hx1_2 : w1.cell? ⟨w.heap.size, 2, none⟩ = some (.int .u8 n1) := cellk hb1 (by first | (simp; done) | (simp; omega) | omega) (by first | assumption | (simp; done) | (simp; assumption) | (go_simp; done)); have hy1_2 : w1.frozen? ⟨w.heap.size, 2, none⟩ = false := frzk hb1 (by first | (simp; done) | (simp; omega) | omega) (by first | assumption | (simp; done) | (simp; assumption) | (go_simp; done)); have hx1_3 : w1.cell? ⟨w.heap.size + 1, 0, none⟩ = some (.int .u64 l2) := cellk hb1 (by first | (simp; done) | (simp; omega) | omega) (by first | assumption | (simp; done) | (simp; assumption) | (go_simp; done)); have hy1_3 : w1.frozen? ⟨w.heap.size + 1, 0, none⟩ = false := frzk hb1 (by first | (simp; done) | (simp; omega) | omega) (by first | assumption | (simp; done) | (simp; assumption) | (go_simp; done)); have hx1_4 : w1.cell? ⟨w.heap.size + 1, 1, none⟩ = some (.int .u64 m2) := cellk hb1 (by first | (simp; done) | (simp; omega) | omega) (by first | assumption | (simp; done) | (simp; assumption) | (go_simp; done)); have hy1_4 : w1.frozen? ⟨w.heap.size + 1, 1, none⟩ = false := frzk hb1 (by first | (simp; done) | (simp; omega) | omega) (by first | assumption | (simp; done) | (simp; assumption) | (go_simp; done)); have hx1_5 : w1.cell? ⟨w.heap.size + 1, 2, none⟩ = some (.int .u8 n2) := cellk hb1 (by first | (simp; done) | (simp; omega) | omega) (by first | assumption | (simp; done) | (simp; assumption) | (go_simp; done)); have hy1_5 : w1.frozen? ⟨w.heap.size + 1, 2, none⟩ = false := frzk hb1 (by first | (simp; done) | (simp; omega) | omega) (by first | assumption | (simp; done) | (simp; assumption) | (go_simp; done))))
  have hBW : Below w.heap.size w w1 := by repeat (first | exact Below.refl _ _ | assumption | refine Below.drew ?_ | refine Below.setCell ?_ (by first | (simp; done) | omega | (simp; omega)) _ | refine Below.alloc ?_ (by first | (simp; done) | omega | (simp; omega)) _ | refine bdrewN ?_ _ | refine bstep ?_ (by assumption) (by first | (simp; done) | omega | (simp; omega)))
  have hNW := hn.next hBW
  have hlx : w.heap.size < w1.heap.size := by omega
  have hly : w.heap.size + 1 < w1.heap.size := by omega
  clear hb1 hy1_0 hy1_1 hy1_2 hy1_3 hy1_4 hy1_5
  go_cut [7, 8] (fun s7 s8 wx => ∃ (g7 g8 : Nat), s7 = .pointer (some ⟨g7, 0, none⟩) ∧ s8 = .pointer (some ⟨g8, 0, none⟩) ∧ Below w1.heap.size w1 wx ∧
      wx.cell? ⟨g7, 0, none⟩ = some (.int .u64 a) ∧ wx.cell? ⟨g7, 1, none⟩ = some (.int .u64 b) ∧ wx.cell? ⟨g8, 0, none⟩ = some (.int .u64 c) ∧ wx.cell? ⟨g8, 1, none⟩ = some (.int .u64 d))
  case first =>
    refine wp_region_steps 6 (fun sq => match sq with | 14 => .agg #[.int .u64 l1, .int .u64 m1, .int .u8 n1] | 15 => .agg #[.int .u64 a, .int .u64 b] | 16 => .agg #[.int .u64 l2, .int .u64 m2, .int .u8 n2] | 17 => .agg #[.int .u64 c, .int .u64 d] | _ => undef) (fun sq => match sq with | 7 => some (#[.int .u64 0, .int .u64 0], 27) | 8 => some (#[.int .u64 0, .int .u64 0], 27) | _ => none) (by kernel_rfl) (by kernel_rfl) (by kernel_rfl) (by kernel_rfl) rfl (steps_succ (steps_succ (steps_succ (steps_succ (steps_succ (steps_succ steps_zero ?_) ?_) ?_) ?_) ?_) ?_) ?_
    · intro o aa ww ho hG hold hnew K hK
      obtain rfl := Option.some.inj ho
      have s3 : aa.tmps[3]? = some (.pointer (some ⟨w.heap.size, 0, none⟩)) := hold 3 rfl
      clear hold hnew
      have c0 := cellk hG hlx hx1_0; have c1 := cellk hG hlx hx1_1; have c2 := cellk hG hlx hx1_2
      go_simp
      refine hK _ _ (Below.refl _ _) (fun sq hsq => ?_)
      obtain rfl := Option.some.inj hsq
      exact ⟨(show (_ : Value) = (.agg #[.int .u64 l1, .int .u64 m1, .int .u8 n1]) from (by first | rfl | (simp [*]; done))), fun h => absurd rfl h⟩
    · intro o aa ww ho hG hold hnew K hK
      obtain rfl := Option.some.inj ho
      obtain ⟨x14, s14, e14⟩ := hnew 14 (by kernel_rfl)
      obtain rfl : x14 = (.agg #[.int .u64 l1, .int .u64 m1, .int .u8 n1]) := e14
      clear hold hnew
      go_simp
      first | (refine (make_is _ _ _ _ _ _ h1 h2 h3 HA.out).mono ?_; rintro e w3 ⟨rfl, hbb⟩; refine hK _ _ hbb (fun sq hsq => ?_)) | refine hK _ _ (Below.refl _ _) (fun sq hsq => ?_)
      obtain rfl := Option.some.inj hsq
      exact ⟨(show (_ : Value) = (.agg #[.int .u64 a, .int .u64 b]) from (by first | rfl | (simp [*]; done))), fun h => absurd rfl h⟩
    · intro o aa ww ho hG hold hnew K hK
      obtain rfl := Option.some.inj ho
      have s4 : aa.tmps[4]? = some (.pointer (some ⟨w.heap.size + 1, 0, none⟩)) := hold 4 rfl
      clear hold hnew
      have c0 := cellk hG hly hx1_3; have c1 := cellk hG hly hx1_4; have c2 := cellk hG hly hx1_5
      go_simp
      refine hK _ _ (Below.refl _ _) (fun sq hsq => ?_)
      obtain rfl := Option.some.inj hsq
      exact ⟨(show (_ : Value) = (.agg #[.int .u64 l2, .int .u64 m2, .int .u8 n2]) from (by first | rfl | (simp [*]; done))), fun h => absurd rfl h⟩
    · intro o aa ww ho hG hold hnew K hK
      obtain rfl := Option.some.inj ho
      obtain ⟨x16, s16, e16⟩ := hnew 16 (by kernel_rfl)
      obtain rfl : x16 = (.agg #[.int .u64 l2, .int .u64 m2, .int .u8 n2]) := e16
      clear hold hnew
      go_simp
      first | (refine (make_is _ _ _ _ _ _ h4 h5 h6 HC.out).mono ?_; rintro e w3 ⟨rfl, hbb⟩; refine hK _ _ hbb (fun sq hsq => ?_)) | refine hK _ _ (Below.refl _ _) (fun sq hsq => ?_)
      obtain rfl := Option.some.inj hsq
      exact ⟨(show (_ : Value) = (.agg #[.int .u64 c, .int .u64 d]) from (by first | rfl | (simp [*]; done))), fun h => absurd rfl h⟩
    · intro o aa ww ho hG hold hnew K hK
      obtain rfl := Option.some.inj ho
      clear hold hnew
      go_simp
      refine hK _ _ ((Below.refl _ _).alloc (Nat.le_refl _) _) (fun sq hsq => ?_)
      obtain rfl := Option.some.inj hsq
      exact ⟨⟨_, rfl, hG.size, heap_new_at rfl⟩, fun _ g hg => by injection hg with hg; injection hg with hg; injection hg with hg; omega⟩
    · intro o aa ww ho hG hold hnew K hK
      obtain rfl := Option.some.inj ho
      clear hold hnew
      go_simp
      refine hK _ _ ((Below.refl _ _).alloc (Nat.le_refl _) _) (fun sq hsq => ?_)
      obtain rfl := Option.some.inj hsq
      exact ⟨⟨_, rfl, hG.size, heap_new_at rfl⟩, fun _ g hg => by injection hg with hg; injection hg with hg; injection hg with hg; omega⟩
    · intro U ww hbr hU hI
      have u14 : U 14 = (.agg #[.int .u64 l1, .int .u64 m1, .int .u8 n1]) := hU 14 rfl
      have u15 : U 15 = (.agg #[.int .u64 a, .int .u64 b]) := hU 15 rfl
      have u16 : U 16 = (.agg #[.int .u64 l2, .int .u64 m2, .int .u8 n2]) := hU 16 rfl
      have u17 : U 17 = (.agg #[.int .u64 c, .int .u64 d]) := hU 17 rfl
      obtain ⟨g7, u7, hg7, hk7⟩ : ∃ g, U 7 = .pointer (some ⟨g, 0, none⟩) ∧ _ ≤ g ∧ ww.heap[g]? = some (.cells (#[.int .u64 0, .int .u64 0]) (27) (0, 0)) := hU 7 rfl
      obtain ⟨g8, u8, hg8, hk8⟩ : ∃ g, U 8 = .pointer (some ⟨g, 0, none⟩) ∧ _ ≤ g ∧ ww.heap[g]? = some (.cells (#[.int .u64 0, .int .u64 0]) (27) (0, 0)) := hU 8 rfl
      have hi7_0 : ww.cell? ⟨g7, 0, none⟩ = some (.int .u64 0) := cellH hk7 rfl
      have hj7_0 := frzH (i := 0) hk7
      have hi7_1 : ww.cell? ⟨g7, 1, none⟩ = some (.int .u64 0) := cellH hk7 rfl
      have hj7_1 := frzH (i := 1) hk7
      have hi8_0 : ww.cell? ⟨g8, 0, none⟩ = some (.int .u64 0) := cellH hk8 rfl
      have hj8_0 := frzH (i := 0) hk8
      have hi8_1 : ww.cell? ⟨g8, 1, none⟩ = some (.int .u64 0) := cellH hk8 rfl
      have hj8_1 := frzH (i := 1) hk8
      have n7_8 : g7 ≠ g8 := fun e => hI 7 8 rfl rfl (by decide) (by intro h; cases h) (by intro h; cases h) (by rw [u7, u8, e])
      have n8_7 : g8 ≠ g7 := Ne.symm n7_8
      clear hU hI
      simp only [setAll, dsts, List.take_succ_cons, List.take_zero, List.filterMap_cons, List.filterMap_nil, List.drop_succ_cons, List.drop_zero, List.setIfInBounds_toArray, List.set_cons_succ, List.set_cons_zero, u14, u15, u16, u17, u7, u8]
      clear u14 u15 u16 u17 u7 u8
      go_wp2_with (fail)
      go_meet
      refine ⟨g7, g8, rfl, rfl, ?_, ?_, ?_, ?_, ?_⟩
      · repeat (first | exact Below.refl _ _ | assumption | refine Below.drew ?_ | refine Below.setCell ?_ (by first | (simp; done) | omega | (simp; omega)) _ | refine Below.alloc ?_ (by first | (simp; done) | omega | (simp; omega)) _ | refine bdrewN ?_ _ | refine bstep ?_ (by assumption) (by first | (simp; done) | omega | (simp; omega)))
      all_goals go_simp
  case rest =>
    obtain ⟨g7, g8, rfl, rfl, hbx, c70, c71, c80, c81⟩ := hcut
    have hBx : Below w.heap.size w wc := hBW.trans (hbx.mono hBW.size)
    have hNx := hn.next hBx
    have hzx := hBx.size
    have hl7 := World.block_lt_of_cell? _ _ c70
    have hl8 := World.block_lt_of_cell? _ _ c80
    simp only at hl7 hl8
    clear hbx hNW hBW hx1_0 hx1_1 hx1_2 hx1_3 hx1_4 hx1_5 h1 h2 h3 h4 h5 h6
    go_wp2_with (first
      | ((go_at_call 19; refine (meet_is _ _ _ _ _ _ _ hNx HM.out).mono ?_; rintro e w2 ⟨rfl, hb2⟩; have hz2 := hb2.size; (try simp at hz2); have hx2_0 : w2.cell? ⟨g7, 0, none⟩ = some (.int .u64 a) := cellk hb2 (by first | (simp; done) | (simp; omega) | omega) (by first | assumption | (simp; done) | (simp; assumption) | (go_simp; done)); have hx2_1 : w2.cell? ⟨g7, 1, none⟩ = some (.int .u64 b) := cellk hb2 (by first | (simp; done) | (simp; omega) | omega) (by first | assumption | (simp; done) | (simp; assumption) | (go_simp; done)); have hx2_2 : w2.cell? ⟨g8, 0, none⟩ = some (.int .u64 c) := cellk hb2 (by first | (simp; done) | (simp; omega) | omega) (by first | assumption | (simp; done) | (simp; assumption) | (go_simp; done)); have hx2_3 : w2.cell? ⟨g8, 1, none⟩ = some (.int .u64 d) := cellk hb2 (by first | (simp; done) | (simp; omega) | omega) (by first | assumption | (simp; done) | (simp; assumption) | (go_simp; done))); have hm7 : g7 < w2.heap.size := (by omega); have hm8 : g8 < w2.heap.size := (by omega); have hk7 : g7 ≠ w2.heap.size := (by omega); have hk8 : g8 ≠ w2.heap.size := (by omega))
      | (go_at_call 11; refine (times_any t _ 3 3 [(a, b), (c, d), (e, f)] _ ht (by simp) rfl (by omega) (flat_cells (heap_new_at (by simp))) (by simp; omega)).mono ?_; rintro e' w3 ⟨v3, ks, rfl, hown3, hks, hlen3, hb3⟩; have HL := Lib.hid hlen3; have hll : 0 < ks.length := (by omega); have hlu : ks.length ≤ 1000 := (by omega); clear hlen3; obtain ⟨A3, c3, rfl, hc3⟩ := owns_form hown3; obtain ⟨g3, rfl, hg3, hg3', hcell3⟩ := owns_at hown3 hll; have hz3 := hb3.size; simp at hz3; have hx3_0 : w3.cell? ⟨g7, 0, none⟩ = some (.int .u64 a) := cellk hb3 (by first | (simp; done) | (simp; omega) | omega) (by first | assumption | (simp; done) | (simp; assumption) | (go_simp; done)); have hx3_1 : w3.cell? ⟨g7, 1, none⟩ = some (.int .u64 b) := cellk hb3 (by first | (simp; done) | (simp; omega) | omega) (by first | assumption | (simp; done) | (simp; assumption) | (go_simp; done)); have hx3_2 : w3.cell? ⟨g8, 0, none⟩ = some (.int .u64 c) := cellk hb3 (by first | (simp; done) | (simp; omega) | omega) (by first | assumption | (simp; done) | (simp; assumption) | (go_simp; done)); have hx3_3 : w3.cell? ⟨g8, 1, none⟩ = some (.int .u64 d) := cellk hb3 (by first | (simp; done) | (simp; omega) | omega) (by first | assumption | (simp; done) | (simp; assumption) | (go_simp; done)); have hx3_4 : w3.cell? ⟨w2.heap.size, 0, none⟩ = some (.int .u64 e) := cellk hb3 (by first | (simp; done) | (simp; omega) | omega) (by first | assumption | (simp; done) | (simp; assumption) | (go_simp; done)); have hx3_5 : w3.cell? ⟨w2.heap.size, 1, none⟩ = some (.int .u64 f) := cellk hb3 (by first | (simp; done) | (simp; omega) | omega) (by first | assumption | (simp; done) | (simp; assumption) | (go_simp; done))))
    have hB3 : Below w.heap.size w w3 := by repeat (first | exact Below.refl _ _ | assumption | refine Below.drew ?_ | refine Below.setCell ?_ (by first | (simp; done) | omega | (simp; omega)) _ | refine Below.alloc ?_ (by first | (simp; done) | omega | (simp; omega)) _ | refine bdrewN ?_ _ | refine bstep ?_ (by assumption) (by first | (simp; done) | omega | (simp; omega)))
    have hN3 := hn.next hB3
    have hl73 := World.block_lt_of_cell? _ _ hx3_0
    have hl83 := World.block_lt_of_cell? _ _ hx3_2
    have hl93 := World.block_lt_of_cell? _ _ hx3_4
    simp only at hl73 hl83 hl93
    clear hb3 hown3 hc3 c70 c71 c80 c81 hNx hBx hl7 hl8 hb2 hx2_0 hx2_1 hx2_2 hx2_3
    go_loopw [28] (fun i wr => ∃ k : Nat, k ≤ ks.length ∧ i = .int .i64 k ∧ Below w3.heap.size w3 wr) (fun i _ => ks.length - (intOf i).toNat)
    case atStart => exact ⟨0, Nat.zero_le _, rfl, Below.refl _ _⟩
    case round =>
      obtain ⟨k, hk, rfl, hb⟩ := hrel
      have hsz := hb.size
      have hd0 := cellk hb (p := ⟨g7, 0, none⟩) hl73 hx3_0
      have hd1 := cellk hb (p := ⟨g7, 1, none⟩) hl73 hx3_1
      have hd2 := cellk hb (p := ⟨g8, 0, none⟩) hl83 hx3_2
      have hd3 := cellk hb (p := ⟨g8, 1, none⟩) hl83 hx3_3
      have hd4 := cellk hb (p := ⟨w2.heap.size, 0, none⟩) hl93 hx3_4
      have hd5 := cellk hb (p := ⟨w2.heap.size, 1, none⟩) hl93 hx3_5
      have hq7 : g7 < wr.heap.size := by omega
      have hq8 : g8 < wr.heap.size := by omega
      have hq9 : w2.heap.size < wr.heap.size := by omega
      have hNr := hN3.next hb
      clear hx3_0 hx3_1 hx3_2 hx3_3 hx3_4 hx3_5 hN3
      by_cases hlt : k < ks.length
      · have hs : ks[k]? = some ks[k] := List.getElem?_eq_getElem hlt
        have hc := hcell3 k (.int .u64 ks[k]) (by rw [List.getElem?_map, hs]; rfl)
        have hdk := cellk hb (p := ⟨g3, k, none⟩) hg3' hc
        have hx1 := hks _ (List.getElem_mem hlt)
        generalize ks[k] = s at hc hx1 hs hdk
        have hin0 : (0 : Int) ≤ (k : Int) := by omega
        have hin1 : (k : Int) < (ks.length : Int) := by omega
        have hE := HE.out s
        clear hcell3 hks hc hs HE HL HP HM HM' HA HC
        obtain ⟨X, hX⟩ : ∃ X, inB a b s = X := ⟨_, rfl⟩
        obtain ⟨Y, hY⟩ : ∃ Y, inB c d s = Y := ⟨_, rfl⟩
        rw [hX, hY] at hE
        rcases Bool.eq_false_or_eq_true X with hXv | hXv
        all_goals
          rw [hXv] at hE
          simp only [Bool.true_and, Bool.false_and] at hE
          have HX := Lib.hid (hX.trans hXv)
          have HY := Lib.hid hY
          have HE := Lib.hid hE
          clear hX hY hE
          go_wp2_with (fail)
          refine wp_region_steps 12 (fun sq => match sq with | 32 => .agg #[.int .u64 e, .int .u64 f] | 33 => .int .u64 s | 34 => .bool (X && Y) | 35 => .agg #[.int .u64 a, .int .u64 b] | 36 => .int .u64 s | 37 => .bool X | 38 => .bool X | 39 => if X then .agg #[.int .u64 c, .int .u64 d] else undef | 40 => if X then .int .u64 s else undef | 41 => if X then .bool Y else undef | 42 => .bool (X && Y) | 43 => .bool false | _ => undef) (fun sq => match sq with  | _ => none) (by kernel_rfl) (by kernel_rfl) (by kernel_rfl) (by kernel_rfl) rfl (steps_succ (steps_succ (steps_succ (steps_succ (steps_succ (steps_succ (steps_succ (steps_succ (steps_succ (steps_succ (steps_succ (steps_succ steps_zero ?_) ?_) ?_) ?_) ?_) ?_) ?_) ?_) ?_) ?_) ?_) ?_) ?_
          · intro o aa ww ho hG hold hnew K hK
            obtain rfl := Option.some.inj ho
            have s9 : aa.tmps[9]? = some (.pointer (some ⟨w2.heap.size, 0, none⟩)) := hold 9 rfl
            clear hold hnew
            have c0 := cellk hG hq9 hd4; have c1 := cellk hG hq9 hd5
            go_simp
            refine hK _ _ (Below.refl _ _) (fun sq hsq => ?_)
            obtain rfl := Option.some.inj hsq
            exact ⟨(show (_ : Value) = (.agg #[.int .u64 e, .int .u64 f]) from (by first | rfl | (simp [*]; done))), fun h => absurd rfl h⟩
          · intro o aa ww ho hG hold hnew K hK
            obtain rfl := Option.some.inj ho
            have s11 : aa.tmps[11]? = some (.int .u64 s) := hold 11 rfl
            clear hold hnew
            go_simp
            refine hK _ _ (Below.refl _ _) (fun sq hsq => ?_)
            obtain rfl := Option.some.inj hsq
            exact ⟨(show (_ : Value) = (.int .u64 s) from (by first | rfl | (simp [*]; done))), fun h => absurd rfl h⟩
          · intro o aa ww ho hG hold hnew K hK
            obtain rfl := Option.some.inj ho
            obtain ⟨x32, s32, e32⟩ := hnew 32 (by kernel_rfl)
            obtain rfl : x32 = (.agg #[.int .u64 e, .int .u64 f]) := e32
            obtain ⟨x33, s33, e33⟩ := hnew 33 (by kernel_rfl)
            obtain rfl : x33 = (.int .u64 s) := e33
            clear hold hnew
            go_simp
            first | (refine (in_is _ _ _ _ HE.out _).mono ?_; rintro e' w4 ⟨rfl, hbb⟩; refine hK _ _ hbb (fun sq hsq => ?_)) | refine hK _ _ (Below.refl _ _) (fun sq hsq => ?_)
            obtain rfl := Option.some.inj hsq
            exact ⟨(show (_ : Value) = (.bool (X && Y)) from (by first | rfl | (simp [*]; done))), fun h => absurd rfl h⟩
          · intro o aa ww ho hG hold hnew K hK
            obtain rfl := Option.some.inj ho
            have s7 : aa.tmps[7]? = some (.pointer (some ⟨g7, 0, none⟩)) := hold 7 rfl
            clear hold hnew
            have c0 := cellk hG hq7 hd0; have c1 := cellk hG hq7 hd1
            go_simp
            refine hK _ _ (Below.refl _ _) (fun sq hsq => ?_)
            obtain rfl := Option.some.inj hsq
            exact ⟨(show (_ : Value) = (.agg #[.int .u64 a, .int .u64 b]) from (by first | rfl | (simp [*]; done))), fun h => absurd rfl h⟩
          · intro o aa ww ho hG hold hnew K hK
            obtain rfl := Option.some.inj ho
            have s11 : aa.tmps[11]? = some (.int .u64 s) := hold 11 rfl
            clear hold hnew
            go_simp
            refine hK _ _ (Below.refl _ _) (fun sq hsq => ?_)
            obtain rfl := Option.some.inj hsq
            exact ⟨(show (_ : Value) = (.int .u64 s) from (by first | rfl | (simp [*]; done))), fun h => absurd rfl h⟩
          · intro o aa ww ho hG hold hnew K hK
            obtain rfl := Option.some.inj ho
            obtain ⟨x35, s35, e35⟩ := hnew 35 (by kernel_rfl)
            obtain rfl : x35 = (.agg #[.int .u64 a, .int .u64 b]) := e35
            obtain ⟨x36, s36, e36⟩ := hnew 36 (by kernel_rfl)
            obtain rfl : x36 = (.int .u64 s) := e36
            clear hold hnew
            go_simp
            first | (refine (in_is _ _ _ _ HX.out _).mono ?_; rintro e' w4 ⟨rfl, hbb⟩; refine hK _ _ hbb (fun sq hsq => ?_)) | refine hK _ _ (Below.refl _ _) (fun sq hsq => ?_)
            obtain rfl := Option.some.inj hsq
            exact ⟨(show (_ : Value) = (.bool X) from (by first | rfl | (simp [*]; done))), fun h => absurd rfl h⟩
          · intro o aa ww ho hG hold hnew K hK
            obtain rfl := Option.some.inj ho
            obtain ⟨x37, s37, e37⟩ := hnew 37 (by kernel_rfl)
            obtain rfl : x37 = (.bool X) := e37
            clear hold hnew
            go_simp
            refine hK _ _ (Below.refl _ _) (fun sq hsq => ?_)
            obtain rfl := Option.some.inj hsq
            exact ⟨(show (_ : Value) = (.bool X) from (by first | rfl | (simp [*]; done))), fun h => absurd rfl h⟩
          · intro o aa ww ho hG hold hnew K hK
            obtain rfl := Option.some.inj ho
            have s8 : aa.tmps[8]? = some (.pointer (some ⟨g8, 0, none⟩)) := hold 8 rfl
            obtain ⟨x38, s38, e38⟩ := hnew 38 (by kernel_rfl)
            obtain rfl : x38 = (.bool X) := e38
            clear hold hnew
            have c0 := cellk hG hq8 hd2; have c1 := cellk hG hq8 hd3
            go_simp
            refine hK _ _ (Below.refl _ _) (fun sq hsq => ?_)
            obtain rfl := Option.some.inj hsq
            exact ⟨(show (_ : Value) = (if X then .agg #[.int .u64 c, .int .u64 d] else undef) from (by first | rfl | (simp [*]; done))), fun h => absurd rfl h⟩
          · intro o aa ww ho hG hold hnew K hK
            obtain rfl := Option.some.inj ho
            have s11 : aa.tmps[11]? = some (.int .u64 s) := hold 11 rfl
            obtain ⟨x38, s38, e38⟩ := hnew 38 (by kernel_rfl)
            obtain rfl : x38 = (.bool X) := e38
            clear hold hnew
            go_simp
            refine hK _ _ (Below.refl _ _) (fun sq hsq => ?_)
            obtain rfl := Option.some.inj hsq
            exact ⟨(show (_ : Value) = (if X then .int .u64 s else undef) from (by first | rfl | (simp [*]; done))), fun h => absurd rfl h⟩
          · intro o aa ww ho hG hold hnew K hK
            obtain rfl := Option.some.inj ho
            obtain ⟨x38, s38, e38⟩ := hnew 38 (by kernel_rfl)
            obtain rfl : x38 = (.bool X) := e38
            obtain ⟨x39, s39, e39⟩ := hnew 39 (by kernel_rfl)
            obtain rfl : x39 = (if X then .agg #[.int .u64 c, .int .u64 d] else undef) := e39
            obtain ⟨x40, s40, e40⟩ := hnew 40 (by kernel_rfl)
            obtain rfl : x40 = (if X then .int .u64 s else undef) := e40
            clear hold hnew
            go_simp
            first | (refine (in_is _ _ _ _ HY.out _).mono ?_; rintro e' w4 ⟨rfl, hbb⟩; refine hK _ _ hbb (fun sq hsq => ?_)) | refine hK _ _ (Below.refl _ _) (fun sq hsq => ?_)
            obtain rfl := Option.some.inj hsq
            exact ⟨(show (_ : Value) = (if X then .bool Y else undef) from (by first | rfl | (simp [*]; done))), fun h => absurd rfl h⟩
          · intro o aa ww ho hG hold hnew K hK
            obtain rfl := Option.some.inj ho
            obtain ⟨x38, s38, e38⟩ := hnew 38 (by kernel_rfl)
            obtain rfl : x38 = (.bool X) := e38
            obtain ⟨x41, s41, e41⟩ := hnew 41 (by kernel_rfl)
            obtain rfl : x41 = (if X then .bool Y else undef) := e41
            clear hold hnew
            go_simp
            refine hK _ _ (Below.refl _ _) (fun sq hsq => ?_)
            obtain rfl := Option.some.inj hsq
            exact ⟨(show (_ : Value) = (.bool (X && Y)) from (by first | rfl | (simp [*]; done))), fun h => absurd rfl h⟩
          · intro o aa ww ho hG hold hnew K hK
            obtain rfl := Option.some.inj ho
            obtain ⟨x34, s34, e34⟩ := hnew 34 (by kernel_rfl)
            obtain rfl : x34 = (.bool (X && Y)) := e34
            obtain ⟨x42, s42, e42⟩ := hnew 42 (by kernel_rfl)
            obtain rfl : x42 = (.bool (X && Y)) := e42
            clear hold hnew
            go_simp
            refine hK _ _ (Below.refl _ _) (fun sq hsq => ?_)
            obtain rfl := Option.some.inj hsq
            exact ⟨(show (_ : Value) = (.bool false) from (by first | rfl | (simp [*]; done))), fun h => absurd rfl h⟩
          · intro U ww hbr hU hI
            have u32 : U 32 = (.agg #[.int .u64 e, .int .u64 f]) := hU 32 rfl
            have u33 : U 33 = (.int .u64 s) := hU 33 rfl
            have u34 : U 34 = (.bool (X && Y)) := hU 34 rfl
            have u35 : U 35 = (.agg #[.int .u64 a, .int .u64 b]) := hU 35 rfl
            have u36 : U 36 = (.int .u64 s) := hU 36 rfl
            have u37 : U 37 = (.bool X) := hU 37 rfl
            have u38 : U 38 = (.bool X) := hU 38 rfl
            have u39 : U 39 = (if X then .agg #[.int .u64 c, .int .u64 d] else undef) := hU 39 rfl
            have u40 : U 40 = (if X then .int .u64 s else undef) := hU 40 rfl
            have u41 : U 41 = (if X then .bool Y else undef) := hU 41 rfl
            have u42 : U 42 = (.bool (X && Y)) := hU 42 rfl
            have u43 : U 43 = (.bool false) := hU 43 rfl
            clear hU hI
            simp only [setAll, dsts, List.take_succ_cons, List.take_zero, List.filterMap_cons, List.filterMap_nil, List.drop_succ_cons, List.drop_zero, List.setIfInBounds_toArray, List.set_cons_succ, List.set_cons_zero, u32, u33, u34, u35, u36, u37, u38, u39, u40, u41, u42, u43]
            clear u32 u33 u34 u35 u36 u37 u38 u39 u40 u41 u42 u43
            go_wp2_with (fail)
            go_roundw
            case rel => exact ⟨k + 1, by omega, by go_num, by repeat (first | exact Below.refl _ _ | assumption | refine Below.drew ?_ | refine Below.setCell ?_ (by first | (simp; done) | omega | (simp; omega)) _ | refine Below.alloc ?_ (by first | (simp; done) | omega | (simp; omega)) _ | refine bdrewN ?_ _ | refine bstep ?_ (by assumption) (by first | (simp; done) | omega | (simp; omega)))⟩
            case measure => simp [intOf]; omega
      · have hge : ¬ (k : Int) < (ks.length : Int) := by omega
        clear hcell3 hks HE HL HM HA HC
        go_wp2_with (fail)
        refine wp_region_steps 9 (fun sq => match sq with | 45 => .agg #[.int .u64 e, .int .u64 f] | 46 => .bool true | 47 => .bool true | 48 => .agg #[.int .u64 e, .int .u64 f] | 49 => .agg #[.int .u64 c, .int .u64 d] | 50 => .agg #[.int .u64 a, .int .u64 b] | 51 => .agg #[.int .u64 e, .int .u64 f] | 52 => .bool true | 53 => .bool true | _ => undef) (fun sq => match sq with  | _ => none) (by kernel_rfl) (by kernel_rfl) (by kernel_rfl) (by kernel_rfl) rfl (steps_succ (steps_succ (steps_succ (steps_succ (steps_succ (steps_succ (steps_succ (steps_succ (steps_succ steps_zero ?_) ?_) ?_) ?_) ?_) ?_) ?_) ?_) ?_) ?_
        · intro o aa ww ho hG hold hnew K hK
          obtain rfl := Option.some.inj ho
          have s9 : aa.tmps[9]? = some (.pointer (some ⟨w2.heap.size, 0, none⟩)) := hold 9 rfl
          clear hold hnew
          have c0 := cellk hG hq9 hd4; have c1 := cellk hG hq9 hd5
          go_simp
          refine hK _ _ (Below.refl _ _) (fun sq hsq => ?_)
          obtain rfl := Option.some.inj hsq
          exact ⟨(show (_ : Value) = (.agg #[.int .u64 e, .int .u64 f]) from (by first | rfl | (simp [*]; done))), fun h => absurd rfl h⟩
        · intro o aa ww ho hG hold hnew K hK
          obtain rfl := Option.some.inj ho
          obtain ⟨x45, s45, e45⟩ := hnew 45 (by kernel_rfl)
          obtain rfl : x45 = (.agg #[.int .u64 e, .int .u64 f]) := e45
          clear hold hnew
          go_simp
          first | (refine (isplain_is _ _ HP.out _).mono ?_; rintro e' w4 ⟨rfl, hbb⟩; refine hK _ _ hbb (fun sq hsq => ?_)) | refine hK _ _ (Below.refl _ _) (fun sq hsq => ?_)
          obtain rfl := Option.some.inj hsq
          exact ⟨(show (_ : Value) = (.bool true) from (by first | rfl | (simp [*]; done))), fun h => absurd rfl h⟩
        · intro o aa ww ho hG hold hnew K hK
          obtain rfl := Option.some.inj ho
          obtain ⟨x46, s46, e46⟩ := hnew 46 (by kernel_rfl)
          obtain rfl : x46 = (.bool true) := e46
          clear hold hnew
          go_simp
          refine hK _ _ (Below.refl _ _) (fun sq hsq => ?_)
          obtain rfl := Option.some.inj hsq
          exact ⟨(show (_ : Value) = (.bool true) from (by first | rfl | (simp [*]; done))), fun h => absurd rfl h⟩
        · intro o aa ww ho hG hold hnew K hK
          obtain rfl := Option.some.inj ho
          have s9 : aa.tmps[9]? = some (.pointer (some ⟨w2.heap.size, 0, none⟩)) := hold 9 rfl
          obtain ⟨x47, s47, e47⟩ := hnew 47 (by kernel_rfl)
          obtain rfl : x47 = (.bool true) := e47
          clear hold hnew
          have c0 := cellk hG hq9 hd4; have c1 := cellk hG hq9 hd5
          go_simp
          refine hK _ _ (Below.refl _ _) (fun sq hsq => ?_)
          obtain rfl := Option.some.inj hsq
          exact ⟨(show (_ : Value) = (.agg #[.int .u64 e, .int .u64 f]) from (by first | rfl | (simp [*]; done))), fun h => absurd rfl h⟩
        · intro o aa ww ho hG hold hnew K hK
          obtain rfl := Option.some.inj ho
          have s8 : aa.tmps[8]? = some (.pointer (some ⟨g8, 0, none⟩)) := hold 8 rfl
          obtain ⟨x47, s47, e47⟩ := hnew 47 (by kernel_rfl)
          obtain rfl : x47 = (.bool true) := e47
          clear hold hnew
          have c0 := cellk hG hq8 hd2; have c1 := cellk hG hq8 hd3
          go_simp
          refine hK _ _ (Below.refl _ _) (fun sq hsq => ?_)
          obtain rfl := Option.some.inj hsq
          exact ⟨(show (_ : Value) = (.agg #[.int .u64 c, .int .u64 d]) from (by first | rfl | (simp [*]; done))), fun h => absurd rfl h⟩
        · intro o aa ww ho hG hold hnew K hK
          obtain rfl := Option.some.inj ho
          have s7 : aa.tmps[7]? = some (.pointer (some ⟨g7, 0, none⟩)) := hold 7 rfl
          obtain ⟨x47, s47, e47⟩ := hnew 47 (by kernel_rfl)
          obtain rfl : x47 = (.bool true) := e47
          clear hold hnew
          have c0 := cellk hG hq7 hd0; have c1 := cellk hG hq7 hd1
          go_simp
          refine hK _ _ (Below.refl _ _) (fun sq hsq => ?_)
          obtain rfl := Option.some.inj hsq
          exact ⟨(show (_ : Value) = (.agg #[.int .u64 a, .int .u64 b]) from (by first | rfl | (simp [*]; done))), fun h => absurd rfl h⟩
        · intro o aa ww ho hG hold hnew K hK
          obtain rfl := Option.some.inj ho
          obtain ⟨x47, s47, e47⟩ := hnew 47 (by kernel_rfl)
          obtain rfl : x47 = (.bool true) := e47
          obtain ⟨x49, s49, e49⟩ := hnew 49 (by kernel_rfl)
          obtain rfl : x49 = (.agg #[.int .u64 c, .int .u64 d]) := e49
          obtain ⟨x50, s50, e50⟩ := hnew 50 (by kernel_rfl)
          obtain rfl : x50 = (.agg #[.int .u64 a, .int .u64 b]) := e50
          clear hold hnew
          go_simp
          first | (refine (meet_is _ _ _ _ _ _ _ (hNr.below hG hNr.lt) HM'.out).mono ?_; rintro e' w4 ⟨rfl, hbb⟩; refine hK _ _ hbb (fun sq hsq => ?_)) | refine hK _ _ (Below.refl _ _) (fun sq hsq => ?_)
          obtain rfl := Option.some.inj hsq
          exact ⟨(show (_ : Value) = (.agg #[.int .u64 e, .int .u64 f]) from (by first | rfl | (simp [*]; done))), fun h => absurd rfl h⟩
        · intro o aa ww ho hG hold hnew K hK
          obtain rfl := Option.some.inj ho
          obtain ⟨x47, s47, e47⟩ := hnew 47 (by kernel_rfl)
          obtain rfl : x47 = (.bool true) := e47
          obtain ⟨x48, s48, e48⟩ := hnew 48 (by kernel_rfl)
          obtain rfl : x48 = (.agg #[.int .u64 e, .int .u64 f]) := e48
          obtain ⟨x51, s51, e51⟩ := hnew 51 (by kernel_rfl)
          obtain rfl : x51 = (.agg #[.int .u64 e, .int .u64 f]) := e51
          clear hold hnew
          go_simp
          refine hK _ _ (Below.refl _ _) (fun sq hsq => ?_)
          obtain rfl := Option.some.inj hsq
          exact ⟨(show (_ : Value) = (.bool true) from (by first | rfl | (simp [*]; done))), fun h => absurd rfl h⟩
        · intro o aa ww ho hG hold hnew K hK
          obtain rfl := Option.some.inj ho
          obtain ⟨x47, s47, e47⟩ := hnew 47 (by kernel_rfl)
          obtain rfl : x47 = (.bool true) := e47
          obtain ⟨x52, s52, e52⟩ := hnew 52 (by kernel_rfl)
          obtain rfl : x52 = (.bool true) := e52
          clear hold hnew
          go_simp
          refine hK _ _ (Below.refl _ _) (fun sq hsq => ?_)
          obtain rfl := Option.some.inj hsq
          exact ⟨(show (_ : Value) = (.bool true) from (by first | rfl | (simp [*]; done))), fun h => absurd rfl h⟩
        · intro U ww hbr hU hI
          have u45 : U 45 = (.agg #[.int .u64 e, .int .u64 f]) := hU 45 rfl
          have u46 : U 46 = (.bool true) := hU 46 rfl
          have u47 : U 47 = (.bool true) := hU 47 rfl
          have u48 : U 48 = (.agg #[.int .u64 e, .int .u64 f]) := hU 48 rfl
          have u49 : U 49 = (.agg #[.int .u64 c, .int .u64 d]) := hU 49 rfl
          have u50 : U 50 = (.agg #[.int .u64 a, .int .u64 b]) := hU 50 rfl
          have u51 : U 51 = (.agg #[.int .u64 e, .int .u64 f]) := hU 51 rfl
          have u52 : U 52 = (.bool true) := hU 52 rfl
          have u53 : U 53 = (.bool true) := hU 53 rfl
          clear hU hI
          simp only [setAll, dsts, List.take_succ_cons, List.take_zero, List.filterMap_cons, List.filterMap_nil, List.drop_succ_cons, List.drop_zero, List.setIfInBounds_toArray, List.set_cons_succ, List.set_cons_zero, u45, u46, u47, u48, u49, u50, u51, u52, u53]
          clear u45 u46 u47 u48 u49 u50 u51 u52 u53
          go_wp2_with (fail)
          go_ret
          refine ⟨by simp, ?_⟩
          repeat (first | exact Below.refl _ _ | assumption | refine Below.drew ?_ | refine Below.setCell ?_ (by first | (simp; done) | omega | (simp; omega)) _ | refine Below.alloc ?_ (by first | (simp; done) | omega | (simp; omega)) _ | refine bdrewN ?_ _ | refine bstep ?_ (by assumption) (by first | (simp; done) | omega | (simp; omega)))
end Go.Proofs.YtendjifhdpeebaaDoor
