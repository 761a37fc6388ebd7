/- SpanLess: the call answers true and leaves what was there as it was. Condition: the package's variable 'none' holds what its text lays. -/
import Derived.Test.YtendjifhdpeebaaDoorSpanLaws
import Derived.Test.YtendjifhdpeebaaDoorLaw1
import Derived.Test.YtendjifhdpeebaaDoorInv2
namespace Go.Proofs.YtendjifhdpeebaaDoor
open Go Go.Proofs Go.RowKit

theorem less_is (a b c d : Int) (x y : Int × Int) (w : World) (hn : NoneLaid w) (h1 : 0 ≤ a) (h2 : b < 18446744073709551616) (h3 : c < 18446744073709551616) (h4 : 0 ≤ d) (h : lessF a b c d = (x, y)) :
    Calls Tryd.prog 18 #[.agg #[.int .u64 a, .int .u64 b], .agg #[.int .u64 c, .int .u64 d]] w fun e' w' =>
      e' = .returned (.tuple #[.agg #[.int .u64 x.1, .int .u64 x.2], .agg #[.int .u64 y.1, .int .u64 y.2]]) ∧ Below w.heap.size w w' := by
  have := less_any a b c d w hn h1 h2 h3 h4
  rw [h] at this
  exact this
theorem makeL_is (lo hi near a b : Int) (w : World) (h1 : U64 lo) (h3 : U64 hi) (h5 : 0 ≤ near ∧ near < 256) (h : makeF lo hi near = (a, b)) :
    Calls Tryd.prog 10 #[.agg #[.int .u64 lo, .int .u64 hi, .int .u8 near]] w fun e w' => e = .returned (.agg #[.int .u64 a, .int .u64 b]) ∧ Below w.heap.size w w' := by
  have := make_any lo hi near w h1.1 h1.2 h3.1 h3.2 h5.1 h5.2
  rw [h] at this
  exact this
theorem lessF_plain (a b c d : Int) : ((lessF a b c d).1.1 ≤ (lessF a b c d).1.2 ∨ (lessF a b c d).1.1 = 1 ∧ (lessF a b c d).1.2 = 0) ∧
    ((lessF a b c d).2.1 ≤ (lessF a b c d).2.2 ∨ (lessF a b c d).2.1 = 1 ∧ (lessF a b c d).2.2 = 0) := by
  unfold lessF
  split
  · exact ⟨plainF_plain _ _, .inr ⟨rfl, rfl⟩⟩
  · exact ⟨belowF_plain _ _ _, aboveF_plain _ _ _⟩
theorem lessF_in (a b c d k : Int) : (inB (lessF a b c d).1.1 (lessF a b c d).1.2 k = (inB a b k && (decide (d < c) || decide (k < c)))) ∧
    (inB (lessF a b c d).2.1 (lessF a b c d).2.2 k = (inB a b k && (!decide (d < c) && decide (d < k)))) := by
  unfold lessF
  split
  · rename_i h
    simp [plainF_in, one_in, h]
  · rename_i h
    simp [aboveF_in, belowF_in, h]
theorem lessF_none {a b c d : Int} (h : d < c) : (lessF a b c d).2 = (1, 0) := by
  unfold lessF
  rw [if_pos h]
/-- What the law asks of each time: of the two pieces at most one has it; they have it together just when a..b has it and c..d has it not. -/
theorem lessF_law (a b c d k : Int) (E Z X Y : Bool) (hE : inB (lessF a b c d).1.1 (lessF a b c d).1.2 k = E) (hZ : inB (lessF a b c d).2.1 (lessF a b c d).2.2 k = Z) (hX : inB a b k = X) (hY : inB c d k = Y) :
    (E = true ∧ X = true ∧ Y = false ∧ Z = false ∧ (c ≤ d → k < c)) ∨ (E = false ∧ X = true ∧ Y = true ∧ Z = false) ∨ (E = false ∧ X = true ∧ Y = false ∧ Z = true ∧ (c ≤ d → d < k)) ∨ (E = false ∧ X = false ∧ Z = false) := by
  obtain ⟨h1, h2⟩ := lessF_in a b c d k
  rw [hE, hX] at h1
  rw [hZ, hX] at h2
  subst hY
  subst h1
  subst h2
  cases X with
  | false => exact .inr (.inr (.inr ⟨rfl, rfl, rfl⟩))
  | true =>
    by_cases g1 : d < c <;> by_cases g2 : k < c <;> by_cases g3 : d < k <;> by_cases g4 : c ≤ k <;> by_cases g5 : k ≤ d <;> simp [inB, g1, g2, g3, g4, g5] <;> omega
set_option maxRecDepth 100000 in
set_option maxHeartbeats 10000000 in
theorem spanLess_any (l1 m1 n1 l2 m2 n2 t : Int) (w : World) (hn : NoneLaid w) (h1 : U64 l1) (h2 : U64 m1) (h3 : 0 ≤ n1 ∧ n1 < 256) (h4 : U64 l2) (h5 : U64 m2) (h6 : 0 ≤ n2 ∧ n2 < 256)
    (ht : U64 t) :
    Calls Tryd.prog 5 #[.agg #[.int .u64 l1, .int .u64 m1, .int .u8 n1], .agg #[.int .u64 l2, .int .u64 m2, .int .u8 n2], .int .u64 t] w fun e w' => e = .returned (.bool true) ∧ Below w.heap.size w w' := by
  obtain ⟨⟨a, b⟩, hab⟩ : ∃ x, makeF l1 m1 n1 = x := ⟨_, rfl⟩
  obtain ⟨⟨c, d⟩, hcd⟩ : ∃ x, makeF l2 m2 n2 = x := ⟨_, rfl⟩
  obtain ⟨⟨⟨e, f⟩, ⟨y, z⟩⟩, hef⟩ : ∃ x, lessF a b c d = x := ⟨_, rfl⟩
  have hab' := makeF_range l1 m1 n1 h1.1 h1.2 h2.1 h2.2
  have hcd' := makeF_range l2 m2 n2 h4.1 h4.2 h5.1 h5.2
  rw [hab] at hab'
  rw [hcd] at hcd'
  obtain ⟨⟨ha1, ha2⟩, hb1', hb2'⟩ := hab'
  obtain ⟨⟨hc1', hc2'⟩, hd1', hd2'⟩ := hcd'
  simp only at ha1 ha2 hb1' hb2' hc1' hc2' hd1' hd2'
  have hefu := lessF_u64 (a := a) (b := b) (c := c) (d := d) ⟨ha1, ha2⟩ ⟨hb1', hb2'⟩ ⟨hc1', hc2'⟩ ⟨hd1', hd2'⟩
  have hefp := lessF_plain a b c d
  have hefi := lessF_law a b c d
  have hefn := lessF_none (a := a) (b := b) (c := c) (d := d)
  rw [hef] at hefu hefp hefi hefn
  simp only at hefu hefp hefi hefn
  obtain ⟨⟨⟨he1, he2⟩, hf1, hf2⟩, ⟨hy1, hy2⟩, hz1', hz2'⟩ := hefu
  have HE := Lib.hid hefi
  have HP1 := Lib.hid hefp.1
  have HP2 := Lib.hid hefp.2
  have HN := Lib.hid hefn
  have HM := Lib.hid hef
  have HA := Lib.hid hab
  have HC := Lib.hid hcd
  clear hefi hefp hef hab hcd hefn
  go_enter Tryd.func5, Tryd.ntmps5
  go_wp2_with (first
    | (go_at_call 9; refine (awake_any _ (hn.next (by repeat (first | exact Below.refl _ _ | assumption | refine Below.drew ?_ | refine Below.setCell ?_ (by first | (simp; done) | omega | (simp; omega)) _ | refine Below.alloc ?_ (by first | (simp; done) | omega | (simp; omega)) _ | refine bdrewN ?_ _ | refine bstep ?_ (by assumption) (by first | (simp; done) | omega | (simp; omega)))))).mono ?_; rintro e w1 ⟨rfl, hb1⟩; have hz1 := hb1.size; (try simp at hz1); have hx1_0 : w1.cell? ⟨w.heap.size, 0, none⟩ = some (.int .u64 l1) := cellk hb1 (by first | (simp; done) | (simp; omega) | omega) (by first | assumption | (simp; done) | (simp; assumption) | (go_simp; done)); have hy1_0 : w1.frozen? ⟨w.heap.size, 0, none⟩ = false := frzk hb1 (by first | (simp; done) | (simp; omega) | omega) (by first | assumption | (simp; done) | (simp; assumption) | (go_simp; done)); have hx1_1 : w1.cell? ⟨w.heap.size, 1, none⟩ = some (.int .u64 m1) := cellk hb1 (by first | (simp; done) | (simp; omega) | omega) (by first | assumption | (simp; done) | (simp; assumption) | (go_simp; done)); have hy1_1 : w1.frozen? ⟨w.heap.size, 1, none⟩ = false := frzk hb1 (by first | (simp; done) | (simp; omega) | omega) (by first | assumption | (simp; done) | (simp; assumption) | (go_simp; done)); have hx1_2 : w1.cell? ⟨w.heap.size, 2, none⟩ = some (.int .u8 n1) := cellk hb1 (by first | (simp; done) | (simp; omega) | omega) (by first | assumption | (simp; done) | (simp; assumption) | (go_simp; done)); have hy1_2 : w1.frozen? ⟨w.heap.size, 2, none⟩ = false := frzk hb1 (by first | (simp; done) | (simp; omega) | omega) (by first | assumption | (simp; done) | (simp; assumption) | (go_simp; done)); have hx1_3 : w1.cell? ⟨w.heap.size + 1, 0, none⟩ = some (.int .u64 l2) := cellk hb1 (by first | (simp; done) | (simp; omega) | omega) (by first | assumption | (simp; done) | (simp; assumption) | (go_simp; done)); have hy1_3 : w1.frozen? ⟨w.heap.size + 1, 0, none⟩ = false := frzk hb1 (by first | (simp; done) | (simp; omega) | omega) (by first | assumption | (simp; done) | (simp; assumption) | (go_simp; done)); have hx1_4 : w1.cell? ⟨w.heap.size + 1, 1, none⟩ = some (.int .u64 m2) := cellk hb1 (by first | (simp; done) | (simp; omega) | omega) (by first | assumption | (simp; done) | (simp; assumption) | (go_simp; done)); have hy1_4 : w1.frozen? ⟨w.heap.size + 1, 1, none⟩ = false := frzk hb1 (by first | (simp; done) | (simp; omega) | omega) (by first | assumption | (simp; done) | (simp; assumption) | (go_simp; done)); have hx1_5 : w1.cell? ⟨w.heap.size + 1, 2, none⟩ = some (.int .u8 n2) := cellk hb1 (by first | (simp; done) | (simp; omega) | omega) (by first | assumption | (simp; done) | (simp; assumption) | (go_simp; done)); have hy1_5 : w1.frozen? ⟨w.heap.size + 1, 2, none⟩ = false := frzk hb1 (by first | (simp; done) | (simp; omega) | omega) (by first | assumption | (simp; done) | (simp; assumption) | (go_simp; done))))
  have hBW : Below w.heap.size w w1 := by repeat (first | exact Below.refl _ _ | assumption | refine Below.drew ?_ | refine Below.setCell ?_ (by first | (simp; done) | omega | (simp; omega)) _ | refine Below.alloc ?_ (by first | (simp; done) | omega | (simp; omega)) _ | refine bdrewN ?_ _ | refine bstep ?_ (by assumption) (by first | (simp; done) | omega | (simp; omega)))
  have hNW := hn.next hBW
  have hlx : w.heap.size < w1.heap.size := by omega
  have hly : w.heap.size + 1 < w1.heap.size := by omega
  clear hb1 hy1_0 hy1_1 hy1_2 hy1_3 hy1_4 hy1_5
  go_cut [7, 8] (fun s7 s8 wx => ∃ (g7 g8 : Nat), s7 = .pointer (some ⟨g7, 0, none⟩) ∧ s8 = .pointer (some ⟨g8, 0, none⟩) ∧ Below w1.heap.size w1 wx ∧
      wx.cell? ⟨g7, 0, none⟩ = some (.int .u64 a) ∧ wx.cell? ⟨g7, 1, none⟩ = some (.int .u64 b) ∧ wx.cell? ⟨g8, 0, none⟩ = some (.int .u64 c) ∧ wx.cell? ⟨g8, 1, none⟩ = some (.int .u64 d))
  case first =>
    refine wp_region_steps 6 (fun sq => match sq with | 15 => .agg #[.int .u64 l1, .int .u64 m1, .int .u8 n1] | 16 => .agg #[.int .u64 a, .int .u64 b] | 17 => .agg #[.int .u64 l2, .int .u64 m2, .int .u8 n2] | 18 => .agg #[.int .u64 c, .int .u64 d] | _ => undef) (fun sq => match sq with | 7 => some (#[.int .u64 0, .int .u64 0], 27, none) | 8 => some (#[.int .u64 0, .int .u64 0], 27, none) | _ => none) (by kernel_rfl) (by kernel_rfl) (by kernel_rfl) (by kernel_rfl) rfl (steps_succ (steps_succ (steps_succ (steps_succ (steps_succ (steps_succ steps_zero ?_) ?_) ?_) ?_) ?_) ?_) ?_
    · intro o aa ww ho hG hold hnew K hK
      obtain rfl := Option.some.inj ho
      have s3 : aa.tmps[3]? = some (.pointer (some ⟨w.heap.size, 0, none⟩)) := hold 3 rfl
      clear hold hnew
      have c0 := cellk hG hlx hx1_0; have c1 := cellk hG hlx hx1_1; have c2 := cellk hG hlx hx1_2
      go_simp
      refine hK _ _ (Below.refl _ _) (fun sq hsq => ?_)
      obtain rfl := Option.some.inj hsq
      exact ⟨(show (_ : Value) = (.agg #[.int .u64 l1, .int .u64 m1, .int .u8 n1]) from (by first | rfl | (simp [*]; done))), fun h => absurd rfl h⟩
    · intro o aa ww ho hG hold hnew K hK
      obtain rfl := Option.some.inj ho
      obtain ⟨x15, s15, e15⟩ := hnew 15 (by kernel_rfl)
      obtain rfl : x15 = (.agg #[.int .u64 l1, .int .u64 m1, .int .u8 n1]) := e15
      clear hold hnew
      go_simp
      first | (refine (makeL_is _ _ _ _ _ _ h1 h2 h3 HA.out).mono ?_; rintro e w3 ⟨rfl, hbb⟩; refine hK _ _ hbb (fun sq hsq => ?_)) | refine hK _ _ (Below.refl _ _) (fun sq hsq => ?_)
      obtain rfl := Option.some.inj hsq
      exact ⟨(show (_ : Value) = (.agg #[.int .u64 a, .int .u64 b]) from (by first | rfl | (simp [*]; done))), fun h => absurd rfl h⟩
    · intro o aa ww ho hG hold hnew K hK
      obtain rfl := Option.some.inj ho
      have s4 : aa.tmps[4]? = some (.pointer (some ⟨w.heap.size + 1, 0, none⟩)) := hold 4 rfl
      clear hold hnew
      have c0 := cellk hG hly hx1_3; have c1 := cellk hG hly hx1_4; have c2 := cellk hG hly hx1_5
      go_simp
      refine hK _ _ (Below.refl _ _) (fun sq hsq => ?_)
      obtain rfl := Option.some.inj hsq
      exact ⟨(show (_ : Value) = (.agg #[.int .u64 l2, .int .u64 m2, .int .u8 n2]) from (by first | rfl | (simp [*]; done))), fun h => absurd rfl h⟩
    · intro o aa ww ho hG hold hnew K hK
      obtain rfl := Option.some.inj ho
      obtain ⟨x17, s17, e17⟩ := hnew 17 (by kernel_rfl)
      obtain rfl : x17 = (.agg #[.int .u64 l2, .int .u64 m2, .int .u8 n2]) := e17
      clear hold hnew
      go_simp
      first | (refine (makeL_is _ _ _ _ _ _ h4 h5 h6 HC.out).mono ?_; rintro e w3 ⟨rfl, hbb⟩; refine hK _ _ hbb (fun sq hsq => ?_)) | refine hK _ _ (Below.refl _ _) (fun sq hsq => ?_)
      obtain rfl := Option.some.inj hsq
      exact ⟨(show (_ : Value) = (.agg #[.int .u64 c, .int .u64 d]) from (by first | rfl | (simp [*]; done))), fun h => absurd rfl h⟩
    · intro o aa ww ho hG hold hnew K hK
      obtain rfl := Option.some.inj ho
      clear hold hnew
      go_simp
      refine hK _ _ ((Below.refl _ _).alloc (Nat.le_refl _) _) (fun sq hsq => ?_)
      obtain rfl := Option.some.inj hsq
      exact ⟨⟨_, rfl, hG.size, heap_new_at rfl⟩, fun _ g hg => by (first | (obtain rfl := Option.some.inj hg; exact Nat.le_refl _) | (simp [blkOf] at hg; omega))⟩
    · intro o aa ww ho hG hold hnew K hK
      obtain rfl := Option.some.inj ho
      clear hold hnew
      go_simp
      refine hK _ _ ((Below.refl _ _).alloc (Nat.le_refl _) _) (fun sq hsq => ?_)
      obtain rfl := Option.some.inj hsq
      exact ⟨⟨_, rfl, hG.size, heap_new_at rfl⟩, fun _ g hg => by (first | (obtain rfl := Option.some.inj hg; exact Nat.le_refl _) | (simp [blkOf] at hg; omega))⟩
    · intro U ww hbr hU hI
      have u15 : U 15 = (.agg #[.int .u64 l1, .int .u64 m1, .int .u8 n1]) := hU 15 rfl
      have u16 : U 16 = (.agg #[.int .u64 a, .int .u64 b]) := hU 16 rfl
      have u17 : U 17 = (.agg #[.int .u64 l2, .int .u64 m2, .int .u8 n2]) := hU 17 rfl
      have u18 : U 18 = (.agg #[.int .u64 c, .int .u64 d]) := hU 18 rfl
      obtain ⟨g7, u7, hg7, hk7⟩ : ∃ g, U 7 = .pointer (some ⟨g, 0, none⟩) ∧ _ ≤ g ∧ ww.heap[g]? = some (.cells (#[.int .u64 0, .int .u64 0]) (27) (0, 0)) := hU 7 rfl
      obtain ⟨g8, u8, hg8, hk8⟩ : ∃ g, U 8 = .pointer (some ⟨g, 0, none⟩) ∧ _ ≤ g ∧ ww.heap[g]? = some (.cells (#[.int .u64 0, .int .u64 0]) (27) (0, 0)) := hU 8 rfl
      have hi7_0 : ww.cell? ⟨g7, 0, none⟩ = some (.int .u64 0) := cellH hk7 rfl
      have hj7_0 := frzH (i := 0) hk7
      have hi7_1 : ww.cell? ⟨g7, 1, none⟩ = some (.int .u64 0) := cellH hk7 rfl
      have hj7_1 := frzH (i := 1) hk7
      have hi8_0 : ww.cell? ⟨g8, 0, none⟩ = some (.int .u64 0) := cellH hk8 rfl
      have hj8_0 := frzH (i := 0) hk8
      have hi8_1 : ww.cell? ⟨g8, 1, none⟩ = some (.int .u64 0) := cellH hk8 rfl
      have hj8_1 := frzH (i := 1) hk8
      have n7_8 : g7 ≠ g8 := fun e => hI 7 8 rfl rfl (by decide) (by intro h; cases h) (by intro h; cases h) (by rw [u7, u8, e]; first | done | rfl)
      have n8_7 : g8 ≠ g7 := Ne.symm n7_8
      clear hU hI
      simp only [setAll, dsts, List.take_succ_cons, List.take_zero, List.filterMap_cons, List.filterMap_nil, List.drop_succ_cons, List.drop_zero, List.setIfInBounds_toArray, List.set_cons_succ, List.set_cons_zero, u15, u16, u17, u18, u7, u8]
      clear u15 u16 u17 u18 u7 u8
      go_wp2_with (fail)
      go_meet
      refine ⟨g7, g8, rfl, rfl, ?_, ?_, ?_, ?_, ?_⟩
      · repeat (first | exact Below.refl _ _ | assumption | refine Below.drew ?_ | refine Below.setCell ?_ (by first | (simp; done) | omega | (simp; omega)) _ | refine Below.alloc ?_ (by first | (simp; done) | omega | (simp; omega)) _ | refine bdrewN ?_ _ | refine bstep ?_ (by assumption) (by first | (simp; done) | omega | (simp; omega)))
      all_goals go_simp
  case rest =>
    obtain ⟨g7, g8, rfl, rfl, hbx, c70, c71, c80, c81⟩ := hcut
    have hBx : Below w.heap.size w wc := hBW.trans (hbx.mono hBW.size)
    have hNx := hn.next hBx
    have hzx := hBx.size
    have hl7 := World.block_lt_of_cell? _ _ c70
    have hl8 := World.block_lt_of_cell? _ _ c80
    simp only at hl7 hl8
    clear hbx hNW hBW hx1_0 hx1_1 hx1_2 hx1_3 hx1_4 hx1_5 h1 h2 h3 h4 h5 h6
    go_wp2_with (first
      | ((go_at_call 18; refine (less_is _ _ _ _ _ _ _ hNx ha1 hb2' hc2' hd1' HM.out).mono ?_; rintro e w2 ⟨rfl, hb2⟩; have hz2 := hb2.size; (try simp at hz2); have hx2_0 : w2.cell? ⟨g7, 0, none⟩ = some (.int .u64 a) := cellk hb2 (by first | (simp; done) | (simp; omega) | omega) (by first | assumption | (simp; done) | (simp; assumption) | (go_simp; done)); have hx2_1 : w2.cell? ⟨g7, 1, none⟩ = some (.int .u64 b) := cellk hb2 (by first | (simp; done) | (simp; omega) | omega) (by first | assumption | (simp; done) | (simp; assumption) | (go_simp; done)); have hx2_2 : w2.cell? ⟨g8, 0, none⟩ = some (.int .u64 c) := cellk hb2 (by first | (simp; done) | (simp; omega) | omega) (by first | assumption | (simp; done) | (simp; assumption) | (go_simp; done)); have hx2_3 : w2.cell? ⟨g8, 1, none⟩ = some (.int .u64 d) := cellk hb2 (by first | (simp; done) | (simp; omega) | omega) (by first | assumption | (simp; done) | (simp; assumption) | (go_simp; done))); have hm7 : g7 < w2.heap.size := (by omega); have hm8 : g8 < w2.heap.size := (by omega); have hk7 : g7 ≠ w2.heap.size := (by omega); have hk8 : g8 ≠ w2.heap.size := (by omega); have hk7' : g7 ≠ w2.heap.size + 1 := (by omega); have hk8' : g8 ≠ w2.heap.size + 1 := (by omega); have hm7' : g7 < w2.heap.size + 1 := (by omega); have hm8' : g8 < w2.heap.size + 1 := (by omega))
      | (go_at_call 11; refine (times_any t _ 4 4 [(a, b), (c, d), (e, f), (y, z)] _ ht (by simp) rfl (by omega) (flat_cells (heap_new_at (by simp))) (by simp; omega)).mono ?_; rintro e' w3 ⟨v3, ks, rfl, hown3, hks, hlen3, hb3⟩; have HL := Lib.hid hlen3; have hll : 0 < ks.length := (by omega); have hlu : ks.length ≤ 1000 := (by omega); clear hlen3; obtain ⟨A3, c3, rfl, hc3⟩ := owns_form hown3; obtain ⟨g3, rfl, hg3, hg3', hcell3⟩ := owns_at hown3 hll; have hz3 := hb3.size; simp at hz3; have hx3_0 : w3.cell? ⟨g7, 0, none⟩ = some (.int .u64 a) := cellk hb3 (by first | (simp; done) | (simp; omega) | omega) (by first | assumption | (simp; done) | (simp; assumption) | (go_simp; done)); have hx3_1 : w3.cell? ⟨g7, 1, none⟩ = some (.int .u64 b) := cellk hb3 (by first | (simp; done) | (simp; omega) | omega) (by first | assumption | (simp; done) | (simp; assumption) | (go_simp; done)); have hx3_2 : w3.cell? ⟨g8, 0, none⟩ = some (.int .u64 c) := cellk hb3 (by first | (simp; done) | (simp; omega) | omega) (by first | assumption | (simp; done) | (simp; assumption) | (go_simp; done)); have hx3_3 : w3.cell? ⟨g8, 1, none⟩ = some (.int .u64 d) := cellk hb3 (by first | (simp; done) | (simp; omega) | omega) (by first | assumption | (simp; done) | (simp; assumption) | (go_simp; done)); have hx3_4 : w3.cell? ⟨w2.heap.size, 0, none⟩ = some (.int .u64 e) := cellk hb3 (by first | (simp; done) | (simp; omega) | omega) (by first | assumption | (simp; done) | (simp; assumption) | (go_simp; done)); have hx3_5 : w3.cell? ⟨w2.heap.size, 1, none⟩ = some (.int .u64 f) := cellk hb3 (by first | (simp; done) | (simp; omega) | omega) (by first | assumption | (simp; done) | (simp; assumption) | (go_simp; done)); have hx3_6 : w3.cell? ⟨w2.heap.size + 1, 0, none⟩ = some (.int .u64 y) := cellk hb3 (by first | (simp; done) | (simp; omega) | omega) (by first | assumption | (simp; done) | (simp; assumption) | (go_simp; done)); have hx3_7 : w3.cell? ⟨w2.heap.size + 1, 1, none⟩ = some (.int .u64 z) := cellk hb3 (by first | (simp; done) | (simp; omega) | omega) (by first | assumption | (simp; done) | (simp; assumption) | (go_simp; done))))
    have hB3 : Below w.heap.size w w3 := by repeat (first | exact Below.refl _ _ | assumption | refine Below.drew ?_ | refine Below.setCell ?_ (by first | (simp; done) | omega | (simp; omega)) _ | refine Below.alloc ?_ (by first | (simp; done) | omega | (simp; omega)) _ | refine bdrewN ?_ _ | refine bstep ?_ (by assumption) (by first | (simp; done) | omega | (simp; omega)))
    have hl73 := World.block_lt_of_cell? _ _ hx3_0
    have hl83 := World.block_lt_of_cell? _ _ hx3_2
    have hl93 := World.block_lt_of_cell? _ _ hx3_4
    have hlA3 := World.block_lt_of_cell? _ _ hx3_6
    simp only at hl73 hl83 hl93 hlA3
    clear hb3 hown3 hc3 c70 c71 c80 c81 hNx hBx hl7 hl8 hb2 hx2_0 hx2_1 hx2_2 hx2_3 hm7 hm8 hk7 hk8 hk7' hk8' hm7' hm8'
    go_loopw [33] (fun i wr => ∃ k : Nat, k ≤ ks.length ∧ i = .int .i64 k ∧ Below w3.heap.size w3 wr) (fun i _ => ks.length - (intOf i).toNat)
    case atStart => exact ⟨0, Nat.zero_le _, rfl, Below.refl _ _⟩
    case round =>
      obtain ⟨k, hk, rfl, hb⟩ := hrel
      have hsz := hb.size
      have hd0 := cellk hb (p := ⟨g7, 0, none⟩) hl73 hx3_0
      have hd1 := cellk hb (p := ⟨g7, 1, none⟩) hl73 hx3_1
      have hd2 := cellk hb (p := ⟨g8, 0, none⟩) hl83 hx3_2
      have hd3 := cellk hb (p := ⟨g8, 1, none⟩) hl83 hx3_3
      have hd4 := cellk hb (p := ⟨w2.heap.size, 0, none⟩) hl93 hx3_4
      have hd5 := cellk hb (p := ⟨w2.heap.size, 1, none⟩) hl93 hx3_5
      have hd6 := cellk hb (p := ⟨w2.heap.size + 1, 0, none⟩) hlA3 hx3_6
      have hd7 := cellk hb (p := ⟨w2.heap.size + 1, 1, none⟩) hlA3 hx3_7
      have hq7 : g7 < wr.heap.size := by omega
      have hq8 : g8 < wr.heap.size := by omega
      have hq9 : w2.heap.size < wr.heap.size := by omega
      have hqA : w2.heap.size + 1 < wr.heap.size := by omega
      clear hx3_0 hx3_1 hx3_2 hx3_3 hx3_4 hx3_5 hx3_6 hx3_7
      by_cases hlt : k < ks.length
      · have hs : ks[k]? = some ks[k] := List.getElem?_eq_getElem hlt
        have hc := hcell3 k (.int .u64 ks[k]) (by rw [List.getElem?_map, hs]; rfl)
        have hdk := cellk hb (p := ⟨g3, k, none⟩) hg3' hc
        have hx1 := hks _ (List.getElem_mem hlt)
        generalize ks[k] = s at hc hx1 hs hdk
        have hin0 : (0 : Int) ≤ (k : Int) := by omega
        have hin1 : (k : Int) < (ks.length : Int) := by omega
        obtain ⟨X, hX⟩ : ∃ X, inB a b s = X := ⟨_, rfl⟩
        obtain ⟨Y, hY⟩ : ∃ Y, inB c d s = Y := ⟨_, rfl⟩
        obtain ⟨E, hE⟩ : ∃ Y, inB e f s = Y := ⟨_, rfl⟩
        obtain ⟨Z, hZ⟩ : ∃ Y, inB y z s = Y := ⟨_, rfl⟩
        have hlaw := HE.out s E Z X Y hE hZ hX hY
        clear hcell3 hks hc hs HE HL HP1 HP2 HM HA HC HN
        have HX := Lib.hid hX
        have HY := Lib.hid hY
        have HE := Lib.hid hE
        have HZ := Lib.hid hZ
        clear hX hY hE hZ
        have hL1 : (E || Z) = (X && !Y) := by rcases hlaw with ⟨rfl, rfl, rfl, rfl, _⟩ | ⟨rfl, rfl, rfl, rfl⟩ | ⟨rfl, rfl, rfl, rfl, _⟩ | ⟨rfl, rfl, rfl⟩ <;> rfl
        have hL2 : (E && Z) = false := by rcases hlaw with ⟨rfl, rfl, rfl, rfl, _⟩ | ⟨rfl, rfl, rfl, rfl⟩ | ⟨rfl, rfl, rfl, rfl, _⟩ | ⟨rfl, rfl, rfl⟩ <;> rfl
        have hL3 : c ≤ d → E = true → s < c := by rcases hlaw with ⟨rfl, rfl, rfl, rfl, h⟩ | ⟨rfl, rfl, rfl, rfl⟩ | ⟨rfl, rfl, rfl, rfl, _⟩ | ⟨rfl, rfl, rfl⟩ <;> simp; exact h
        have hL4 : c ≤ d → Z = true → d < s := by rcases hlaw with ⟨rfl, rfl, rfl, rfl, _⟩ | ⟨rfl, rfl, rfl, rfl⟩ | ⟨rfl, rfl, rfl, rfl, h⟩ | ⟨rfl, rfl, rfl⟩ <;> simp; exact h
        have HL := Lib.hid hL1
        have HL2 := Lib.hid hL2
        have HL3 := Lib.hid hL3
        have HL4 := Lib.hid hL4
        clear hL1 hL2 hL3 hL4 hlaw
        go_wp2_with (fail)
        refine wp_region_steps 28 (fun sq => match sq with | 37 => .agg #[.int .u64 e, .int .u64 f] | 38 => .int .u64 s | 39 => .bool E | 40 => .bool E | 41 => if E then undef else .agg #[.int .u64 y, .int .u64 z] | 42 => if E then undef else .int .u64 s | 43 => if E then undef else .bool Z | 44 => .bool (E || Z) | 45 => .agg #[.int .u64 a, .int .u64 b] | 46 => .int .u64 s | 47 => .bool X | 48 => .bool X | 49 => if X then .agg #[.int .u64 c, .int .u64 d] else undef | 50 => if X then .int .u64 s else undef | 51 => if X then .bool Y else undef | 52 => if X then .bool (!Y) else undef | 53 => .bool (X && !Y) | 54 => .bool false | 55 => .bool false | 56 => .agg #[.int .u64 e, .int .u64 f] | 57 => .int .u64 s | 58 => .bool E | 59 => .bool E | 60 => if E then .agg #[.int .u64 y, .int .u64 z] else undef | 61 => if E then .int .u64 s else undef | 62 => if E then .bool Z else undef | 63 => .bool false | 64 => .bool false | _ => undef) (fun sq => match sq with  | _ => none) (by kernel_rfl) (by kernel_rfl) (by kernel_rfl) (by kernel_rfl) rfl (steps_succ (steps_succ (steps_succ (steps_succ (steps_succ (steps_succ (steps_succ (steps_succ (steps_succ (steps_succ (steps_succ (steps_succ (steps_succ (steps_succ (steps_succ (steps_succ (steps_succ (steps_succ (steps_succ (steps_succ (steps_succ (steps_succ (steps_succ (steps_succ (steps_succ (steps_succ (steps_succ (steps_succ steps_zero ?_) ?_) ?_) ?_) ?_) ?_) ?_) ?_) ?_) ?_) ?_) ?_) ?_) ?_) ?_) ?_) ?_) ?_) ?_) ?_) ?_) ?_) ?_) ?_) ?_) ?_) ?_) ?_) ?_
        · intro o aa ww ho hG hold hnew K hK
          obtain rfl := Option.some.inj ho
          have s9 : aa.tmps[9]? = some (.pointer (some ⟨w2.heap.size, 0, none⟩)) := hold 9 rfl
          clear hold hnew
          have c0 := cellk hG hq9 hd4; have c1 := cellk hG hq9 hd5
          go_simp
          refine hK _ _ (Below.refl _ _) (fun sq hsq => ?_)
          obtain rfl := Option.some.inj hsq
          exact ⟨(show (_ : Value) = (.agg #[.int .u64 e, .int .u64 f]) from (by first | rfl | (simp [*]; done))), fun h => absurd rfl h⟩
        · intro o aa ww ho hG hold hnew K hK
          obtain rfl := Option.some.inj ho
          have s12 : aa.tmps[12]? = some (.int .u64 s) := hold 12 rfl
          clear hold hnew
          go_simp
          refine hK _ _ (Below.refl _ _) (fun sq hsq => ?_)
          obtain rfl := Option.some.inj hsq
          exact ⟨(show (_ : Value) = (.int .u64 s) from (by first | rfl | (simp [*]; done))), fun h => absurd rfl h⟩
        · intro o aa ww ho hG hold hnew K hK
          obtain rfl := Option.some.inj ho
          obtain ⟨x37, s37, e37⟩ := hnew 37 (by kernel_rfl)
          obtain rfl : x37 = (.agg #[.int .u64 e, .int .u64 f]) := e37
          obtain ⟨x38, s38, e38⟩ := hnew 38 (by kernel_rfl)
          obtain rfl : x38 = (.int .u64 s) := e38
          clear hold hnew
          go_simp
          first | (refine (in_is _ _ _ _ HE.out _).mono ?_; rintro e' w4 ⟨rfl, hbb⟩; refine hK _ _ hbb (fun sq hsq => ?_)) | refine hK _ _ (Below.refl _ _) (fun sq hsq => ?_)
          obtain rfl := Option.some.inj hsq
          exact ⟨(show (_ : Value) = (.bool E) from (by first | rfl | (simp [*]; done))), fun h => absurd rfl h⟩
        · intro o aa ww ho hG hold hnew K hK
          obtain rfl := Option.some.inj ho
          obtain ⟨x39, s39, e39⟩ := hnew 39 (by kernel_rfl)
          obtain rfl : x39 = (.bool E) := e39
          clear hold hnew
          go_simp
          refine hK _ _ (Below.refl _ _) (fun sq hsq => ?_)
          obtain rfl := Option.some.inj hsq
          exact ⟨(show (_ : Value) = (.bool E) from (by first | rfl | (simp [*]; done))), fun h => absurd rfl h⟩
        · intro o aa ww ho hG hold hnew K hK
          obtain rfl := Option.some.inj ho
          have s10 : aa.tmps[10]? = some (.pointer (some ⟨w2.heap.size + 1, 0, none⟩)) := hold 10 rfl
          obtain ⟨x40, s40, e40⟩ := hnew 40 (by kernel_rfl)
          obtain rfl : x40 = (.bool E) := e40
          clear hold hnew
          cases E
          all_goals
            (try simp only [if_true, if_false, Bool.false_eq_true] at s40)
            have c0 := cellk hG hqA hd6; have c1 := cellk hG hqA hd7
            go_simp
            refine hK _ _ (Below.refl _ _) (fun sq hsq => ?_)
            obtain rfl := Option.some.inj hsq
            exact ⟨(by first | rfl | (simp; done) | (simp [*]; done)), fun h => absurd rfl h⟩
        · intro o aa ww ho hG hold hnew K hK
          obtain rfl := Option.some.inj ho
          have s12 : aa.tmps[12]? = some (.int .u64 s) := hold 12 rfl
          obtain ⟨x40, s40, e40⟩ := hnew 40 (by kernel_rfl)
          obtain rfl : x40 = (.bool E) := e40
          clear hold hnew
          cases E
          all_goals
            (try simp only [if_true, if_false, Bool.false_eq_true] at s40)
            go_simp
            refine hK _ _ (Below.refl _ _) (fun sq hsq => ?_)
            obtain rfl := Option.some.inj hsq
            exact ⟨(by first | rfl | (simp; done) | (simp [*]; done)), fun h => absurd rfl h⟩
        · intro o aa ww ho hG hold hnew K hK
          obtain rfl := Option.some.inj ho
          obtain ⟨x40, s40, e40⟩ := hnew 40 (by kernel_rfl)
          obtain rfl : x40 = (.bool E) := e40
          obtain ⟨x41, s41, e41⟩ := hnew 41 (by kernel_rfl)
          obtain rfl : x41 = (if E then undef else .agg #[.int .u64 y, .int .u64 z]) := e41
          obtain ⟨x42, s42, e42⟩ := hnew 42 (by kernel_rfl)
          obtain rfl : x42 = (if E then undef else .int .u64 s) := e42
          clear hold hnew
          cases E
          all_goals
            (try simp only [if_true, if_false, Bool.false_eq_true] at s40 s41 s42)
            go_simp
            first | (refine (in_is _ _ _ _ HZ.out _).mono ?_; rintro e' w4 ⟨rfl, hbb⟩; refine hK _ _ hbb (fun sq hsq => ?_)) | refine hK _ _ (Below.refl _ _) (fun sq hsq => ?_)
            obtain rfl := Option.some.inj hsq
            exact ⟨(by first | rfl | (simp; done) | (simp [*]; done)), fun h => absurd rfl h⟩
        · intro o aa ww ho hG hold hnew K hK
          obtain rfl := Option.some.inj ho
          obtain ⟨x40, s40, e40⟩ := hnew 40 (by kernel_rfl)
          obtain rfl : x40 = (.bool E) := e40
          obtain ⟨x43, s43, e43⟩ := hnew 43 (by kernel_rfl)
          obtain rfl : x43 = (if E then undef else .bool Z) := e43
          clear hold hnew
          cases E
          all_goals
            (try simp only [if_true, if_false, Bool.false_eq_true] at s40 s43)
            go_simp
            refine hK _ _ (Below.refl _ _) (fun sq hsq => ?_)
            obtain rfl := Option.some.inj hsq
            exact ⟨(by first | rfl | (simp; done) | (simp [*]; done)), fun h => absurd rfl h⟩
        · intro o aa ww ho hG hold hnew K hK
          obtain rfl := Option.some.inj ho
          have s7 : aa.tmps[7]? = some (.pointer (some ⟨g7, 0, none⟩)) := hold 7 rfl
          clear hold hnew
          have c0 := cellk hG hq7 hd0; have c1 := cellk hG hq7 hd1
          go_simp
          refine hK _ _ (Below.refl _ _) (fun sq hsq => ?_)
          obtain rfl := Option.some.inj hsq
          exact ⟨(show (_ : Value) = (.agg #[.int .u64 a, .int .u64 b]) from (by first | rfl | (simp [*]; done))), fun h => absurd rfl h⟩
        · intro o aa ww ho hG hold hnew K hK
          obtain rfl := Option.some.inj ho
          have s12 : aa.tmps[12]? = some (.int .u64 s) := hold 12 rfl
          clear hold hnew
          go_simp
          refine hK _ _ (Below.refl _ _) (fun sq hsq => ?_)
          obtain rfl := Option.some.inj hsq
          exact ⟨(show (_ : Value) = (.int .u64 s) from (by first | rfl | (simp [*]; done))), fun h => absurd rfl h⟩
        · intro o aa ww ho hG hold hnew K hK
          obtain rfl := Option.some.inj ho
          obtain ⟨x45, s45, e45⟩ := hnew 45 (by kernel_rfl)
          obtain rfl : x45 = (.agg #[.int .u64 a, .int .u64 b]) := e45
          obtain ⟨x46, s46, e46⟩ := hnew 46 (by kernel_rfl)
          obtain rfl : x46 = (.int .u64 s) := e46
          clear hold hnew
          go_simp
          first | (refine (in_is _ _ _ _ HX.out _).mono ?_; rintro e' w4 ⟨rfl, hbb⟩; refine hK _ _ hbb (fun sq hsq => ?_)) | refine hK _ _ (Below.refl _ _) (fun sq hsq => ?_)
          obtain rfl := Option.some.inj hsq
          exact ⟨(show (_ : Value) = (.bool X) from (by first | rfl | (simp [*]; done))), fun h => absurd rfl h⟩
        · intro o aa ww ho hG hold hnew K hK
          obtain rfl := Option.some.inj ho
          obtain ⟨x47, s47, e47⟩ := hnew 47 (by kernel_rfl)
          obtain rfl : x47 = (.bool X) := e47
          clear hold hnew
          go_simp
          refine hK _ _ (Below.refl _ _) (fun sq hsq => ?_)
          obtain rfl := Option.some.inj hsq
          exact ⟨(show (_ : Value) = (.bool X) from (by first | rfl | (simp [*]; done))), fun h => absurd rfl h⟩
        · intro o aa ww ho hG hold hnew K hK
          obtain rfl := Option.some.inj ho
          have s8 : aa.tmps[8]? = some (.pointer (some ⟨g8, 0, none⟩)) := hold 8 rfl
          obtain ⟨x48, s48, e48⟩ := hnew 48 (by kernel_rfl)
          obtain rfl : x48 = (.bool X) := e48
          clear hold hnew
          cases X
          all_goals
            (try simp only [if_true, if_false, Bool.false_eq_true] at s48)
            have c0 := cellk hG hq8 hd2; have c1 := cellk hG hq8 hd3
            go_simp
            refine hK _ _ (Below.refl _ _) (fun sq hsq => ?_)
            obtain rfl := Option.some.inj hsq
            exact ⟨(by first | rfl | (simp; done) | (simp [*]; done)), fun h => absurd rfl h⟩
        · intro o aa ww ho hG hold hnew K hK
          obtain rfl := Option.some.inj ho
          have s12 : aa.tmps[12]? = some (.int .u64 s) := hold 12 rfl
          obtain ⟨x48, s48, e48⟩ := hnew 48 (by kernel_rfl)
          obtain rfl : x48 = (.bool X) := e48
          clear hold hnew
          cases X
          all_goals
            (try simp only [if_true, if_false, Bool.false_eq_true] at s48)
            go_simp
            refine hK _ _ (Below.refl _ _) (fun sq hsq => ?_)
            obtain rfl := Option.some.inj hsq
            exact ⟨(by first | rfl | (simp; done) | (simp [*]; done)), fun h => absurd rfl h⟩
        · intro o aa ww ho hG hold hnew K hK
          obtain rfl := Option.some.inj ho
          obtain ⟨x48, s48, e48⟩ := hnew 48 (by kernel_rfl)
          obtain rfl : x48 = (.bool X) := e48
          obtain ⟨x49, s49, e49⟩ := hnew 49 (by kernel_rfl)
          obtain rfl : x49 = (if X then .agg #[.int .u64 c, .int .u64 d] else undef) := e49
          obtain ⟨x50, s50, e50⟩ := hnew 50 (by kernel_rfl)
          obtain rfl : x50 = (if X then .int .u64 s else undef) := e50
          clear hold hnew
          cases X
          all_goals
            (try simp only [if_true, if_false, Bool.false_eq_true] at s48 s49 s50)
            go_simp
            first | (refine (in_is _ _ _ _ HY.out _).mono ?_; rintro e' w4 ⟨rfl, hbb⟩; refine hK _ _ hbb (fun sq hsq => ?_)) | refine hK _ _ (Below.refl _ _) (fun sq hsq => ?_)
            obtain rfl := Option.some.inj hsq
            exact ⟨(by first | rfl | (simp; done) | (simp [*]; done)), fun h => absurd rfl h⟩
        · intro o aa ww ho hG hold hnew K hK
          obtain rfl := Option.some.inj ho
          obtain ⟨x48, s48, e48⟩ := hnew 48 (by kernel_rfl)
          obtain rfl : x48 = (.bool X) := e48
          obtain ⟨x51, s51, e51⟩ := hnew 51 (by kernel_rfl)
          obtain rfl : x51 = (if X then .bool Y else undef) := e51
          clear hold hnew
          cases X
          all_goals
            (try simp only [if_true, if_false, Bool.false_eq_true] at s48 s51)
            go_simp
            refine hK _ _ (Below.refl _ _) (fun sq hsq => ?_)
            obtain rfl := Option.some.inj hsq
            exact ⟨(by first | rfl | (simp; done) | (simp [*]; done)), fun h => absurd rfl h⟩
        · intro o aa ww ho hG hold hnew K hK
          obtain rfl := Option.some.inj ho
          obtain ⟨x48, s48, e48⟩ := hnew 48 (by kernel_rfl)
          obtain rfl : x48 = (.bool X) := e48
          obtain ⟨x52, s52, e52⟩ := hnew 52 (by kernel_rfl)
          obtain rfl : x52 = (if X then .bool (!Y) else undef) := e52
          clear hold hnew
          cases X
          all_goals
            (try simp only [if_true, if_false, Bool.false_eq_true] at s48 s52)
            go_simp
            refine hK _ _ (Below.refl _ _) (fun sq hsq => ?_)
            obtain rfl := Option.some.inj hsq
            exact ⟨(by first | rfl | (simp; done) | (simp [*]; done)), fun h => absurd rfl h⟩
        · intro o aa ww ho hG hold hnew K hK
          obtain rfl := Option.some.inj ho
          obtain ⟨x44, s44, e44⟩ := hnew 44 (by kernel_rfl)
          obtain rfl : x44 = (.bool (E || Z)) := e44
          obtain ⟨x53, s53, e53⟩ := hnew 53 (by kernel_rfl)
          obtain rfl : x53 = (.bool (X && !Y)) := e53
          clear hold hnew
          have q := HL.out
          go_simp
          refine hK _ _ (Below.refl _ _) (fun sq hsq => ?_)
          obtain rfl := Option.some.inj hsq
          exact ⟨(show (_ : Value) = (.bool false) from (by first | rfl | (simp [*]; done))), fun h => absurd rfl h⟩
        · intro o aa ww ho hG hold hnew K hK
          obtain rfl := Option.some.inj ho
          obtain ⟨x54, s54, e54⟩ := hnew 54 (by kernel_rfl)
          obtain rfl : x54 = (.bool false) := e54
          clear hold hnew
          go_simp
          refine hK _ _ (Below.refl _ _) (fun sq hsq => ?_)
          obtain rfl := Option.some.inj hsq
          exact ⟨(show (_ : Value) = (.bool false) from (by first | rfl | (simp [*]; done))), fun h => absurd rfl h⟩
        · intro o aa ww ho hG hold hnew K hK
          obtain rfl := Option.some.inj ho
          have s9 : aa.tmps[9]? = some (.pointer (some ⟨w2.heap.size, 0, none⟩)) := hold 9 rfl
          obtain ⟨x55, s55, e55⟩ := hnew 55 (by kernel_rfl)
          obtain rfl : x55 = (.bool false) := e55
          clear hold hnew
          have c0 := cellk hG hq9 hd4; have c1 := cellk hG hq9 hd5
          go_simp
          refine hK _ _ (Below.refl _ _) (fun sq hsq => ?_)
          obtain rfl := Option.some.inj hsq
          exact ⟨(show (_ : Value) = (.agg #[.int .u64 e, .int .u64 f]) from (by first | rfl | (simp [*]; done))), fun h => absurd rfl h⟩
        · intro o aa ww ho hG hold hnew K hK
          obtain rfl := Option.some.inj ho
          have s12 : aa.tmps[12]? = some (.int .u64 s) := hold 12 rfl
          obtain ⟨x55, s55, e55⟩ := hnew 55 (by kernel_rfl)
          obtain rfl : x55 = (.bool false) := e55
          clear hold hnew
          go_simp
          refine hK _ _ (Below.refl _ _) (fun sq hsq => ?_)
          obtain rfl := Option.some.inj hsq
          exact ⟨(show (_ : Value) = (.int .u64 s) from (by first | rfl | (simp [*]; done))), fun h => absurd rfl h⟩
        · intro o aa ww ho hG hold hnew K hK
          obtain rfl := Option.some.inj ho
          obtain ⟨x55, s55, e55⟩ := hnew 55 (by kernel_rfl)
          obtain rfl : x55 = (.bool false) := e55
          obtain ⟨x56, s56, e56⟩ := hnew 56 (by kernel_rfl)
          obtain rfl : x56 = (.agg #[.int .u64 e, .int .u64 f]) := e56
          obtain ⟨x57, s57, e57⟩ := hnew 57 (by kernel_rfl)
          obtain rfl : x57 = (.int .u64 s) := e57
          clear hold hnew
          go_simp
          first | (refine (in_is _ _ _ _ HE.out _).mono ?_; rintro e' w4 ⟨rfl, hbb⟩; refine hK _ _ hbb (fun sq hsq => ?_)) | refine hK _ _ (Below.refl _ _) (fun sq hsq => ?_)
          obtain rfl := Option.some.inj hsq
          exact ⟨(show (_ : Value) = (.bool E) from (by first | rfl | (simp [*]; done))), fun h => absurd rfl h⟩
        · intro o aa ww ho hG hold hnew K hK
          obtain rfl := Option.some.inj ho
          obtain ⟨x55, s55, e55⟩ := hnew 55 (by kernel_rfl)
          obtain rfl : x55 = (.bool false) := e55
          obtain ⟨x58, s58, e58⟩ := hnew 58 (by kernel_rfl)
          obtain rfl : x58 = (.bool E) := e58
          clear hold hnew
          go_simp
          refine hK _ _ (Below.refl _ _) (fun sq hsq => ?_)
          obtain rfl := Option.some.inj hsq
          exact ⟨(show (_ : Value) = (.bool E) from (by first | rfl | (simp [*]; done))), fun h => absurd rfl h⟩
        · intro o aa ww ho hG hold hnew K hK
          obtain rfl := Option.some.inj ho
          have s10 : aa.tmps[10]? = some (.pointer (some ⟨w2.heap.size + 1, 0, none⟩)) := hold 10 rfl
          obtain ⟨x59, s59, e59⟩ := hnew 59 (by kernel_rfl)
          obtain rfl : x59 = (.bool E) := e59
          clear hold hnew
          cases E
          all_goals
            (try simp only [if_true, if_false, Bool.false_eq_true] at s59)
            have c0 := cellk hG hqA hd6; have c1 := cellk hG hqA hd7
            go_simp
            refine hK _ _ (Below.refl _ _) (fun sq hsq => ?_)
            obtain rfl := Option.some.inj hsq
            exact ⟨(by first | rfl | (simp; done) | (simp [*]; done)), fun h => absurd rfl h⟩
        · intro o aa ww ho hG hold hnew K hK
          obtain rfl := Option.some.inj ho
          have s12 : aa.tmps[12]? = some (.int .u64 s) := hold 12 rfl
          obtain ⟨x59, s59, e59⟩ := hnew 59 (by kernel_rfl)
          obtain rfl : x59 = (.bool E) := e59
          clear hold hnew
          cases E
          all_goals
            (try simp only [if_true, if_false, Bool.false_eq_true] at s59)
            go_simp
            refine hK _ _ (Below.refl _ _) (fun sq hsq => ?_)
            obtain rfl := Option.some.inj hsq
            exact ⟨(by first | rfl | (simp; done) | (simp [*]; done)), fun h => absurd rfl h⟩
        · intro o aa ww ho hG hold hnew K hK
          obtain rfl := Option.some.inj ho
          obtain ⟨x59, s59, e59⟩ := hnew 59 (by kernel_rfl)
          obtain rfl : x59 = (.bool E) := e59
          obtain ⟨x60, s60, e60⟩ := hnew 60 (by kernel_rfl)
          obtain rfl : x60 = (if E then .agg #[.int .u64 y, .int .u64 z] else undef) := e60
          obtain ⟨x61, s61, e61⟩ := hnew 61 (by kernel_rfl)
          obtain rfl : x61 = (if E then .int .u64 s else undef) := e61
          clear hold hnew
          cases E
          all_goals
            (try simp only [if_true, if_false, Bool.false_eq_true] at s59 s60 s61)
            go_simp
            first | (refine (in_is _ _ _ _ HZ.out _).mono ?_; rintro e' w4 ⟨rfl, hbb⟩; refine hK _ _ hbb (fun sq hsq => ?_)) | refine hK _ _ (Below.refl _ _) (fun sq hsq => ?_)
            obtain rfl := Option.some.inj hsq
            exact ⟨(by first | rfl | (simp; done) | (simp [*]; done)), fun h => absurd rfl h⟩
        · intro o aa ww ho hG hold hnew K hK
          obtain rfl := Option.some.inj ho
          obtain ⟨x55, s55, e55⟩ := hnew 55 (by kernel_rfl)
          obtain rfl : x55 = (.bool false) := e55
          obtain ⟨x59, s59, e59⟩ := hnew 59 (by kernel_rfl)
          obtain rfl : x59 = (.bool E) := e59
          obtain ⟨x62, s62, e62⟩ := hnew 62 (by kernel_rfl)
          obtain rfl : x62 = (if E then .bool Z else undef) := e62
          clear hold hnew
          cases E
          all_goals
            (try simp only [if_true, if_false, Bool.false_eq_true] at s55 s59 s62)
            have q := HL2.out; (try simp at q)
            go_simp
            refine hK _ _ (Below.refl _ _) (fun sq hsq => ?_)
            obtain rfl := Option.some.inj hsq
            exact ⟨(by first | rfl | (simp; done) | (simp [*]; done)), fun h => absurd rfl h⟩
        · intro o aa ww ho hG hold hnew K hK
          obtain rfl := Option.some.inj ho
          obtain ⟨x55, s55, e55⟩ := hnew 55 (by kernel_rfl)
          obtain rfl : x55 = (.bool false) := e55
          obtain ⟨x63, s63, e63⟩ := hnew 63 (by kernel_rfl)
          obtain rfl : x63 = (.bool false) := e63
          clear hold hnew
          go_simp
          refine hK _ _ (Below.refl _ _) (fun sq hsq => ?_)
          obtain rfl := Option.some.inj hsq
          exact ⟨(show (_ : Value) = (.bool false) from (by first | rfl | (simp [*]; done))), fun h => absurd rfl h⟩
        · intro U ww hbr hU hI
          have u37 : U 37 = (.agg #[.int .u64 e, .int .u64 f]) := hU 37 rfl
          have u38 : U 38 = (.int .u64 s) := hU 38 rfl
          have u39 : U 39 = (.bool E) := hU 39 rfl
          have u40 : U 40 = (.bool E) := hU 40 rfl
          have u41 : U 41 = (if E then undef else .agg #[.int .u64 y, .int .u64 z]) := hU 41 rfl
          have u42 : U 42 = (if E then undef else .int .u64 s) := hU 42 rfl
          have u43 : U 43 = (if E then undef else .bool Z) := hU 43 rfl
          have u44 : U 44 = (.bool (E || Z)) := hU 44 rfl
          have u45 : U 45 = (.agg #[.int .u64 a, .int .u64 b]) := hU 45 rfl
          have u46 : U 46 = (.int .u64 s) := hU 46 rfl
          have u47 : U 47 = (.bool X) := hU 47 rfl
          have u48 : U 48 = (.bool X) := hU 48 rfl
          have u49 : U 49 = (if X then .agg #[.int .u64 c, .int .u64 d] else undef) := hU 49 rfl
          have u50 : U 50 = (if X then .int .u64 s else undef) := hU 50 rfl
          have u51 : U 51 = (if X then .bool Y else undef) := hU 51 rfl
          have u52 : U 52 = (if X then .bool (!Y) else undef) := hU 52 rfl
          have u53 : U 53 = (.bool (X && !Y)) := hU 53 rfl
          have u54 : U 54 = (.bool false) := hU 54 rfl
          have u55 : U 55 = (.bool false) := hU 55 rfl
          have u56 : U 56 = (.agg #[.int .u64 e, .int .u64 f]) := hU 56 rfl
          have u57 : U 57 = (.int .u64 s) := hU 57 rfl
          have u58 : U 58 = (.bool E) := hU 58 rfl
          have u59 : U 59 = (.bool E) := hU 59 rfl
          have u60 : U 60 = (if E then .agg #[.int .u64 y, .int .u64 z] else undef) := hU 60 rfl
          have u61 : U 61 = (if E then .int .u64 s else undef) := hU 61 rfl
          have u62 : U 62 = (if E then .bool Z else undef) := hU 62 rfl
          have u63 : U 63 = (.bool false) := hU 63 rfl
          have u64 : U 64 = (.bool false) := hU 64 rfl
          clear hU hI
          simp only [setAll, dsts, List.take_succ_cons, List.take_zero, List.filterMap_cons, List.filterMap_nil, List.drop_succ_cons, List.drop_zero, List.setIfInBounds_toArray, List.set_cons_succ, List.set_cons_zero, u37, u38, u39, u40, u41, u42, u43, u44, u45, u46, u47, u48, u49, u50, u51, u52, u53, u54, u55, u56, u57, u58, u59, u60, u61, u62, u63, u64]
          clear u37 u38 u39 u40 u41 u42 u43 u44 u45 u46 u47 u48 u49 u50 u51 u52 u53 u54 u55 u56 u57 u58 u59 u60 u61 u62 u63 u64
          have c2 := cellk hbr hq8 hd2
          have c3 := cellk hbr hq8 hd3
          have c4 := cellk hbr hq9 hd4
          have c5 := cellk hbr hq9 hd5
          have c6 := cellk hbr hqA hd6
          have c7 := cellk hbr hqA hd7
          have hzr := hbr.size
          have hq8' : g8 < ww.heap.size := by omega
          have hq9' : w2.heap.size < ww.heap.size := by omega
          have hqA' : w2.heap.size + 1 < ww.heap.size := by omega
          have hBr := hb.trans (hbr.mono hsz)
          clear hd0 hd1 hd2 hd3 hd4 hd5 hd6 hd7 hx1 hdk HX HY HL hbr hb hzx hz2 hz1
          by_cases hcd : c ≤ d
          · have q3 := HL3.out hcd
            have q4 := HL4.out hcd
            have q2 := HL2.out
            clear HL2 HL3 HL4
            cases E <;> cases Z
            · clear q2 q3 q4
              go_wp2_with (first
                | (go_at_call 13; refine (in_is _ _ _ _ (by first | exact HE.out | exact HZ.out) _).mono ?_; rintro e' w6 ⟨rfl, hb6⟩; have hz6 := hb6.size; (try simp at hz6); have i2 := cellk hb6 (Nat.lt_of_lt_of_le hq8' hz5) (j2); have i3 := cellk hb6 (Nat.lt_of_lt_of_le hq8' hz5) (j3); have i6 := cellk hb6 (Nat.lt_of_lt_of_le hqA' hz5) (j6); have i7 := cellk hb6 (Nat.lt_of_lt_of_le hqA' hz5) (j7))
                | (go_at_call 13; refine (in_is _ _ _ _ (by first | exact HE.out | exact HZ.out) _).mono ?_; rintro e' w5 ⟨rfl, hb5⟩; have hz5 := hb5.size; (try simp at hz5); have j2 := cellk hb5 (hq8') (c2); have j3 := cellk hb5 (hq8') (c3); have j6 := cellk hb5 (hqA') (c6); have j7 := cellk hb5 (hqA') (c7); have j4 := cellk hb5 (hq9') (c4); have j5 := cellk hb5 (hq9') (c5)))
              go_roundw
              case rel => exact ⟨k + 1, by omega, by go_num, by repeat (first | exact Below.refl _ _ | assumption | refine Below.drew ?_ | refine Below.setCell ?_ (by first | (simp; done) | omega | (simp; omega)) _ | refine Below.alloc ?_ (by first | (simp; done) | omega | (simp; omega)) _ | refine bdrewN ?_ _ | refine bstep ?_ (by assumption) (by first | (simp; done) | omega | (simp; omega)))⟩
              case measure => simp [intOf]; omega
            · have hr2 : ¬ s ≤ d := by have := q4 rfl; omega
              clear q2 q3 q4
              go_wp2_with (first
                | (go_at_call 13; refine (in_is _ _ _ _ (by first | exact HE.out | exact HZ.out) _).mono ?_; rintro e' w6 ⟨rfl, hb6⟩; have hz6 := hb6.size; (try simp at hz6); have i2 := cellk hb6 (Nat.lt_of_lt_of_le hq8' hz5) (j2); have i3 := cellk hb6 (Nat.lt_of_lt_of_le hq8' hz5) (j3); have i6 := cellk hb6 (Nat.lt_of_lt_of_le hqA' hz5) (j6); have i7 := cellk hb6 (Nat.lt_of_lt_of_le hqA' hz5) (j7))
                | (go_at_call 13; refine (in_is _ _ _ _ (by first | exact HE.out | exact HZ.out) _).mono ?_; rintro e' w5 ⟨rfl, hb5⟩; have hz5 := hb5.size; (try simp at hz5); have j2 := cellk hb5 (hq8') (c2); have j3 := cellk hb5 (hq8') (c3); have j6 := cellk hb5 (hqA') (c6); have j7 := cellk hb5 (hqA') (c7); have j4 := cellk hb5 (hq9') (c4); have j5 := cellk hb5 (hq9') (c5)))
              go_roundw
              case rel => exact ⟨k + 1, by omega, by go_num, by repeat (first | exact Below.refl _ _ | assumption | refine Below.drew ?_ | refine Below.setCell ?_ (by first | (simp; done) | omega | (simp; omega)) _ | refine Below.alloc ?_ (by first | (simp; done) | omega | (simp; omega)) _ | refine bdrewN ?_ _ | refine bstep ?_ (by assumption) (by first | (simp; done) | omega | (simp; omega)))⟩
              case measure => simp [intOf]; omega
            · have hr2 : ¬ c ≤ s := by have := q3 rfl; omega
              clear q2 q3 q4
              go_wp2_with (first
                | (go_at_call 13; refine (in_is _ _ _ _ (by first | exact HE.out | exact HZ.out) _).mono ?_; rintro e' w6 ⟨rfl, hb6⟩; have hz6 := hb6.size; (try simp at hz6); have i2 := cellk hb6 (Nat.lt_of_lt_of_le hq8' hz5) (j2); have i3 := cellk hb6 (Nat.lt_of_lt_of_le hq8' hz5) (j3); have i6 := cellk hb6 (Nat.lt_of_lt_of_le hqA' hz5) (j6); have i7 := cellk hb6 (Nat.lt_of_lt_of_le hqA' hz5) (j7))
                | (go_at_call 13; refine (in_is _ _ _ _ (by first | exact HE.out | exact HZ.out) _).mono ?_; rintro e' w5 ⟨rfl, hb5⟩; have hz5 := hb5.size; (try simp at hz5); have j2 := cellk hb5 (hq8') (c2); have j3 := cellk hb5 (hq8') (c3); have j6 := cellk hb5 (hqA') (c6); have j7 := cellk hb5 (hqA') (c7); have j4 := cellk hb5 (hq9') (c4); have j5 := cellk hb5 (hq9') (c5)))
              go_roundw
              case rel => exact ⟨k + 1, by omega, by go_num, by repeat (first | exact Below.refl _ _ | assumption | refine Below.drew ?_ | refine Below.setCell ?_ (by first | (simp; done) | omega | (simp; omega)) _ | refine Below.alloc ?_ (by first | (simp; done) | omega | (simp; omega)) _ | refine bdrewN ?_ _ | refine bstep ?_ (by assumption) (by first | (simp; done) | omega | (simp; omega)))⟩
              case measure => simp [intOf]; omega
            · exact absurd q2 (by decide)
          · clear HL2 HL3 HL4
            go_wp2_with (fail)
            go_roundw
            case rel => exact ⟨k + 1, by omega, by go_num, by repeat (first | exact Below.refl _ _ | assumption | refine Below.drew ?_ | refine Below.setCell ?_ (by first | (simp; done) | omega | (simp; omega)) _ | refine Below.alloc ?_ (by first | (simp; done) | omega | (simp; omega)) _ | refine bdrewN ?_ _ | refine bstep ?_ (by assumption) (by first | (simp; done) | omega | (simp; omega)))⟩
            case measure => simp [intOf]; omega
      · have hge : ¬ (k : Int) < (ks.length : Int) := by omega
        clear hcell3 hks HE HL HM HA HC
        by_cases hcd : c ≤ d
        · go_wp2_with (first
            | (go_at_call 17; refine (isplain_is _ _ (by first | exact HP1.out | exact HP2.out | exact .inr ⟨rfl, rfl⟩) _).mono ?_; rintro e' w6 ⟨rfl, hb6⟩; have hz6 := hb6.size; (try simp at hz6); have i2 := cellk hb6 (Nat.lt_of_lt_of_le hq8 hz5) (j2); have i3 := cellk hb6 (Nat.lt_of_lt_of_le hq8 hz5) (j3); have i6 := cellk hb6 (Nat.lt_of_lt_of_le hqA hz5) (j6); have i7 := cellk hb6 (Nat.lt_of_lt_of_le hqA hz5) (j7))
            | (go_at_call 17; refine (isplain_is _ _ (by first | exact HP1.out | exact HP2.out | exact .inr ⟨rfl, rfl⟩) _).mono ?_; rintro e' w5 ⟨rfl, hb5⟩; have hz5 := hb5.size; (try simp at hz5); have j2 := cellk hb5 (hq8) (hd2); have j3 := cellk hb5 (hq8) (hd3); have j6 := cellk hb5 (hqA) (hd6); have j7 := cellk hb5 (hqA) (hd7)))
          go_ret
          refine ⟨by simp, ?_⟩
          repeat (first | exact Below.refl _ _ | assumption | refine Below.drew ?_ | refine Below.setCell ?_ (by first | (simp; done) | omega | (simp; omega)) _ | refine Below.alloc ?_ (by first | (simp; done) | omega | (simp; omega)) _ | refine bdrewN ?_ _ | refine bstep ?_ (by assumption) (by first | (simp; done) | omega | (simp; omega)))
        · have hyz := HN.out (by omega)
          simp only [Prod.mk.injEq] at hyz
          obtain ⟨rfl, rfl⟩ := hyz
          go_wp2_with (first
            | (go_at_call 17; refine (isplain_is _ _ (by first | exact HP1.out | exact HP2.out | exact .inr ⟨rfl, rfl⟩) _).mono ?_; rintro e' w6 ⟨rfl, hb6⟩; have hz6 := hb6.size; (try simp at hz6); have i2 := cellk hb6 (Nat.lt_of_lt_of_le hq8 hz5) (j2); have i3 := cellk hb6 (Nat.lt_of_lt_of_le hq8 hz5) (j3); have i6 := cellk hb6 (Nat.lt_of_lt_of_le hqA hz5) (j6); have i7 := cellk hb6 (Nat.lt_of_lt_of_le hqA hz5) (j7))
            | (go_at_call 17; refine (isplain_is _ _ (by first | exact HP1.out | exact HP2.out | exact .inr ⟨rfl, rfl⟩) _).mono ?_; rintro e' w5 ⟨rfl, hb5⟩; have hz5 := hb5.size; (try simp at hz5); have j2 := cellk hb5 (hq8) (hd2); have j3 := cellk hb5 (hq8) (hd3); have j6 := cellk hb5 (hqA) (hd6); have j7 := cellk hb5 (hqA) (hd7)))
          go_ret
          refine ⟨by simp, ?_⟩
          repeat (first | exact Below.refl _ _ | assumption | refine Below.drew ?_ | refine Below.setCell ?_ (by first | (simp; done) | omega | (simp; omega)) _ | refine Below.alloc ?_ (by first | (simp; done) | omega | (simp; omega)) _ | refine bdrewN ?_ _ | refine bstep ?_ (by assumption) (by first | (simp; done) | omega | (simp; omega)))
end Go.Proofs.YtendjifhdpeebaaDoor
