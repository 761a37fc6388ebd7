/- SpanEmpty: the call answers true and leaves what was there as it was. Condition: the package's variable 'none' holds what its text lays. -/
import Derived.Test.YtendjifhdpeebaaDoorLawParts
import Derived.Test.YtendjifhdpeebaaDoorInv3
import Derived.Deep.RegionHeld3
namespace Go.Proofs.YtendjifhdpeebaaDoor
open Go Go.Proofs Go.RowKit

theorem lessE_is (a b c d : Int) (x y : Int × Int) (w : World) (hn : NoneLaid w) (h1 : 0 ≤ a) (h2 : b < 18446744073709551616) (h3 : c < 18446744073709551616) (h4 : 0 ≤ d) (h : lessF a b c d = (x, y)) :
    Calls Tryd.prog 18 #[.agg #[.int .u64 a, .int .u64 b], .agg #[.int .u64 c, .int .u64 d]] w fun e' w' =>
      e' = .returned (.tuple #[.agg #[.int .u64 x.1, .int .u64 x.2], .agg #[.int .u64 y.1, .int .u64 y.2]]) ∧ Below w.heap.size w w' := by
  have := less_any a b c d w hn h1 h2 h3 h4
  rw [h] at this
  exact this
theorem makeE_is (lo hi near a b : Int) (w : World) (h1 : U64 lo) (h3 : U64 hi) (h5 : 0 ≤ near ∧ near < 256) (h : makeF lo hi near = (a, b)) :
    Calls Tryd.prog 10 #[.agg #[.int .u64 lo, .int .u64 hi, .int .u8 near]] w fun e w' => e = .returned (.agg #[.int .u64 a, .int .u64 b]) ∧ Below w.heap.size w w' := by
  have := make_any lo hi near w h1.1 h1.2 h3.1 h3.2 h5.1 h5.2
  rw [h] at this
  exact this
theorem empty_is (lo hi : Int) (v : Bool) (h : decide (hi < lo) = v) (w : World) :
    Calls Tryd.prog 14 #[.agg #[.int .u64 lo, .int .u64 hi]] w fun e w' => e = .returned (.bool v) ∧ Below w.heap.size w w' := by
  subst h
  exact empty_any lo hi w
theorem none_below {l h : Int} (hlt : h < l) (x : Int) : belowF l h x = (1, 0) := by
  unfold belowF
  split
  · rfl
  · exact plainF_empty (by omega)
theorem none_above {l h : Int} (hlt : h < l) (x : Int) : aboveF l h x = (1, 0) := by
  unfold aboveF
  split
  · rfl
  · exact plainF_empty (by omega)
theorem none_in {l h : Int} (hlt : h < l) (x : Int) : inB l h x = false := by
  rw [← Bool.not_eq_true, inB_iff]; omega
theorem none_meet {l h : Int} (hlt : h < l) (a b : Int) : meetF l h a b = (1, 0) := plainF_empty (by omega)
theorem none_less {l h : Int} (hlt : h < l) (a b : Int) : lessF l h a b = ((1, 0), (1, 0)) := by
  unfold lessF
  rw [plainF_empty hlt, none_below hlt, none_above hlt]
  split <;> rfl
theorem less_none {l h : Int} (hlt : h < l) (a b : Int) : lessF a b l h = (plainF a b, (1, 0)) := if_pos hlt
theorem plainF_alt {a b c d : Int} (h : plainF a b = (c, d)) (hne : (decide (c = a) && decide (d = b)) = false) : decide (b < a) = true ∧ c = 1 ∧ d = 0 := by
  by_cases hba : b < a
  · rw [plainF_empty hba] at h
    injection h with h1 h2
    exact ⟨decide_eq_true hba, h1.symm, h2.symm⟩
  · rw [plainF_full hba] at h
    injection h with h1 h2
    subst h1
    subst h2
    simp at hne
set_option maxRecDepth 100000 in
set_option maxHeartbeats 10000000 in
theorem spanEmpty_any (lo hi t l1 m1 n1 : Int) (w : World) (hn : NoneLaid w) (hlo : U64 lo) (hhi : U64 hi) (ht : U64 t) (h1 : U64 l1) (h2 : U64 m1) (h3 : 0 ≤ n1 ∧ n1 < 256) :
    Calls Tryd.prog 8 #[.int .u64 lo, .int .u64 hi, .int .u64 t, .agg #[.int .u64 l1, .int .u64 m1, .int .u8 n1]] w fun e w' => e = .returned (.bool true) ∧ Below w.heap.size w w' := by
  obtain ⟨⟨a, b⟩, hab⟩ : ∃ x, makeF l1 m1 n1 = x := ⟨_, rfl⟩
  obtain ⟨⟨c, d⟩, hcd⟩ : ∃ x, plainF a b = x := ⟨_, rfl⟩
  obtain ⟨Q, hQ⟩ : ∃ Q, (decide (c = a) && decide (d = b)) = Q := ⟨_, rfl⟩
  have hab' := makeF_range l1 m1 n1 h1.1 h1.2 h2.1 h2.2
  rw [hab] at hab'
  obtain ⟨⟨ha1, ha2⟩, hb1', hb2'⟩ := hab'
  simp only at ha1 ha2 hb1' hb2'
  have halt : Q = false → decide (b < a) = true ∧ c = 1 ∧ d = 0 := fun e => plainF_alt hcd (hQ.trans e)
  have hd : (c = a ∧ d = b ∧ Q = true) ∨ (¬ c = a ∧ Q = false) ∨ (c = a ∧ ¬ d = b ∧ Q = false) := by
    by_cases p1 : c = a
    · by_cases p2 : d = b
      · exact .inl ⟨p1, p2, by rw [← hQ, decide_eq_true p1, decide_eq_true p2]; rfl⟩
      · exact .inr (.inr ⟨p1, p2, by rw [← hQ, decide_eq_true p1, decide_eq_false p2]; rfl⟩)
    · exact .inr (.inl ⟨p1, by rw [← hQ, decide_eq_false p1]; rfl⟩)
  have HD := Lib.hid hd
  have HA := Lib.hid hab
  have HQ := Lib.hid hQ
  have HT := Lib.hid halt
  have HC := Lib.hid hcd
  clear hab hQ halt hcd hd
  obtain ⟨l, h, hc⟩ : ∃ l h, lo = hi ∨ (lo < hi ∧ l = hi ∧ h = lo) ∨ (¬ lo ≤ hi ∧ l = lo ∧ h = hi) := by
    by_cases g1 : lo = hi
    · exact ⟨0, 0, .inl g1⟩
    · by_cases g2 : lo < hi
      · exact ⟨_, _, .inr (.inl ⟨g2, rfl, rfl⟩)⟩
      · exact ⟨_, _, .inr (.inr ⟨by omega, rfl, rfl⟩)⟩
  rcases hc with rfl | hc
  · go_enter Tryd.func8, Tryd.ntmps8
    go_wp2_with (first
      | (go_at_call 9; refine (awake_any _ (hn.next (by repeat (first | exact Below.refl _ _ | assumption | refine Below.drew ?_ | refine Below.setCell ?_ (by first | (simp; done) | omega | (simp; omega)) _ | refine Below.alloc ?_ (by first | (simp; done) | omega | (simp; omega)) _ | refine bdrewN ?_ _ | refine bstep ?_ (by assumption) (by first | (simp; done) | omega | (simp; omega)))))).mono ?_; rintro e w1 ⟨rfl, hb1⟩; have hz1 := hb1.size; (try simp at hz1); ))
    go_ret
    refine ⟨by simp, ?_⟩
    repeat (first | exact Below.refl _ _ | assumption | refine Below.drew ?_ | refine Below.setCell ?_ (by first | (simp; done) | omega | (simp; omega)) _ | refine Below.alloc ?_ (by first | (simp; done) | omega | (simp; omega)) _ | refine bdrewN ?_ _ | refine bstep ?_ (by assumption) (by first | (simp; done) | omega | (simp; omega)))
  · have hlh : h < l := by omega
    have hl : U64 l := by rcases hc with ⟨_, rfl, rfl⟩ | ⟨_, rfl, rfl⟩ <;> assumption
    have hh : U64 h := by rcases hc with ⟨_, rfl, rfl⟩ | ⟨_, rfl, rfl⟩ <;> assumption
    obtain ⟨hl1, hl2⟩ := hl
    obtain ⟨hh1, hh2⟩ := hh
    have hne : ¬ l = h := by omega
    go_enter Tryd.func8, Tryd.ntmps8
    rcases hc with ⟨hx, rfl, rfl⟩ | ⟨hx, rfl, rfl⟩
    all_goals
      go_wp2_with (first
        | (go_at_call 9; refine (awake_any _ (hn.next (by repeat (first | exact Below.refl _ _ | assumption | refine Below.drew ?_ | refine Below.setCell ?_ (by first | (simp; done) | omega | (simp; omega)) _ | refine Below.alloc ?_ (by first | (simp; done) | omega | (simp; omega)) _ | refine bdrewN ?_ _ | refine bstep ?_ (by assumption) (by first | (simp; done) | omega | (simp; omega)))))).mono ?_; rintro e w1 ⟨rfl, hb1⟩; have hz1 := hb1.size; (try simp at hz1); have hx1_0 : w1.cell? ⟨w.heap.size, 0, none⟩ = some (.int .u64 l1) := cellk hb1 (by first | (simp; done) | (simp; omega) | omega) (by first | assumption | (simp; done) | (simp; assumption) | (go_simp; done)); have hy1_0 : w1.frozen? ⟨w.heap.size, 0, none⟩ = false := frzk hb1 (by first | (simp; done) | (simp; omega) | omega) (by first | assumption | (simp; done) | (simp; assumption) | (go_simp; done)); have hx1_1 : w1.cell? ⟨w.heap.size, 1, none⟩ = some (.int .u64 m1) := cellk hb1 (by first | (simp; done) | (simp; omega) | omega) (by first | assumption | (simp; done) | (simp; assumption) | (go_simp; done)); have hy1_1 : w1.frozen? ⟨w.heap.size, 1, none⟩ = false := frzk hb1 (by first | (simp; done) | (simp; omega) | omega) (by first | assumption | (simp; done) | (simp; assumption) | (go_simp; done)); have hx1_2 : w1.cell? ⟨w.heap.size, 2, none⟩ = some (.int .u8 n1) := cellk hb1 (by first | (simp; done) | (simp; omega) | omega) (by first | assumption | (simp; done) | (simp; assumption) | (go_simp; done)); have hy1_2 : w1.frozen? ⟨w.heap.size, 2, none⟩ = false := frzk hb1 (by first | (simp; done) | (simp; omega) | omega) (by first | assumption | (simp; done) | (simp; assumption) | (go_simp; done))))
    all_goals
      obtain ⟨W, hW⟩ : ∃ W, W = (w1.alloc (.cells #[.int .u64 l, .int .u64 h] 27)).alloc (.cells #[.int .u64 1, .int .u64 0] 27) := ⟨_, rfl⟩
      have z1 : w1.heap.size + 1 < W.heap.size := by rw [hW]; simp
      have hBW1 : Below w1.heap.size w1 W := by rw [hW]; repeat (first | exact Below.refl _ _ | assumption | refine Below.drew ?_ | refine Below.setCell ?_ (by first | (simp; done) | omega | (simp; omega)) _ | refine Below.alloc ?_ (by first | (simp; done) | omega | (simp; omega)) _ | refine bdrewN ?_ _ | refine bstep ?_ (by assumption) (by first | (simp; done) | omega | (simp; omega)))
      have k0 : W.cell? ⟨w1.heap.size, 0, none⟩ = some (.int .u64 l) := by rw [hW]; simp
      have k1 : W.cell? ⟨w1.heap.size, 1, none⟩ = some (.int .u64 h) := by rw [hW]; simp
      have k2 : W.cell? ⟨w1.heap.size + 1, 0, none⟩ = some (.int .u64 1) := by rw [hW]; simp
      have k3 : W.cell? ⟨w1.heap.size + 1, 1, none⟩ = some (.int .u64 0) := by rw [hW]; simp
      have hlt0 : w.heap.size < w1.heap.size := by omega
      have k4 := cellk hBW1 hlt0 hx1_0
      have k5 := cellk hBW1 hlt0 hx1_1
      have k6 := cellk hBW1 hlt0 hx1_2
      have hBW : Below w.heap.size w W := by repeat (first | exact Below.refl _ _ | assumption | refine Below.drew ?_ | refine Below.setCell ?_ (by first | (simp; done) | omega | (simp; omega)) _ | refine Below.alloc ?_ (by first | (simp; done) | omega | (simp; omega)) _ | refine bdrewN ?_ _ | refine bstep ?_ (by assumption) (by first | (simp; done) | omega | (simp; omega)))
      rw [← hW]
      have hNW := hn.next hBW
      have y9 : w1.heap.size < W.heap.size := by omega
      have y7 : w.heap.size < W.heap.size := by omega
      clear hb1 hx1_0 hx1_1 hx1_2 hy1_0 hy1_1 hy1_2 hBW1 hW hn hz1 hlo hhi
      refine wp_region_noPanic ?_
      refine wp_region_stepsL 9 6 (fun sq => match sq with | 30 => .agg #[.int .u64 l, .int .u64 h] | 31 => .agg #[.int .u64 l1, .int .u64 m1, .int .u8 n1] | 32 => .agg #[.int .u64 a, .int .u64 b] | 33 => .tuple #[.agg #[.int .u64 1, .int .u64 0], .agg #[.int .u64 1, .int .u64 0]] | 29 => .tuple #[.agg #[.int .u64 1, .int .u64 0], .agg #[.int .u64 1, .int .u64 0]] | 34 => .agg #[.int .u64 1, .int .u64 0] | 35 => .agg #[.int .u64 1, .int .u64 0] | _ => undef) (fun sq => match sq with | 11 => some (#[.int .u64 0, .int .u64 0], 27, none) | 12 => some (#[.int .u64 0, .int .u64 0], 27, none) | _ => none) (by kernel_rfl) (by kernel_rfl) (by kernel_rfl) (by kernel_rfl) (by kernel_rfl) rfl (by kernel_rfl) (by kernel_rfl) (fun _ _ _ _ _ h => h) ?_ (steps_succ (steps_succ (steps_succ (steps_succ (steps_succ (steps_succ (steps_succ (steps_succ (steps_succ steps_zero ?_) ?_) ?_) ?_) ?_) ?_) ?_) ?_) ?_) ?_
      · intro o aa ho hold hnew
        obtain rfl := Option.some.inj ho
        obtain ⟨x29, w29, s29, e29⟩ := hnew 29 (by kernel_rfl)
        obtain rfl : x29 = (.tuple #[.agg #[.int .u64 1, .int .u64 0], .agg #[.int .u64 1, .int .u64 0]]) := e29
        clear hold hnew
        refine ⟨.agg #[.int .u64 1, .int .u64 0], .inl ⟨?_, fun w => ?_⟩, fun s hs => ?_⟩
        · first | rfl | (go_simp; done)
        · first | (go_simp; done) | (simp [execOp, go_sem, Act.eval, *]; done)
        · obtain rfl := Option.some.inj hs; exact ⟨rfl, rfl⟩
      · intro o aa ww ho hG hold hnew K hK
        obtain rfl := Option.some.inj ho
        have s9 : aa.tmps[9]? = some (.pointer (some ⟨w1.heap.size, 0, none⟩)) := hold 9 rfl
        clear hold hnew
        have c0 := cellk hG y9 k0; have c1 := cellk hG y9 k1
        go_simp
        refine hK _ _ (Below.refl _ _) (fun sq hsq => ?_)
        obtain rfl := Option.some.inj hsq
        exact ⟨(show (_ : Value) = (.agg #[.int .u64 l, .int .u64 h]) from (by first | rfl | (simp [*]; done))), fun h => absurd rfl h⟩
      · intro o aa ww ho hG hold hnew K hK
        obtain rfl := Option.some.inj ho
        have s7 : aa.tmps[7]? = some (.pointer (some ⟨w.heap.size, 0, none⟩)) := hold 7 rfl
        clear hold hnew
        have c0 := cellk hG y7 k4; have c1 := cellk hG y7 k5; have c2 := cellk hG y7 k6
        go_simp
        refine hK _ _ (Below.refl _ _) (fun sq hsq => ?_)
        obtain rfl := Option.some.inj hsq
        exact ⟨(show (_ : Value) = (.agg #[.int .u64 l1, .int .u64 m1, .int .u8 n1]) from (by first | rfl | (simp [*]; done))), fun h => absurd rfl h⟩
      · intro o aa ww ho hG hold hnew K hK
        obtain rfl := Option.some.inj ho
        obtain ⟨x31, s31, e31⟩ := hnew 31 (by kernel_rfl)
        obtain rfl : x31 = (.agg #[.int .u64 l1, .int .u64 m1, .int .u8 n1]) := e31
        clear hold hnew
        go_simp
        first | (refine (makeE_is _ _ _ _ _ _ h1 h2 h3 HA.out).mono ?_; rintro e w3 ⟨rfl, hbb⟩; refine hK _ _ hbb (fun sq hsq => ?_)) | refine hK _ _ (Below.refl _ _) (fun sq hsq => ?_)
        obtain rfl := Option.some.inj hsq
        exact ⟨(show (_ : Value) = (.agg #[.int .u64 a, .int .u64 b]) from (by first | rfl | (simp [*]; done))), fun h => absurd rfl h⟩
      · intro o aa ww ho hG hold hnew K hK
        obtain rfl := Option.some.inj ho
        obtain ⟨x30, s30, e30⟩ := hnew 30 (by kernel_rfl)
        obtain rfl : x30 = (.agg #[.int .u64 l, .int .u64 h]) := e30
        obtain ⟨x32, s32, e32⟩ := hnew 32 (by kernel_rfl)
        obtain rfl : x32 = (.agg #[.int .u64 a, .int .u64 b]) := e32
        clear hold hnew
        go_simp
        first | (refine (lessE_is _ _ _ _ (1, 0) (1, 0) _ (hNW.below hG hNW.lt) hl1 hh2 ha2 hb1' (none_less hlh _ _)).mono ?_; rintro e w3 ⟨rfl, hbb⟩; refine hK _ _ hbb (fun sq hsq => ?_)) | refine hK _ _ (Below.refl _ _) (fun sq hsq => ?_)
        obtain rfl := Option.some.inj hsq
        exact ⟨(show (_ : Value) = (.tuple #[.agg #[.int .u64 1, .int .u64 0], .agg #[.int .u64 1, .int .u64 0]]) from (by first | rfl | (simp [*]; done))), fun h => absurd rfl h⟩
      · intro o aa ww ho hG hold hnew K hK
        obtain rfl := Option.some.inj ho
        obtain ⟨x33, s33, e33⟩ := hnew 33 (by kernel_rfl)
        obtain rfl : x33 = (.tuple #[.agg #[.int .u64 1, .int .u64 0], .agg #[.int .u64 1, .int .u64 0]]) := e33
        clear hold hnew
        go_simp
        refine hK _ _ (Below.refl _ _) (fun sq hsq => ?_)
        obtain rfl := Option.some.inj hsq
        exact ⟨(show (_ : Value) = (.tuple #[.agg #[.int .u64 1, .int .u64 0], .agg #[.int .u64 1, .int .u64 0]]) from (by first | rfl | (simp [*]; done))), fun h => absurd rfl h⟩
      · intro o aa ww ho hG hold hnew K hK
        obtain rfl := Option.some.inj ho
        obtain ⟨x29, s29, e29⟩ := hnew 29 (by kernel_rfl)
        obtain rfl : x29 = (.tuple #[.agg #[.int .u64 1, .int .u64 0], .agg #[.int .u64 1, .int .u64 0]]) := e29
        clear hold hnew
        go_simp
        refine hK _ _ (Below.refl _ _) (fun sq hsq => ?_)
        obtain rfl := Option.some.inj hsq
        exact ⟨(show (_ : Value) = (.agg #[.int .u64 1, .int .u64 0]) from (by first | rfl | (simp [*]; done))), fun h => absurd rfl h⟩
      · intro o aa ww ho hG hold hnew K hK
        obtain rfl := Option.some.inj ho
        obtain ⟨x29, s29, e29⟩ := hnew 29 (by kernel_rfl)
        obtain rfl : x29 = (.tuple #[.agg #[.int .u64 1, .int .u64 0], .agg #[.int .u64 1, .int .u64 0]]) := e29
        clear hold hnew
        go_simp
        refine hK _ _ (Below.refl _ _) (fun sq hsq => ?_)
        obtain rfl := Option.some.inj hsq
        exact ⟨(show (_ : Value) = (.agg #[.int .u64 1, .int .u64 0]) from (by first | rfl | (simp [*]; done))), fun h => absurd rfl h⟩
      · intro o aa ww ho hG hold hnew K hK
        obtain rfl := Option.some.inj ho
        clear hold hnew
        go_simp
        refine hK _ _ ((Below.refl _ _).alloc (Nat.le_refl _) _) (fun sq hsq => ?_)
        obtain rfl := Option.some.inj hsq
        exact ⟨⟨_, rfl, hG.size, heap_new_at rfl⟩, fun _ g hg => by (first | (obtain rfl := Option.some.inj hg; exact Nat.le_refl _) | (simp [blkOf] at hg; omega))⟩
      · intro o aa ww ho hG hold hnew K hK
        obtain rfl := Option.some.inj ho
        clear hold hnew
        go_simp
        refine hK _ _ ((Below.refl _ _).alloc (Nat.le_refl _) _) (fun sq hsq => ?_)
        obtain rfl := Option.some.inj hsq
        exact ⟨⟨_, rfl, hG.size, heap_new_at rfl⟩, fun _ g hg => by (first | (obtain rfl := Option.some.inj hg; exact Nat.le_refl _) | (simp [blkOf] at hg; omega))⟩
      · intro U ww hbr hU hI
        have u30 : U 30 = (.agg #[.int .u64 l, .int .u64 h]) := hU 30 rfl
        have u31 : U 31 = (.agg #[.int .u64 l1, .int .u64 m1, .int .u8 n1]) := hU 31 rfl
        have u32 : U 32 = (.agg #[.int .u64 a, .int .u64 b]) := hU 32 rfl
        have u33 : U 33 = (.tuple #[.agg #[.int .u64 1, .int .u64 0], .agg #[.int .u64 1, .int .u64 0]]) := hU 33 rfl
        have u29 : U 29 = (.tuple #[.agg #[.int .u64 1, .int .u64 0], .agg #[.int .u64 1, .int .u64 0]]) := hU 29 rfl
        have u34 : U 34 = (.agg #[.int .u64 1, .int .u64 0]) := hU 34 rfl
        have u35 : U 35 = (.agg #[.int .u64 1, .int .u64 0]) := hU 35 rfl
        obtain ⟨g11, u11, hg11, hk11⟩ : ∃ g, U 11 = .pointer (some ⟨g, 0, none⟩) ∧ _ ≤ g ∧ ww.heap[g]? = some (.cells (#[.int .u64 0, .int .u64 0]) (27) (0, 0)) := hU 11 rfl
        obtain ⟨g12, u12, hg12, hk12⟩ : ∃ g, U 12 = .pointer (some ⟨g, 0, none⟩) ∧ _ ≤ g ∧ ww.heap[g]? = some (.cells (#[.int .u64 0, .int .u64 0]) (27) (0, 0)) := hU 12 rfl
        have hi11_0 : ww.cell? ⟨g11, 0, none⟩ = some (.int .u64 0) := cellH hk11 rfl
        have hj11_0 := frzH (i := 0) hk11
        have hi11_1 : ww.cell? ⟨g11, 1, none⟩ = some (.int .u64 0) := cellH hk11 rfl
        have hj11_1 := frzH (i := 1) hk11
        have hi12_0 : ww.cell? ⟨g12, 0, none⟩ = some (.int .u64 0) := cellH hk12 rfl
        have hj12_0 := frzH (i := 0) hk12
        have hi12_1 : ww.cell? ⟨g12, 1, none⟩ = some (.int .u64 0) := cellH hk12 rfl
        have hj12_1 := frzH (i := 1) hk12
        have n11_12 : g11 ≠ g12 := fun e => hI 11 12 rfl rfl (by decide) (by intro h; cases h) (by intro h; cases h) (by rw [u11, u12, e]; first | done | rfl)
        have n12_11 : g12 ≠ g11 := Ne.symm n11_12
        clear hU hI
        simp only [setAll, dsts, List.take_succ_cons, List.take_zero, List.filterMap_cons, List.filterMap_nil, List.drop_succ_cons, List.drop_zero, List.setIfInBounds_toArray, List.set_cons_succ, List.set_cons_zero, u30, u31, u32, u33, u29, u34, u35, u11, u12]
        clear u30 u31 u32 u33 u29 u34 u35 u11 u12
        go_wp2_with (fail)
        refine NoPanic.normal ?_
        go_wp2_with (fail)
        obtain ⟨wc, hwc⟩ : ∃ wc, wc = (((ww.setCell ⟨g11, 0, none⟩ (.int .u64 1)).setCell ⟨g11, 1, none⟩ (.int .u64 0)).setCell ⟨g12, 0, none⟩ (.int .u64 1)).setCell ⟨g12, 1, none⟩ (.int .u64 0) := ⟨_, rfl⟩
        have hbx : Below W.heap.size W wc := by rw [hwc]; repeat (first | exact Below.refl _ _ | assumption | refine Below.drew ?_ | refine Below.setCell ?_ (by first | (simp; done) | omega | (simp; omega)) _ | refine Below.alloc ?_ (by first | (simp; done) | omega | (simp; omega)) _ | refine bdrewN ?_ _ | refine bstep ?_ (by assumption) (by first | (simp; done) | omega | (simp; omega)))
        have k7 : wc.cell? ⟨g11, 0, none⟩ = some (.int .u64 1) := by rw [hwc]; go_simp
        have k8 : wc.cell? ⟨g11, 1, none⟩ = some (.int .u64 0) := by rw [hwc]; go_simp
        have k9 : wc.cell? ⟨g12, 0, none⟩ = some (.int .u64 1) := by rw [hwc]; go_simp
        have kA : wc.cell? ⟨g12, 1, none⟩ = some (.int .u64 0) := by rw [hwc]; go_simp
        rw [← hwc]
        clear hwc hbr
        have yB := World.block_lt_of_cell? _ _ k7
        have yC := World.block_lt_of_cell? _ _ k9
        simp only at yB yC
        replace k0 := cellk hbx y9 k0
        replace k1 := cellk hbx y9 k1
        replace k2 := cellk hbx z1 k2
        replace k3 := cellk hbx z1 k3
        replace k4 := cellk hbx y7 k4
        replace k5 := cellk hbx y7 k5
        replace k6 := cellk hbx y7 k6
        replace hNW := hNW.next hbx
        have hBx : Below w.heap.size w wc := hBW.trans (hbx.mono hBW.size)
        have hsx := hbx.size
        replace z1 := Nat.lt_of_lt_of_le z1 hsx
        replace y9 := Nat.lt_of_lt_of_le y9 hsx
        replace y7 := Nat.lt_of_lt_of_le y7 hsx
        clear hbx hBW hsx
        refine wp_region_noPanic ?_
        refine wp_region_stepsL 9 6 (fun sq => match sq with | 37 => .agg #[.int .u64 l1, .int .u64 m1, .int .u8 n1] | 38 => .agg #[.int .u64 a, .int .u64 b] | 39 => .agg #[.int .u64 l, .int .u64 h] | 40 => .tuple #[.agg #[.int .u64 c, .int .u64 d], .agg #[.int .u64 1, .int .u64 0]] | 36 => .tuple #[.agg #[.int .u64 c, .int .u64 d], .agg #[.int .u64 1, .int .u64 0]] | 41 => .agg #[.int .u64 c, .int .u64 d] | 42 => .agg #[.int .u64 1, .int .u64 0] | _ => undef) (fun sq => match sq with | 13 => some (#[.int .u64 0, .int .u64 0], 27, none) | 14 => some (#[.int .u64 0, .int .u64 0], 27, none) | _ => none) (by kernel_rfl) (by kernel_rfl) (by kernel_rfl) (by kernel_rfl) (by kernel_rfl) rfl (by kernel_rfl) (by kernel_rfl) (fun _ _ _ _ _ h => h) ?_ (steps_succ (steps_succ (steps_succ (steps_succ (steps_succ (steps_succ (steps_succ (steps_succ (steps_succ steps_zero ?_) ?_) ?_) ?_) ?_) ?_) ?_) ?_) ?_) ?_
        · intro o aa ho hold hnew
          obtain rfl := Option.some.inj ho
          obtain ⟨x36, w36, s36, e36⟩ := hnew 36 (by kernel_rfl)
          obtain rfl : x36 = (.tuple #[.agg #[.int .u64 c, .int .u64 d], .agg #[.int .u64 1, .int .u64 0]]) := e36
          clear hold hnew
          refine ⟨.agg #[.int .u64 1, .int .u64 0], .inl ⟨?_, fun w => ?_⟩, fun s hs => ?_⟩
          · first | rfl | (go_simp; done)
          · first | (go_simp; done) | (simp [execOp, go_sem, Act.eval, *]; done)
          · obtain rfl := Option.some.inj hs; exact ⟨rfl, rfl⟩
        · intro o aa ww ho hG hold hnew K hK
          obtain rfl := Option.some.inj ho
          have s7 : aa.tmps[7]? = some (.pointer (some ⟨w.heap.size, 0, none⟩)) := hold 7 rfl
          clear hold hnew
          have c0 := cellk hG y7 k4; have c1 := cellk hG y7 k5; have c2 := cellk hG y7 k6
          go_simp
          refine hK _ _ (Below.refl _ _) (fun sq hsq => ?_)
          obtain rfl := Option.some.inj hsq
          exact ⟨(show (_ : Value) = (.agg #[.int .u64 l1, .int .u64 m1, .int .u8 n1]) from (by first | rfl | (simp [*]; done))), fun h => absurd rfl h⟩
        · intro o aa ww ho hG hold hnew K hK
          obtain rfl := Option.some.inj ho
          obtain ⟨x37, s37, e37⟩ := hnew 37 (by kernel_rfl)
          obtain rfl : x37 = (.agg #[.int .u64 l1, .int .u64 m1, .int .u8 n1]) := e37
          clear hold hnew
          go_simp
          first | (refine (makeE_is _ _ _ _ _ _ h1 h2 h3 HA.out).mono ?_; rintro e w3 ⟨rfl, hbb⟩; refine hK _ _ hbb (fun sq hsq => ?_)) | refine hK _ _ (Below.refl _ _) (fun sq hsq => ?_)
          obtain rfl := Option.some.inj hsq
          exact ⟨(show (_ : Value) = (.agg #[.int .u64 a, .int .u64 b]) from (by first | rfl | (simp [*]; done))), fun h => absurd rfl h⟩
        · intro o aa ww ho hG hold hnew K hK
          obtain rfl := Option.some.inj ho
          have s9 : aa.tmps[9]? = some (.pointer (some ⟨w1.heap.size, 0, none⟩)) := hold 9 rfl
          clear hold hnew
          have c0 := cellk hG y9 k0; have c1 := cellk hG y9 k1
          go_simp
          refine hK _ _ (Below.refl _ _) (fun sq hsq => ?_)
          obtain rfl := Option.some.inj hsq
          exact ⟨(show (_ : Value) = (.agg #[.int .u64 l, .int .u64 h]) from (by first | rfl | (simp [*]; done))), fun h => absurd rfl h⟩
        · intro o aa ww ho hG hold hnew K hK
          obtain rfl := Option.some.inj ho
          obtain ⟨x38, s38, e38⟩ := hnew 38 (by kernel_rfl)
          obtain rfl : x38 = (.agg #[.int .u64 a, .int .u64 b]) := e38
          obtain ⟨x39, s39, e39⟩ := hnew 39 (by kernel_rfl)
          obtain rfl : x39 = (.agg #[.int .u64 l, .int .u64 h]) := e39
          clear hold hnew
          go_simp
          first | (refine (lessE_is _ _ _ _ (c, d) (1, 0) _ (hNW.below hG hNW.lt) ha1 hb2' hl2 hh1 (by rw [less_none hlh, HC.out])).mono ?_; rintro e w3 ⟨rfl, hbb⟩; refine hK _ _ hbb (fun sq hsq => ?_)) | refine hK _ _ (Below.refl _ _) (fun sq hsq => ?_)
          obtain rfl := Option.some.inj hsq
          exact ⟨(show (_ : Value) = (.tuple #[.agg #[.int .u64 c, .int .u64 d], .agg #[.int .u64 1, .int .u64 0]]) from (by first | rfl | (simp [*]; done))), fun h => absurd rfl h⟩
        · intro o aa ww ho hG hold hnew K hK
          obtain rfl := Option.some.inj ho
          obtain ⟨x40, s40, e40⟩ := hnew 40 (by kernel_rfl)
          obtain rfl : x40 = (.tuple #[.agg #[.int .u64 c, .int .u64 d], .agg #[.int .u64 1, .int .u64 0]]) := e40
          clear hold hnew
          go_simp
          refine hK _ _ (Below.refl _ _) (fun sq hsq => ?_)
          obtain rfl := Option.some.inj hsq
          exact ⟨(show (_ : Value) = (.tuple #[.agg #[.int .u64 c, .int .u64 d], .agg #[.int .u64 1, .int .u64 0]]) from (by first | rfl | (simp [*]; done))), fun h => absurd rfl h⟩
        · intro o aa ww ho hG hold hnew K hK
          obtain rfl := Option.some.inj ho
          obtain ⟨x36, s36, e36⟩ := hnew 36 (by kernel_rfl)
          obtain rfl : x36 = (.tuple #[.agg #[.int .u64 c, .int .u64 d], .agg #[.int .u64 1, .int .u64 0]]) := e36
          clear hold hnew
          go_simp
          refine hK _ _ (Below.refl _ _) (fun sq hsq => ?_)
          obtain rfl := Option.some.inj hsq
          exact ⟨(show (_ : Value) = (.agg #[.int .u64 c, .int .u64 d]) from (by first | rfl | (simp [*]; done))), fun h => absurd rfl h⟩
        · intro o aa ww ho hG hold hnew K hK
          obtain rfl := Option.some.inj ho
          obtain ⟨x36, s36, e36⟩ := hnew 36 (by kernel_rfl)
          obtain rfl : x36 = (.tuple #[.agg #[.int .u64 c, .int .u64 d], .agg #[.int .u64 1, .int .u64 0]]) := e36
          clear hold hnew
          go_simp
          refine hK _ _ (Below.refl _ _) (fun sq hsq => ?_)
          obtain rfl := Option.some.inj hsq
          exact ⟨(show (_ : Value) = (.agg #[.int .u64 1, .int .u64 0]) from (by first | rfl | (simp [*]; done))), fun h => absurd rfl h⟩
        · intro o aa ww ho hG hold hnew K hK
          obtain rfl := Option.some.inj ho
          clear hold hnew
          go_simp
          refine hK _ _ ((Below.refl _ _).alloc (Nat.le_refl _) _) (fun sq hsq => ?_)
          obtain rfl := Option.some.inj hsq
          exact ⟨⟨_, rfl, hG.size, heap_new_at rfl⟩, fun _ g hg => by (first | (obtain rfl := Option.some.inj hg; exact Nat.le_refl _) | (simp [blkOf] at hg; omega))⟩
        · intro o aa ww ho hG hold hnew K hK
          obtain rfl := Option.some.inj ho
          clear hold hnew
          go_simp
          refine hK _ _ ((Below.refl _ _).alloc (Nat.le_refl _) _) (fun sq hsq => ?_)
          obtain rfl := Option.some.inj hsq
          exact ⟨⟨_, rfl, hG.size, heap_new_at rfl⟩, fun _ g hg => by (first | (obtain rfl := Option.some.inj hg; exact Nat.le_refl _) | (simp [blkOf] at hg; omega))⟩
        · intro U ww hbr hU hI
          have u37 : U 37 = (.agg #[.int .u64 l1, .int .u64 m1, .int .u8 n1]) := hU 37 rfl
          have u38 : U 38 = (.agg #[.int .u64 a, .int .u64 b]) := hU 38 rfl
          have u39 : U 39 = (.agg #[.int .u64 l, .int .u64 h]) := hU 39 rfl
          have u40 : U 40 = (.tuple #[.agg #[.int .u64 c, .int .u64 d], .agg #[.int .u64 1, .int .u64 0]]) := hU 40 rfl
          have u36 : U 36 = (.tuple #[.agg #[.int .u64 c, .int .u64 d], .agg #[.int .u64 1, .int .u64 0]]) := hU 36 rfl
          have u41 : U 41 = (.agg #[.int .u64 c, .int .u64 d]) := hU 41 rfl
          have u42 : U 42 = (.agg #[.int .u64 1, .int .u64 0]) := hU 42 rfl
          obtain ⟨g13, u13, hg13, hk13⟩ : ∃ g, U 13 = .pointer (some ⟨g, 0, none⟩) ∧ _ ≤ g ∧ ww.heap[g]? = some (.cells (#[.int .u64 0, .int .u64 0]) (27) (0, 0)) := hU 13 rfl
          obtain ⟨g14, u14, hg14, hk14⟩ : ∃ g, U 14 = .pointer (some ⟨g, 0, none⟩) ∧ _ ≤ g ∧ ww.heap[g]? = some (.cells (#[.int .u64 0, .int .u64 0]) (27) (0, 0)) := hU 14 rfl
          have hi13_0 : ww.cell? ⟨g13, 0, none⟩ = some (.int .u64 0) := cellH hk13 rfl
          have hj13_0 := frzH (i := 0) hk13
          have hi13_1 : ww.cell? ⟨g13, 1, none⟩ = some (.int .u64 0) := cellH hk13 rfl
          have hj13_1 := frzH (i := 1) hk13
          have hi14_0 : ww.cell? ⟨g14, 0, none⟩ = some (.int .u64 0) := cellH hk14 rfl
          have hj14_0 := frzH (i := 0) hk14
          have hi14_1 : ww.cell? ⟨g14, 1, none⟩ = some (.int .u64 0) := cellH hk14 rfl
          have hj14_1 := frzH (i := 1) hk14
          have n13_14 : g13 ≠ g14 := fun e => hI 13 14 rfl rfl (by decide) (by intro h; cases h) (by intro h; cases h) (by rw [u13, u14, e]; first | done | rfl)
          have n14_13 : g14 ≠ g13 := Ne.symm n13_14
          clear hU hI
          simp only [setAll, dsts, List.take_succ_cons, List.take_zero, List.filterMap_cons, List.filterMap_nil, List.drop_succ_cons, List.drop_zero, List.setIfInBounds_toArray, List.set_cons_succ, List.set_cons_zero, u37, u38, u39, u40, u36, u41, u42, u13, u14]
          clear u37 u38 u39 u40 u36 u41 u42 u13 u14
          go_wp2_with (fail)
          refine NoPanic.normal ?_
          go_wp2_with (fail)
          obtain ⟨wd, hwd⟩ : ∃ wd, wd = (((ww.setCell ⟨g13, 0, none⟩ (.int .u64 c)).setCell ⟨g13, 1, none⟩ (.int .u64 d)).setCell ⟨g14, 0, none⟩ (.int .u64 1)).setCell ⟨g14, 1, none⟩ (.int .u64 0) := ⟨_, rfl⟩
          have hbx : Below wc.heap.size wc wd := by rw [hwd]; repeat (first | exact Below.refl _ _ | assumption | refine Below.drew ?_ | refine Below.setCell ?_ (by first | (simp; done) | omega | (simp; omega)) _ | refine Below.alloc ?_ (by first | (simp; done) | omega | (simp; omega)) _ | refine bdrewN ?_ _ | refine bstep ?_ (by assumption) (by first | (simp; done) | omega | (simp; omega)))
          have kB : wd.cell? ⟨g13, 0, none⟩ = some (.int .u64 c) := by rw [hwd]; go_simp
          have kC : wd.cell? ⟨g13, 1, none⟩ = some (.int .u64 d) := by rw [hwd]; go_simp
          rw [← hwd]
          clear hwd hbr
          have yD := World.block_lt_of_cell? _ _ kB
          simp only at yD
          replace k0 := cellk hbx y9 k0
          replace k1 := cellk hbx y9 k1
          replace k2 := cellk hbx z1 k2
          replace k3 := cellk hbx z1 k3
          replace k4 := cellk hbx y7 k4
          replace k5 := cellk hbx y7 k5
          replace k6 := cellk hbx y7 k6
          replace k7 := cellk hbx yB k7
          replace k8 := cellk hbx yB k8
          replace k9 := cellk hbx yC k9
          replace kA := cellk hbx yC kA
          replace hNW := hNW.next hbx
          have hBz : Below w.heap.size w wd := hBx.trans (hbx.mono hBx.size)
          have hsx := hbx.size
          replace z1 := Nat.lt_of_lt_of_le z1 hsx
          replace y9 := Nat.lt_of_lt_of_le y9 hsx
          replace y7 := Nat.lt_of_lt_of_le y7 hsx
          replace yB := Nat.lt_of_lt_of_le yB hsx
          replace yC := Nat.lt_of_lt_of_le yC hsx
          clear hbx hBx hsx
          go_wp2_with (fail)
          refine wp_region_steps 56 (fun sq => match sq with | 43 => .agg #[.int .u64 l, .int .u64 h] | 44 => .bool true | 45 => .bool true | 46 => .agg #[.int .u64 l, .int .u64 h] | 47 => .int .u64 t | 48 => .bool false | 49 => .bool true | 50 => .bool true | 51 => .bool true | 52 => .agg #[.int .u64 l, .int .u64 h] | 53 => .agg #[.int .u64 l1, .int .u64 m1, .int .u8 n1] | 54 => .agg #[.int .u64 a, .int .u64 b] | 55 => .agg #[.int .u64 1, .int .u64 0] | 56 => .agg #[.int .u64 1, .int .u64 0] | 57 => .bool true | 58 => .bool true | 59 => .bool true | 60 => .agg #[.int .u64 l, .int .u64 h] | 61 => .int .u64 t | 62 => .agg #[.int .u64 1, .int .u64 0] | 63 => .agg #[.int .u64 1, .int .u64 0] | 64 => .bool true | 65 => .bool true | 66 => .bool true | 67 => .agg #[.int .u64 l, .int .u64 h] | 68 => .int .u64 t | 69 => .agg #[.int .u64 1, .int .u64 0] | 70 => .agg #[.int .u64 1, .int .u64 0] | 71 => .bool true | 72 => .bool true | 73 => .bool true | 74 => .agg #[.int .u64 1, .int .u64 0] | 75 => .agg #[.int .u64 1, .int .u64 0] | 76 => .bool true | 77 => .bool true | 78 => .bool true | 79 => .agg #[.int .u64 1, .int .u64 0] | 80 => .agg #[.int .u64 1, .int .u64 0] | 81 => .bool true | 82 => .bool true | 83 => .bool true | 84 => .agg #[.int .u64 c, .int .u64 d] | 85 => .agg #[.int .u64 l1, .int .u64 m1, .int .u8 n1] | 86 => .agg #[.int .u64 a, .int .u64 b] | 87 => .bool Q | 88 => .bool Q | 89 => if Q then undef else .agg #[.int .u64 l1, .int .u64 m1, .int .u8 n1] | 90 => if Q then undef else .agg #[.int .u64 a, .int .u64 b] | 91 => if Q then undef else .bool true | 92 => if Q then undef else .bool true | 93 => if Q then undef else .agg #[.int .u64 c, .int .u64 d] | 94 => if Q then undef else .agg #[.int .u64 1, .int .u64 0] | 95 => if Q then undef else .bool true | 96 => if Q then undef else .bool true | 97 => .bool true | 98 => .bool true | _ => undef) (fun sq => match sq with  | _ => none) (by kernel_rfl) (by kernel_rfl) (by kernel_rfl) (by kernel_rfl) rfl (steps_succ (steps_succ (steps_succ (steps_succ (steps_succ (steps_succ (steps_succ (steps_succ (steps_succ (steps_succ (steps_succ (steps_succ (steps_succ (steps_succ (steps_succ (steps_succ (steps_succ (steps_succ (steps_succ (steps_succ (steps_succ (steps_succ (steps_succ (steps_succ (steps_succ (steps_succ (steps_succ (steps_succ (steps_succ (steps_succ (steps_succ (steps_succ (steps_succ (steps_succ (steps_succ (steps_succ (steps_succ (steps_succ (steps_succ (steps_succ (steps_succ (steps_succ (steps_succ (steps_succ (steps_succ (steps_succ (steps_succ (steps_succ (steps_succ (steps_succ (steps_succ (steps_succ (steps_succ (steps_succ (steps_succ (steps_succ steps_zero ?_) ?_) ?_) ?_) ?_) ?_) ?_) ?_) ?_) ?_) ?_) ?_) ?_) ?_) ?_) ?_) ?_) ?_) ?_) ?_) ?_) ?_) ?_) ?_) ?_) ?_) ?_) ?_) ?_) ?_) ?_) ?_) ?_) ?_) ?_) ?_) ?_) ?_) ?_) ?_) ?_) ?_) ?_) ?_) ?_) ?_) ?_) ?_) ?_) ?_) ?_) ?_) ?_) ?_) ?_) ?_) ?_
          · intro o aa ww ho hG hold hnew K hK
            obtain rfl := Option.some.inj ho
            have s9 : aa.tmps[9]? = some (.pointer (some ⟨w1.heap.size, 0, none⟩)) := hold 9 rfl
            clear hold hnew
            have c0 := cellk hG y9 k0; have c1 := cellk hG y9 k1
            go_simp
            refine hK _ _ (Below.refl _ _) (fun sq hsq => ?_)
            obtain rfl := Option.some.inj hsq
            exact ⟨(show (_ : Value) = (.agg #[.int .u64 l, .int .u64 h]) from (by first | rfl | (simp [*]; done))), fun h => absurd rfl h⟩
          · intro o aa ww ho hG hold hnew K hK
            obtain rfl := Option.some.inj ho
            obtain ⟨x43, s43, e43⟩ := hnew 43 (by kernel_rfl)
            obtain rfl : x43 = (.agg #[.int .u64 l, .int .u64 h]) := e43
            clear hold hnew
            go_simp
            first | (refine (empty_is _ _ true (decide_eq_true hlh) _).mono ?_; rintro e w3 ⟨rfl, hbb⟩; refine hK _ _ hbb (fun sq hsq => ?_)) | refine hK _ _ (Below.refl _ _) (fun sq hsq => ?_)
            obtain rfl := Option.some.inj hsq
            exact ⟨(show (_ : Value) = (.bool true) from (by first | rfl | (simp [*]; done))), fun h => absurd rfl h⟩
          · intro o aa ww ho hG hold hnew K hK
            obtain rfl := Option.some.inj ho
            obtain ⟨x44, s44, e44⟩ := hnew 44 (by kernel_rfl)
            obtain rfl : x44 = (.bool true) := e44
            clear hold hnew
            go_simp
            refine hK _ _ (Below.refl _ _) (fun sq hsq => ?_)
            obtain rfl := Option.some.inj hsq
            exact ⟨(show (_ : Value) = (.bool true) from (by first | rfl | (simp [*]; done))), fun h => absurd rfl h⟩
          · intro o aa ww ho hG hold hnew K hK
            obtain rfl := Option.some.inj ho
            have s9 : aa.tmps[9]? = some (.pointer (some ⟨w1.heap.size, 0, none⟩)) := hold 9 rfl
            obtain ⟨x45, s45, e45⟩ := hnew 45 (by kernel_rfl)
            obtain rfl : x45 = (.bool true) := e45
            clear hold hnew
            have c0 := cellk hG y9 k0; have c1 := cellk hG y9 k1
            go_simp
            refine hK _ _ (Below.refl _ _) (fun sq hsq => ?_)
            obtain rfl := Option.some.inj hsq
            exact ⟨(show (_ : Value) = (.agg #[.int .u64 l, .int .u64 h]) from (by first | rfl | (simp [*]; done))), fun h => absurd rfl h⟩
          · intro o aa ww ho hG hold hnew K hK
            obtain rfl := Option.some.inj ho
            have s2 : aa.tmps[2]? = some (.int .u64 t) := hold 2 rfl
            obtain ⟨x45, s45, e45⟩ := hnew 45 (by kernel_rfl)
            obtain rfl : x45 = (.bool true) := e45
            clear hold hnew
            go_simp
            refine hK _ _ (Below.refl _ _) (fun sq hsq => ?_)
            obtain rfl := Option.some.inj hsq
            exact ⟨(show (_ : Value) = (.int .u64 t) from (by first | rfl | (simp [*]; done))), fun h => absurd rfl h⟩
          · intro o aa ww ho hG hold hnew K hK
            obtain rfl := Option.some.inj ho
            obtain ⟨x45, s45, e45⟩ := hnew 45 (by kernel_rfl)
            obtain rfl : x45 = (.bool true) := e45
            obtain ⟨x46, s46, e46⟩ := hnew 46 (by kernel_rfl)
            obtain rfl : x46 = (.agg #[.int .u64 l, .int .u64 h]) := e46
            obtain ⟨x47, s47, e47⟩ := hnew 47 (by kernel_rfl)
            obtain rfl : x47 = (.int .u64 t) := e47
            clear hold hnew
            go_simp
            first | (refine (has_is _ _ _ false (none_in hlh _) _).mono ?_; rintro e w3 ⟨rfl, hbb⟩; refine hK _ _ hbb (fun sq hsq => ?_)) | refine hK _ _ (Below.refl _ _) (fun sq hsq => ?_)
            obtain rfl := Option.some.inj hsq
            exact ⟨(show (_ : Value) = (.bool false) from (by first | rfl | (simp [*]; done))), fun h => absurd rfl h⟩
          · intro o aa ww ho hG hold hnew K hK
            obtain rfl := Option.some.inj ho
            obtain ⟨x45, s45, e45⟩ := hnew 45 (by kernel_rfl)
            obtain rfl : x45 = (.bool true) := e45
            obtain ⟨x48, s48, e48⟩ := hnew 48 (by kernel_rfl)
            obtain rfl : x48 = (.bool false) := e48
            clear hold hnew
            go_simp
            refine hK _ _ (Below.refl _ _) (fun sq hsq => ?_)
            obtain rfl := Option.some.inj hsq
            exact ⟨(show (_ : Value) = (.bool true) from (by first | rfl | (simp [*]; done))), fun h => absurd rfl h⟩
          · intro o aa ww ho hG hold hnew K hK
            obtain rfl := Option.some.inj ho
            obtain ⟨x45, s45, e45⟩ := hnew 45 (by kernel_rfl)
            obtain rfl : x45 = (.bool true) := e45
            obtain ⟨x49, s49, e49⟩ := hnew 49 (by kernel_rfl)
            obtain rfl : x49 = (.bool true) := e49
            clear hold hnew
            go_simp
            refine hK _ _ (Below.refl _ _) (fun sq hsq => ?_)
            obtain rfl := Option.some.inj hsq
            exact ⟨(show (_ : Value) = (.bool true) from (by first | rfl | (simp [*]; done))), fun h => absurd rfl h⟩
          · intro o aa ww ho hG hold hnew K hK
            obtain rfl := Option.some.inj ho
            obtain ⟨x50, s50, e50⟩ := hnew 50 (by kernel_rfl)
            obtain rfl : x50 = (.bool true) := e50
            clear hold hnew
            go_simp
            refine hK _ _ (Below.refl _ _) (fun sq hsq => ?_)
            obtain rfl := Option.some.inj hsq
            exact ⟨(show (_ : Value) = (.bool true) from (by first | rfl | (simp [*]; done))), fun h => absurd rfl h⟩
          · intro o aa ww ho hG hold hnew K hK
            obtain rfl := Option.some.inj ho
            have s9 : aa.tmps[9]? = some (.pointer (some ⟨w1.heap.size, 0, none⟩)) := hold 9 rfl
            obtain ⟨x51, s51, e51⟩ := hnew 51 (by kernel_rfl)
            obtain rfl : x51 = (.bool true) := e51
            clear hold hnew
            have c0 := cellk hG y9 k0; have c1 := cellk hG y9 k1
            go_simp
            refine hK _ _ (Below.refl _ _) (fun sq hsq => ?_)
            obtain rfl := Option.some.inj hsq
            exact ⟨(show (_ : Value) = (.agg #[.int .u64 l, .int .u64 h]) from (by first | rfl | (simp [*]; done))), fun h => absurd rfl h⟩
          · intro o aa ww ho hG hold hnew K hK
            obtain rfl := Option.some.inj ho
            have s7 : aa.tmps[7]? = some (.pointer (some ⟨w.heap.size, 0, none⟩)) := hold 7 rfl
            obtain ⟨x51, s51, e51⟩ := hnew 51 (by kernel_rfl)
            obtain rfl : x51 = (.bool true) := e51
            clear hold hnew
            have c0 := cellk hG y7 k4; have c1 := cellk hG y7 k5; have c2 := cellk hG y7 k6
            go_simp
            refine hK _ _ (Below.refl _ _) (fun sq hsq => ?_)
            obtain rfl := Option.some.inj hsq
            exact ⟨(show (_ : Value) = (.agg #[.int .u64 l1, .int .u64 m1, .int .u8 n1]) from (by first | rfl | (simp [*]; done))), fun h => absurd rfl h⟩
          · intro o aa ww ho hG hold hnew K hK
            obtain rfl := Option.some.inj ho
            obtain ⟨x51, s51, e51⟩ := hnew 51 (by kernel_rfl)
            obtain rfl : x51 = (.bool true) := e51
            obtain ⟨x53, s53, e53⟩ := hnew 53 (by kernel_rfl)
            obtain rfl : x53 = (.agg #[.int .u64 l1, .int .u64 m1, .int .u8 n1]) := e53
            clear hold hnew
            go_simp
            first | (refine (makeE_is _ _ _ _ _ _ h1 h2 h3 HA.out).mono ?_; rintro e w3 ⟨rfl, hbb⟩; refine hK _ _ hbb (fun sq hsq => ?_)) | refine hK _ _ (Below.refl _ _) (fun sq hsq => ?_)
            obtain rfl := Option.some.inj hsq
            exact ⟨(show (_ : Value) = (.agg #[.int .u64 a, .int .u64 b]) from (by first | rfl | (simp [*]; done))), fun h => absurd rfl h⟩
          · intro o aa ww ho hG hold hnew K hK
            obtain rfl := Option.some.inj ho
            obtain ⟨x51, s51, e51⟩ := hnew 51 (by kernel_rfl)
            obtain rfl : x51 = (.bool true) := e51
            obtain ⟨x52, s52, e52⟩ := hnew 52 (by kernel_rfl)
            obtain rfl : x52 = (.agg #[.int .u64 l, .int .u64 h]) := e52
            obtain ⟨x54, s54, e54⟩ := hnew 54 (by kernel_rfl)
            obtain rfl : x54 = (.agg #[.int .u64 a, .int .u64 b]) := e54
            clear hold hnew
            go_simp
            first | (refine (meetP_is _ _ _ _ (1, 0) _ (hNW.below hG hNW.lt) (none_meet hlh _ _)).mono ?_; rintro e w3 ⟨rfl, hbb⟩; refine hK _ _ hbb (fun sq hsq => ?_)) | refine hK _ _ (Below.refl _ _) (fun sq hsq => ?_)
            obtain rfl := Option.some.inj hsq
            exact ⟨(show (_ : Value) = (.agg #[.int .u64 1, .int .u64 0]) from (by first | rfl | (simp [*]; done))), fun h => absurd rfl h⟩
          · intro o aa ww ho hG hold hnew K hK
            obtain rfl := Option.some.inj ho
            have s10 : aa.tmps[10]? = some (.pointer (some ⟨w1.heap.size + 1, 0, none⟩)) := hold 10 rfl
            obtain ⟨x51, s51, e51⟩ := hnew 51 (by kernel_rfl)
            obtain rfl : x51 = (.bool true) := e51
            clear hold hnew
            have c0 := cellk hG z1 k2; have c1 := cellk hG z1 k3
            go_simp
            refine hK _ _ (Below.refl _ _) (fun sq hsq => ?_)
            obtain rfl := Option.some.inj hsq
            exact ⟨(show (_ : Value) = (.agg #[.int .u64 1, .int .u64 0]) from (by first | rfl | (simp [*]; done))), fun h => absurd rfl h⟩
          · intro o aa ww ho hG hold hnew K hK
            obtain rfl := Option.some.inj ho
            obtain ⟨x51, s51, e51⟩ := hnew 51 (by kernel_rfl)
            obtain rfl : x51 = (.bool true) := e51
            obtain ⟨x55, s55, e55⟩ := hnew 55 (by kernel_rfl)
            obtain rfl : x55 = (.agg #[.int .u64 1, .int .u64 0]) := e55
            obtain ⟨x56, s56, e56⟩ := hnew 56 (by kernel_rfl)
            obtain rfl : x56 = (.agg #[.int .u64 1, .int .u64 0]) := e56
            clear hold hnew
            go_simp
            refine hK _ _ (Below.refl _ _) (fun sq hsq => ?_)
            obtain rfl := Option.some.inj hsq
            exact ⟨(show (_ : Value) = (.bool true) from (by first | rfl | (simp [*]; done))), fun h => absurd rfl h⟩
          · intro o aa ww ho hG hold hnew K hK
            obtain rfl := Option.some.inj ho
            obtain ⟨x51, s51, e51⟩ := hnew 51 (by kernel_rfl)
            obtain rfl : x51 = (.bool true) := e51
            obtain ⟨x57, s57, e57⟩ := hnew 57 (by kernel_rfl)
            obtain rfl : x57 = (.bool true) := e57
            clear hold hnew
            go_simp
            refine hK _ _ (Below.refl _ _) (fun sq hsq => ?_)
            obtain rfl := Option.some.inj hsq
            exact ⟨(show (_ : Value) = (.bool true) from (by first | rfl | (simp [*]; done))), fun h => absurd rfl h⟩
          · intro o aa ww ho hG hold hnew K hK
            obtain rfl := Option.some.inj ho
            obtain ⟨x58, s58, e58⟩ := hnew 58 (by kernel_rfl)
            obtain rfl : x58 = (.bool true) := e58
            clear hold hnew
            go_simp
            refine hK _ _ (Below.refl _ _) (fun sq hsq => ?_)
            obtain rfl := Option.some.inj hsq
            exact ⟨(show (_ : Value) = (.bool true) from (by first | rfl | (simp [*]; done))), fun h => absurd rfl h⟩
          · intro o aa ww ho hG hold hnew K hK
            obtain rfl := Option.some.inj ho
            have s9 : aa.tmps[9]? = some (.pointer (some ⟨w1.heap.size, 0, none⟩)) := hold 9 rfl
            obtain ⟨x59, s59, e59⟩ := hnew 59 (by kernel_rfl)
            obtain rfl : x59 = (.bool true) := e59
            clear hold hnew
            have c0 := cellk hG y9 k0; have c1 := cellk hG y9 k1
            go_simp
            refine hK _ _ (Below.refl _ _) (fun sq hsq => ?_)
            obtain rfl := Option.some.inj hsq
            exact ⟨(show (_ : Value) = (.agg #[.int .u64 l, .int .u64 h]) from (by first | rfl | (simp [*]; done))), fun h => absurd rfl h⟩
          · intro o aa ww ho hG hold hnew K hK
            obtain rfl := Option.some.inj ho
            have s2 : aa.tmps[2]? = some (.int .u64 t) := hold 2 rfl
            obtain ⟨x59, s59, e59⟩ := hnew 59 (by kernel_rfl)
            obtain rfl : x59 = (.bool true) := e59
            clear hold hnew
            go_simp
            refine hK _ _ (Below.refl _ _) (fun sq hsq => ?_)
            obtain rfl := Option.some.inj hsq
            exact ⟨(show (_ : Value) = (.int .u64 t) from (by first | rfl | (simp [*]; done))), fun h => absurd rfl h⟩
          · intro o aa ww ho hG hold hnew K hK
            obtain rfl := Option.some.inj ho
            obtain ⟨x59, s59, e59⟩ := hnew 59 (by kernel_rfl)
            obtain rfl : x59 = (.bool true) := e59
            obtain ⟨x60, s60, e60⟩ := hnew 60 (by kernel_rfl)
            obtain rfl : x60 = (.agg #[.int .u64 l, .int .u64 h]) := e60
            obtain ⟨x61, s61, e61⟩ := hnew 61 (by kernel_rfl)
            obtain rfl : x61 = (.int .u64 t) := e61
            clear hold hnew
            go_simp
            first | (refine (aboveP_is _ _ _ (1, 0) _ (hNW.below hG hNW.lt) ht.1 hh2 (none_above hlh _)).mono ?_; rintro e w3 ⟨rfl, hbb⟩; refine hK _ _ hbb (fun sq hsq => ?_)) | refine hK _ _ (Below.refl _ _) (fun sq hsq => ?_)
            obtain rfl := Option.some.inj hsq
            exact ⟨(show (_ : Value) = (.agg #[.int .u64 1, .int .u64 0]) from (by first | rfl | (simp [*]; done))), fun h => absurd rfl h⟩
          · intro o aa ww ho hG hold hnew K hK
            obtain rfl := Option.some.inj ho
            have s10 : aa.tmps[10]? = some (.pointer (some ⟨w1.heap.size + 1, 0, none⟩)) := hold 10 rfl
            obtain ⟨x59, s59, e59⟩ := hnew 59 (by kernel_rfl)
            obtain rfl : x59 = (.bool true) := e59
            clear hold hnew
            have c0 := cellk hG z1 k2; have c1 := cellk hG z1 k3
            go_simp
            refine hK _ _ (Below.refl _ _) (fun sq hsq => ?_)
            obtain rfl := Option.some.inj hsq
            exact ⟨(show (_ : Value) = (.agg #[.int .u64 1, .int .u64 0]) from (by first | rfl | (simp [*]; done))), fun h => absurd rfl h⟩
          · intro o aa ww ho hG hold hnew K hK
            obtain rfl := Option.some.inj ho
            obtain ⟨x59, s59, e59⟩ := hnew 59 (by kernel_rfl)
            obtain rfl : x59 = (.bool true) := e59
            obtain ⟨x62, s62, e62⟩ := hnew 62 (by kernel_rfl)
            obtain rfl : x62 = (.agg #[.int .u64 1, .int .u64 0]) := e62
            obtain ⟨x63, s63, e63⟩ := hnew 63 (by kernel_rfl)
            obtain rfl : x63 = (.agg #[.int .u64 1, .int .u64 0]) := e63
            clear hold hnew
            go_simp
            refine hK _ _ (Below.refl _ _) (fun sq hsq => ?_)
            obtain rfl := Option.some.inj hsq
            exact ⟨(show (_ : Value) = (.bool true) from (by first | rfl | (simp [*]; done))), fun h => absurd rfl h⟩
          · intro o aa ww ho hG hold hnew K hK
            obtain rfl := Option.some.inj ho
            obtain ⟨x59, s59, e59⟩ := hnew 59 (by kernel_rfl)
            obtain rfl : x59 = (.bool true) := e59
            obtain ⟨x64, s64, e64⟩ := hnew 64 (by kernel_rfl)
            obtain rfl : x64 = (.bool true) := e64
            clear hold hnew
            go_simp
            refine hK _ _ (Below.refl _ _) (fun sq hsq => ?_)
            obtain rfl := Option.some.inj hsq
            exact ⟨(show (_ : Value) = (.bool true) from (by first | rfl | (simp [*]; done))), fun h => absurd rfl h⟩
          · intro o aa ww ho hG hold hnew K hK
            obtain rfl := Option.some.inj ho
            obtain ⟨x65, s65, e65⟩ := hnew 65 (by kernel_rfl)
            obtain rfl : x65 = (.bool true) := e65
            clear hold hnew
            go_simp
            refine hK _ _ (Below.refl _ _) (fun sq hsq => ?_)
            obtain rfl := Option.some.inj hsq
            exact ⟨(show (_ : Value) = (.bool true) from (by first | rfl | (simp [*]; done))), fun h => absurd rfl h⟩
          · intro o aa ww ho hG hold hnew K hK
            obtain rfl := Option.some.inj ho
            have s9 : aa.tmps[9]? = some (.pointer (some ⟨w1.heap.size, 0, none⟩)) := hold 9 rfl
            obtain ⟨x66, s66, e66⟩ := hnew 66 (by kernel_rfl)
            obtain rfl : x66 = (.bool true) := e66
            clear hold hnew
            have c0 := cellk hG y9 k0; have c1 := cellk hG y9 k1
            go_simp
            refine hK _ _ (Below.refl _ _) (fun sq hsq => ?_)
            obtain rfl := Option.some.inj hsq
            exact ⟨(show (_ : Value) = (.agg #[.int .u64 l, .int .u64 h]) from (by first | rfl | (simp [*]; done))), fun h => absurd rfl h⟩
          · intro o aa ww ho hG hold hnew K hK
            obtain rfl := Option.some.inj ho
            have s2 : aa.tmps[2]? = some (.int .u64 t) := hold 2 rfl
            obtain ⟨x66, s66, e66⟩ := hnew 66 (by kernel_rfl)
            obtain rfl : x66 = (.bool true) := e66
            clear hold hnew
            go_simp
            refine hK _ _ (Below.refl _ _) (fun sq hsq => ?_)
            obtain rfl := Option.some.inj hsq
            exact ⟨(show (_ : Value) = (.int .u64 t) from (by first | rfl | (simp [*]; done))), fun h => absurd rfl h⟩
          · intro o aa ww ho hG hold hnew K hK
            obtain rfl := Option.some.inj ho
            obtain ⟨x66, s66, e66⟩ := hnew 66 (by kernel_rfl)
            obtain rfl : x66 = (.bool true) := e66
            obtain ⟨x67, s67, e67⟩ := hnew 67 (by kernel_rfl)
            obtain rfl : x67 = (.agg #[.int .u64 l, .int .u64 h]) := e67
            obtain ⟨x68, s68, e68⟩ := hnew 68 (by kernel_rfl)
            obtain rfl : x68 = (.int .u64 t) := e68
            clear hold hnew
            go_simp
            first | (refine (belowP_is _ _ _ (1, 0) _ (hNW.below hG hNW.lt) ht.2 hl1 (none_below hlh _)).mono ?_; rintro e w3 ⟨rfl, hbb⟩; refine hK _ _ hbb (fun sq hsq => ?_)) | refine hK _ _ (Below.refl _ _) (fun sq hsq => ?_)
            obtain rfl := Option.some.inj hsq
            exact ⟨(show (_ : Value) = (.agg #[.int .u64 1, .int .u64 0]) from (by first | rfl | (simp [*]; done))), fun h => absurd rfl h⟩
          · intro o aa ww ho hG hold hnew K hK
            obtain rfl := Option.some.inj ho
            have s10 : aa.tmps[10]? = some (.pointer (some ⟨w1.heap.size + 1, 0, none⟩)) := hold 10 rfl
            obtain ⟨x66, s66, e66⟩ := hnew 66 (by kernel_rfl)
            obtain rfl : x66 = (.bool true) := e66
            clear hold hnew
            have c0 := cellk hG z1 k2; have c1 := cellk hG z1 k3
            go_simp
            refine hK _ _ (Below.refl _ _) (fun sq hsq => ?_)
            obtain rfl := Option.some.inj hsq
            exact ⟨(show (_ : Value) = (.agg #[.int .u64 1, .int .u64 0]) from (by first | rfl | (simp [*]; done))), fun h => absurd rfl h⟩
          · intro o aa ww ho hG hold hnew K hK
            obtain rfl := Option.some.inj ho
            obtain ⟨x66, s66, e66⟩ := hnew 66 (by kernel_rfl)
            obtain rfl : x66 = (.bool true) := e66
            obtain ⟨x69, s69, e69⟩ := hnew 69 (by kernel_rfl)
            obtain rfl : x69 = (.agg #[.int .u64 1, .int .u64 0]) := e69
            obtain ⟨x70, s70, e70⟩ := hnew 70 (by kernel_rfl)
            obtain rfl : x70 = (.agg #[.int .u64 1, .int .u64 0]) := e70
            clear hold hnew
            go_simp
            refine hK _ _ (Below.refl _ _) (fun sq hsq => ?_)
            obtain rfl := Option.some.inj hsq
            exact ⟨(show (_ : Value) = (.bool true) from (by first | rfl | (simp [*]; done))), fun h => absurd rfl h⟩
          · intro o aa ww ho hG hold hnew K hK
            obtain rfl := Option.some.inj ho
            obtain ⟨x66, s66, e66⟩ := hnew 66 (by kernel_rfl)
            obtain rfl : x66 = (.bool true) := e66
            obtain ⟨x71, s71, e71⟩ := hnew 71 (by kernel_rfl)
            obtain rfl : x71 = (.bool true) := e71
            clear hold hnew
            go_simp
            refine hK _ _ (Below.refl _ _) (fun sq hsq => ?_)
            obtain rfl := Option.some.inj hsq
            exact ⟨(show (_ : Value) = (.bool true) from (by first | rfl | (simp [*]; done))), fun h => absurd rfl h⟩
          · intro o aa ww ho hG hold hnew K hK
            obtain rfl := Option.some.inj ho
            obtain ⟨x72, s72, e72⟩ := hnew 72 (by kernel_rfl)
            obtain rfl : x72 = (.bool true) := e72
            clear hold hnew
            go_simp
            refine hK _ _ (Below.refl _ _) (fun sq hsq => ?_)
            obtain rfl := Option.some.inj hsq
            exact ⟨(show (_ : Value) = (.bool true) from (by first | rfl | (simp [*]; done))), fun h => absurd rfl h⟩
          · intro o aa ww ho hG hold hnew K hK
            obtain rfl := Option.some.inj ho
            have s11 : aa.tmps[11]? = some (.pointer (some ⟨g11, 0, none⟩)) := hold 11 rfl
            obtain ⟨x73, s73, e73⟩ := hnew 73 (by kernel_rfl)
            obtain rfl : x73 = (.bool true) := e73
            clear hold hnew
            have c0 := cellk hG yB k7; have c1 := cellk hG yB k8
            go_simp
            refine hK _ _ (Below.refl _ _) (fun sq hsq => ?_)
            obtain rfl := Option.some.inj hsq
            exact ⟨(show (_ : Value) = (.agg #[.int .u64 1, .int .u64 0]) from (by first | rfl | (simp [*]; done))), fun h => absurd rfl h⟩
          · intro o aa ww ho hG hold hnew K hK
            obtain rfl := Option.some.inj ho
            have s10 : aa.tmps[10]? = some (.pointer (some ⟨w1.heap.size + 1, 0, none⟩)) := hold 10 rfl
            obtain ⟨x73, s73, e73⟩ := hnew 73 (by kernel_rfl)
            obtain rfl : x73 = (.bool true) := e73
            clear hold hnew
            have c0 := cellk hG z1 k2; have c1 := cellk hG z1 k3
            go_simp
            refine hK _ _ (Below.refl _ _) (fun sq hsq => ?_)
            obtain rfl := Option.some.inj hsq
            exact ⟨(show (_ : Value) = (.agg #[.int .u64 1, .int .u64 0]) from (by first | rfl | (simp [*]; done))), fun h => absurd rfl h⟩
          · intro o aa ww ho hG hold hnew K hK
            obtain rfl := Option.some.inj ho
            obtain ⟨x73, s73, e73⟩ := hnew 73 (by kernel_rfl)
            obtain rfl : x73 = (.bool true) := e73
            obtain ⟨x74, s74, e74⟩ := hnew 74 (by kernel_rfl)
            obtain rfl : x74 = (.agg #[.int .u64 1, .int .u64 0]) := e74
            obtain ⟨x75, s75, e75⟩ := hnew 75 (by kernel_rfl)
            obtain rfl : x75 = (.agg #[.int .u64 1, .int .u64 0]) := e75
            clear hold hnew
            go_simp
            refine hK _ _ (Below.refl _ _) (fun sq hsq => ?_)
            obtain rfl := Option.some.inj hsq
            exact ⟨(show (_ : Value) = (.bool true) from (by first | rfl | (simp [*]; done))), fun h => absurd rfl h⟩
          · intro o aa ww ho hG hold hnew K hK
            obtain rfl := Option.some.inj ho
            obtain ⟨x73, s73, e73⟩ := hnew 73 (by kernel_rfl)
            obtain rfl : x73 = (.bool true) := e73
            obtain ⟨x76, s76, e76⟩ := hnew 76 (by kernel_rfl)
            obtain rfl : x76 = (.bool true) := e76
            clear hold hnew
            go_simp
            refine hK _ _ (Below.refl _ _) (fun sq hsq => ?_)
            obtain rfl := Option.some.inj hsq
            exact ⟨(show (_ : Value) = (.bool true) from (by first | rfl | (simp [*]; done))), fun h => absurd rfl h⟩
          · intro o aa ww ho hG hold hnew K hK
            obtain rfl := Option.some.inj ho
            obtain ⟨x77, s77, e77⟩ := hnew 77 (by kernel_rfl)
            obtain rfl : x77 = (.bool true) := e77
            clear hold hnew
            go_simp
            refine hK _ _ (Below.refl _ _) (fun sq hsq => ?_)
            obtain rfl := Option.some.inj hsq
            exact ⟨(show (_ : Value) = (.bool true) from (by first | rfl | (simp [*]; done))), fun h => absurd rfl h⟩
          · intro o aa ww ho hG hold hnew K hK
            obtain rfl := Option.some.inj ho
            have s12 : aa.tmps[12]? = some (.pointer (some ⟨g12, 0, none⟩)) := hold 12 rfl
            obtain ⟨x78, s78, e78⟩ := hnew 78 (by kernel_rfl)
            obtain rfl : x78 = (.bool true) := e78
            clear hold hnew
            have c0 := cellk hG yC k9; have c1 := cellk hG yC kA
            go_simp
            refine hK _ _ (Below.refl _ _) (fun sq hsq => ?_)
            obtain rfl := Option.some.inj hsq
            exact ⟨(show (_ : Value) = (.agg #[.int .u64 1, .int .u64 0]) from (by first | rfl | (simp [*]; done))), fun h => absurd rfl h⟩
          · intro o aa ww ho hG hold hnew K hK
            obtain rfl := Option.some.inj ho
            have s10 : aa.tmps[10]? = some (.pointer (some ⟨w1.heap.size + 1, 0, none⟩)) := hold 10 rfl
            obtain ⟨x78, s78, e78⟩ := hnew 78 (by kernel_rfl)
            obtain rfl : x78 = (.bool true) := e78
            clear hold hnew
            have c0 := cellk hG z1 k2; have c1 := cellk hG z1 k3
            go_simp
            refine hK _ _ (Below.refl _ _) (fun sq hsq => ?_)
            obtain rfl := Option.some.inj hsq
            exact ⟨(show (_ : Value) = (.agg #[.int .u64 1, .int .u64 0]) from (by first | rfl | (simp [*]; done))), fun h => absurd rfl h⟩
          · intro o aa ww ho hG hold hnew K hK
            obtain rfl := Option.some.inj ho
            obtain ⟨x78, s78, e78⟩ := hnew 78 (by kernel_rfl)
            obtain rfl : x78 = (.bool true) := e78
            obtain ⟨x79, s79, e79⟩ := hnew 79 (by kernel_rfl)
            obtain rfl : x79 = (.agg #[.int .u64 1, .int .u64 0]) := e79
            obtain ⟨x80, s80, e80⟩ := hnew 80 (by kernel_rfl)
            obtain rfl : x80 = (.agg #[.int .u64 1, .int .u64 0]) := e80
            clear hold hnew
            go_simp
            refine hK _ _ (Below.refl _ _) (fun sq hsq => ?_)
            obtain rfl := Option.some.inj hsq
            exact ⟨(show (_ : Value) = (.bool true) from (by first | rfl | (simp [*]; done))), fun h => absurd rfl h⟩
          · intro o aa ww ho hG hold hnew K hK
            obtain rfl := Option.some.inj ho
            obtain ⟨x78, s78, e78⟩ := hnew 78 (by kernel_rfl)
            obtain rfl : x78 = (.bool true) := e78
            obtain ⟨x81, s81, e81⟩ := hnew 81 (by kernel_rfl)
            obtain rfl : x81 = (.bool true) := e81
            clear hold hnew
            go_simp
            refine hK _ _ (Below.refl _ _) (fun sq hsq => ?_)
            obtain rfl := Option.some.inj hsq
            exact ⟨(show (_ : Value) = (.bool true) from (by first | rfl | (simp [*]; done))), fun h => absurd rfl h⟩
          · intro o aa ww ho hG hold hnew K hK
            obtain rfl := Option.some.inj ho
            obtain ⟨x82, s82, e82⟩ := hnew 82 (by kernel_rfl)
            obtain rfl : x82 = (.bool true) := e82
            clear hold hnew
            go_simp
            refine hK _ _ (Below.refl _ _) (fun sq hsq => ?_)
            obtain rfl := Option.some.inj hsq
            exact ⟨(show (_ : Value) = (.bool true) from (by first | rfl | (simp [*]; done))), fun h => absurd rfl h⟩
          · intro o aa ww ho hG hold hnew K hK
            obtain rfl := Option.some.inj ho
            have s13 : aa.tmps[13]? = some (.pointer (some ⟨g13, 0, none⟩)) := hold 13 rfl
            obtain ⟨x83, s83, e83⟩ := hnew 83 (by kernel_rfl)
            obtain rfl : x83 = (.bool true) := e83
            clear hold hnew
            have c0 := cellk hG yD kB; have c1 := cellk hG yD kC
            go_simp
            refine hK _ _ (Below.refl _ _) (fun sq hsq => ?_)
            obtain rfl := Option.some.inj hsq
            exact ⟨(show (_ : Value) = (.agg #[.int .u64 c, .int .u64 d]) from (by first | rfl | (simp [*]; done))), fun h => absurd rfl h⟩
          · intro o aa ww ho hG hold hnew K hK
            obtain rfl := Option.some.inj ho
            have s7 : aa.tmps[7]? = some (.pointer (some ⟨w.heap.size, 0, none⟩)) := hold 7 rfl
            obtain ⟨x83, s83, e83⟩ := hnew 83 (by kernel_rfl)
            obtain rfl : x83 = (.bool true) := e83
            clear hold hnew
            have c0 := cellk hG y7 k4; have c1 := cellk hG y7 k5; have c2 := cellk hG y7 k6
            go_simp
            refine hK _ _ (Below.refl _ _) (fun sq hsq => ?_)
            obtain rfl := Option.some.inj hsq
            exact ⟨(show (_ : Value) = (.agg #[.int .u64 l1, .int .u64 m1, .int .u8 n1]) from (by first | rfl | (simp [*]; done))), fun h => absurd rfl h⟩
          · intro o aa ww ho hG hold hnew K hK
            obtain rfl := Option.some.inj ho
            obtain ⟨x83, s83, e83⟩ := hnew 83 (by kernel_rfl)
            obtain rfl : x83 = (.bool true) := e83
            obtain ⟨x85, s85, e85⟩ := hnew 85 (by kernel_rfl)
            obtain rfl : x85 = (.agg #[.int .u64 l1, .int .u64 m1, .int .u8 n1]) := e85
            clear hold hnew
            go_simp
            first | (refine (makeE_is _ _ _ _ _ _ h1 h2 h3 HA.out).mono ?_; rintro e w3 ⟨rfl, hbb⟩; refine hK _ _ hbb (fun sq hsq => ?_)) | refine hK _ _ (Below.refl _ _) (fun sq hsq => ?_)
            obtain rfl := Option.some.inj hsq
            exact ⟨(show (_ : Value) = (.agg #[.int .u64 a, .int .u64 b]) from (by first | rfl | (simp [*]; done))), fun h => absurd rfl h⟩
          · intro o aa ww ho hG hold hnew K hK
            obtain rfl := Option.some.inj ho
            obtain ⟨x83, s83, e83⟩ := hnew 83 (by kernel_rfl)
            obtain rfl : x83 = (.bool true) := e83
            obtain ⟨x84, s84, e84⟩ := hnew 84 (by kernel_rfl)
            obtain rfl : x84 = (.agg #[.int .u64 c, .int .u64 d]) := e84
            obtain ⟨x86, s86, e86⟩ := hnew 86 (by kernel_rfl)
            obtain rfl : x86 = (.agg #[.int .u64 a, .int .u64 b]) := e86
            clear hold hnew
            rcases HD.out with ⟨p1, p2, rfl⟩ | ⟨p1, rfl⟩ | ⟨p1, p2, rfl⟩
            all_goals
              (try simp only [if_true, if_false, Bool.false_eq_true] at s83 s84 s86)
              go_simp
              refine hK _ _ (Below.refl _ _) (fun sq hsq => ?_)
              obtain rfl := Option.some.inj hsq
              exact ⟨(by first | rfl | (simp; done) | (simp [*]; done)), fun h => absurd rfl h⟩
          · intro o aa ww ho hG hold hnew K hK
            obtain rfl := Option.some.inj ho
            obtain ⟨x83, s83, e83⟩ := hnew 83 (by kernel_rfl)
            obtain rfl : x83 = (.bool true) := e83
            obtain ⟨x87, s87, e87⟩ := hnew 87 (by kernel_rfl)
            obtain rfl : x87 = (.bool Q) := e87
            clear hold hnew
            go_simp
            refine hK _ _ (Below.refl _ _) (fun sq hsq => ?_)
            obtain rfl := Option.some.inj hsq
            exact ⟨(show (_ : Value) = (.bool Q) from (by first | rfl | (simp [*]; done))), fun h => absurd rfl h⟩
          · intro o aa ww ho hG hold hnew K hK
            obtain rfl := Option.some.inj ho
            have s7 : aa.tmps[7]? = some (.pointer (some ⟨w.heap.size, 0, none⟩)) := hold 7 rfl
            obtain ⟨x88, s88, e88⟩ := hnew 88 (by kernel_rfl)
            obtain rfl : x88 = (.bool Q) := e88
            clear hold hnew
            cases Q
            all_goals
              (try simp only [if_true, if_false, Bool.false_eq_true] at s88)
              have c0 := cellk hG y7 k4; have c1 := cellk hG y7 k5; have c2 := cellk hG y7 k6
              go_simp
              refine hK _ _ (Below.refl _ _) (fun sq hsq => ?_)
              obtain rfl := Option.some.inj hsq
              exact ⟨(by first | rfl | (simp; done) | (simp [*]; done)), fun h => absurd rfl h⟩
          · intro o aa ww ho hG hold hnew K hK
            obtain rfl := Option.some.inj ho
            obtain ⟨x88, s88, e88⟩ := hnew 88 (by kernel_rfl)
            obtain rfl : x88 = (.bool Q) := e88
            obtain ⟨x89, s89, e89⟩ := hnew 89 (by kernel_rfl)
            obtain rfl : x89 = (if Q then undef else .agg #[.int .u64 l1, .int .u64 m1, .int .u8 n1]) := e89
            clear hold hnew
            cases Q
            all_goals
              (try simp only [if_true, if_false, Bool.false_eq_true] at s88 s89)
              go_simp
              first | (refine (makeE_is _ _ _ _ _ _ h1 h2 h3 HA.out).mono ?_; rintro e w3 ⟨rfl, hbb⟩; refine hK _ _ hbb (fun sq hsq => ?_)) | refine hK _ _ (Below.refl _ _) (fun sq hsq => ?_)
              obtain rfl := Option.some.inj hsq
              exact ⟨(by first | rfl | (simp; done) | (simp [*]; done)), fun h => absurd rfl h⟩
          · intro o aa ww ho hG hold hnew K hK
            obtain rfl := Option.some.inj ho
            obtain ⟨x88, s88, e88⟩ := hnew 88 (by kernel_rfl)
            obtain rfl : x88 = (.bool Q) := e88
            obtain ⟨x90, s90, e90⟩ := hnew 90 (by kernel_rfl)
            obtain rfl : x90 = (if Q then undef else .agg #[.int .u64 a, .int .u64 b]) := e90
            clear hold hnew
            cases Q
            all_goals
              (try simp only [if_true, if_false, Bool.false_eq_true] at s88 s90)
              go_simp
              first | (refine (empty_is _ _ true (HT.out rfl).1 _).mono ?_; rintro e w3 ⟨rfl, hbb⟩; refine hK _ _ hbb (fun sq hsq => ?_)) | refine hK _ _ (Below.refl _ _) (fun sq hsq => ?_)
              obtain rfl := Option.some.inj hsq
              exact ⟨(by first | rfl | (simp; done) | (simp [*]; done)), fun h => absurd rfl h⟩
          · intro o aa ww ho hG hold hnew K hK
            obtain rfl := Option.some.inj ho
            obtain ⟨x88, s88, e88⟩ := hnew 88 (by kernel_rfl)
            obtain rfl : x88 = (.bool Q) := e88
            obtain ⟨x91, s91, e91⟩ := hnew 91 (by kernel_rfl)
            obtain rfl : x91 = (if Q then undef else .bool true) := e91
            clear hold hnew
            cases Q
            all_goals
              (try simp only [if_true, if_false, Bool.false_eq_true] at s88 s91)
              go_simp
              refine hK _ _ (Below.refl _ _) (fun sq hsq => ?_)
              obtain rfl := Option.some.inj hsq
              exact ⟨(by first | rfl | (simp; done) | (simp [*]; done)), fun h => absurd rfl h⟩
          · intro o aa ww ho hG hold hnew K hK
            obtain rfl := Option.some.inj ho
            have s13 : aa.tmps[13]? = some (.pointer (some ⟨g13, 0, none⟩)) := hold 13 rfl
            obtain ⟨x92, s92, e92⟩ := hnew 92 (by kernel_rfl)
            obtain rfl : x92 = (if Q then undef else .bool true) := e92
            clear hold hnew
            cases Q
            all_goals
              (try simp only [if_true, if_false, Bool.false_eq_true] at s92)
              have c0 := cellk hG yD kB; have c1 := cellk hG yD kC
              go_simp
              refine hK _ _ (Below.refl _ _) (fun sq hsq => ?_)
              obtain rfl := Option.some.inj hsq
              exact ⟨(by first | rfl | (simp; done) | (simp [*]; done)), fun h => absurd rfl h⟩
          · intro o aa ww ho hG hold hnew K hK
            obtain rfl := Option.some.inj ho
            have s10 : aa.tmps[10]? = some (.pointer (some ⟨w1.heap.size + 1, 0, none⟩)) := hold 10 rfl
            obtain ⟨x92, s92, e92⟩ := hnew 92 (by kernel_rfl)
            obtain rfl : x92 = (if Q then undef else .bool true) := e92
            clear hold hnew
            cases Q
            all_goals
              (try simp only [if_true, if_false, Bool.false_eq_true] at s92)
              have c0 := cellk hG z1 k2; have c1 := cellk hG z1 k3
              go_simp
              refine hK _ _ (Below.refl _ _) (fun sq hsq => ?_)
              obtain rfl := Option.some.inj hsq
              exact ⟨(by first | rfl | (simp; done) | (simp [*]; done)), fun h => absurd rfl h⟩
          · intro o aa ww ho hG hold hnew K hK
            obtain rfl := Option.some.inj ho
            obtain ⟨x92, s92, e92⟩ := hnew 92 (by kernel_rfl)
            obtain rfl : x92 = (if Q then undef else .bool true) := e92
            obtain ⟨x93, s93, e93⟩ := hnew 93 (by kernel_rfl)
            obtain rfl : x93 = (if Q then undef else .agg #[.int .u64 c, .int .u64 d]) := e93
            obtain ⟨x94, s94, e94⟩ := hnew 94 (by kernel_rfl)
            obtain rfl : x94 = (if Q then undef else .agg #[.int .u64 1, .int .u64 0]) := e94
            clear hold hnew
            cases Q
            all_goals
              (try simp only [if_true, if_false, Bool.false_eq_true] at s92 s93 s94)
              (try obtain ⟨-, q1, q2⟩ := HT.out rfl)
              go_simp
              refine hK _ _ (Below.refl _ _) (fun sq hsq => ?_)
              obtain rfl := Option.some.inj hsq
              exact ⟨(by first | rfl | (simp; done) | (simp [*]; done)), fun h => absurd rfl h⟩
          · intro o aa ww ho hG hold hnew K hK
            obtain rfl := Option.some.inj ho
            obtain ⟨x88, s88, e88⟩ := hnew 88 (by kernel_rfl)
            obtain rfl : x88 = (.bool Q) := e88
            obtain ⟨x92, s92, e92⟩ := hnew 92 (by kernel_rfl)
            obtain rfl : x92 = (if Q then undef else .bool true) := e92
            obtain ⟨x95, s95, e95⟩ := hnew 95 (by kernel_rfl)
            obtain rfl : x95 = (if Q then undef else .bool true) := e95
            clear hold hnew
            cases Q
            all_goals
              (try simp only [if_true, if_false, Bool.false_eq_true] at s88 s92 s95)
              go_simp
              refine hK _ _ (Below.refl _ _) (fun sq hsq => ?_)
              obtain rfl := Option.some.inj hsq
              exact ⟨(by first | rfl | (simp; done) | (simp [*]; done)), fun h => absurd rfl h⟩
          · intro o aa ww ho hG hold hnew K hK
            obtain rfl := Option.some.inj ho
            obtain ⟨x83, s83, e83⟩ := hnew 83 (by kernel_rfl)
            obtain rfl : x83 = (.bool true) := e83
            obtain ⟨x88, s88, e88⟩ := hnew 88 (by kernel_rfl)
            obtain rfl : x88 = (.bool Q) := e88
            obtain ⟨x96, s96, e96⟩ := hnew 96 (by kernel_rfl)
            obtain rfl : x96 = (if Q then undef else .bool true) := e96
            clear hold hnew
            cases Q
            all_goals
              (try simp only [if_true, if_false, Bool.false_eq_true] at s83 s88 s96)
              go_simp
              refine hK _ _ (Below.refl _ _) (fun sq hsq => ?_)
              obtain rfl := Option.some.inj hsq
              exact ⟨(by first | rfl | (simp; done) | (simp [*]; done)), fun h => absurd rfl h⟩
          · intro o aa ww ho hG hold hnew K hK
            obtain rfl := Option.some.inj ho
            obtain ⟨x83, s83, e83⟩ := hnew 83 (by kernel_rfl)
            obtain rfl : x83 = (.bool true) := e83
            obtain ⟨x97, s97, e97⟩ := hnew 97 (by kernel_rfl)
            obtain rfl : x97 = (.bool true) := e97
            clear hold hnew
            go_simp
            refine hK _ _ (Below.refl _ _) (fun sq hsq => ?_)
            obtain rfl := Option.some.inj hsq
            exact ⟨(show (_ : Value) = (.bool true) from (by first | rfl | (simp [*]; done))), fun h => absurd rfl h⟩
          · intro U ww hbr hU hI
            have u43 : U 43 = (.agg #[.int .u64 l, .int .u64 h]) := hU 43 rfl
            have u44 : U 44 = (.bool true) := hU 44 rfl
            have u45 : U 45 = (.bool true) := hU 45 rfl
            have u46 : U 46 = (.agg #[.int .u64 l, .int .u64 h]) := hU 46 rfl
            have u47 : U 47 = (.int .u64 t) := hU 47 rfl
            have u48 : U 48 = (.bool false) := hU 48 rfl
            have u49 : U 49 = (.bool true) := hU 49 rfl
            have u50 : U 50 = (.bool true) := hU 50 rfl
            have u51 : U 51 = (.bool true) := hU 51 rfl
            have u52 : U 52 = (.agg #[.int .u64 l, .int .u64 h]) := hU 52 rfl
            have u53 : U 53 = (.agg #[.int .u64 l1, .int .u64 m1, .int .u8 n1]) := hU 53 rfl
            have u54 : U 54 = (.agg #[.int .u64 a, .int .u64 b]) := hU 54 rfl
            have u55 : U 55 = (.agg #[.int .u64 1, .int .u64 0]) := hU 55 rfl
            have u56 : U 56 = (.agg #[.int .u64 1, .int .u64 0]) := hU 56 rfl
            have u57 : U 57 = (.bool true) := hU 57 rfl
            have u58 : U 58 = (.bool true) := hU 58 rfl
            have u59 : U 59 = (.bool true) := hU 59 rfl
            have u60 : U 60 = (.agg #[.int .u64 l, .int .u64 h]) := hU 60 rfl
            have u61 : U 61 = (.int .u64 t) := hU 61 rfl
            have u62 : U 62 = (.agg #[.int .u64 1, .int .u64 0]) := hU 62 rfl
            have u63 : U 63 = (.agg #[.int .u64 1, .int .u64 0]) := hU 63 rfl
            have u64 : U 64 = (.bool true) := hU 64 rfl
            have u65 : U 65 = (.bool true) := hU 65 rfl
            have u66 : U 66 = (.bool true) := hU 66 rfl
            have u67 : U 67 = (.agg #[.int .u64 l, .int .u64 h]) := hU 67 rfl
            have u68 : U 68 = (.int .u64 t) := hU 68 rfl
            have u69 : U 69 = (.agg #[.int .u64 1, .int .u64 0]) := hU 69 rfl
            have u70 : U 70 = (.agg #[.int .u64 1, .int .u64 0]) := hU 70 rfl
            have u71 : U 71 = (.bool true) := hU 71 rfl
            have u72 : U 72 = (.bool true) := hU 72 rfl
            have u73 : U 73 = (.bool true) := hU 73 rfl
            have u74 : U 74 = (.agg #[.int .u64 1, .int .u64 0]) := hU 74 rfl
            have u75 : U 75 = (.agg #[.int .u64 1, .int .u64 0]) := hU 75 rfl
            have u76 : U 76 = (.bool true) := hU 76 rfl
            have u77 : U 77 = (.bool true) := hU 77 rfl
            have u78 : U 78 = (.bool true) := hU 78 rfl
            have u79 : U 79 = (.agg #[.int .u64 1, .int .u64 0]) := hU 79 rfl
            have u80 : U 80 = (.agg #[.int .u64 1, .int .u64 0]) := hU 80 rfl
            have u81 : U 81 = (.bool true) := hU 81 rfl
            have u82 : U 82 = (.bool true) := hU 82 rfl
            have u83 : U 83 = (.bool true) := hU 83 rfl
            have u84 : U 84 = (.agg #[.int .u64 c, .int .u64 d]) := hU 84 rfl
            have u85 : U 85 = (.agg #[.int .u64 l1, .int .u64 m1, .int .u8 n1]) := hU 85 rfl
            have u86 : U 86 = (.agg #[.int .u64 a, .int .u64 b]) := hU 86 rfl
            have u87 : U 87 = (.bool Q) := hU 87 rfl
            have u88 : U 88 = (.bool Q) := hU 88 rfl
            have u89 : U 89 = (if Q then undef else .agg #[.int .u64 l1, .int .u64 m1, .int .u8 n1]) := hU 89 rfl
            have u90 : U 90 = (if Q then undef else .agg #[.int .u64 a, .int .u64 b]) := hU 90 rfl
            have u91 : U 91 = (if Q then undef else .bool true) := hU 91 rfl
            have u92 : U 92 = (if Q then undef else .bool true) := hU 92 rfl
            have u93 : U 93 = (if Q then undef else .agg #[.int .u64 c, .int .u64 d]) := hU 93 rfl
            have u94 : U 94 = (if Q then undef else .agg #[.int .u64 1, .int .u64 0]) := hU 94 rfl
            have u95 : U 95 = (if Q then undef else .bool true) := hU 95 rfl
            have u96 : U 96 = (if Q then undef else .bool true) := hU 96 rfl
            have u97 : U 97 = (.bool true) := hU 97 rfl
            have u98 : U 98 = (.bool true) := hU 98 rfl
            clear hU hI
            simp only [setAll, dsts, List.take_succ_cons, List.take_zero, List.filterMap_cons, List.filterMap_nil, List.drop_succ_cons, List.drop_zero, List.setIfInBounds_toArray, List.set_cons_succ, List.set_cons_zero, u43, u44, u45, u46, u47, u48, u49, u50, u51, u52, u53, u54, u55, u56, u57, u58, u59, u60, u61, u62, u63, u64, u65, u66, u67, u68, u69, u70, u71, u72, u73, u74, u75, u76, u77, u78, u79, u80, u81, u82, u83, u84, u85, u86, u87, u88, u89, u90, u91, u92, u93, u94, u95, u96, u97, u98]
            clear u43 u44 u45 u46 u47 u48 u49 u50 u51 u52 u53 u54 u55 u56 u57 u58 u59 u60 u61 u62 u63 u64 u65 u66 u67 u68 u69 u70 u71 u72 u73 u74 u75 u76 u77 u78 u79 u80 u81 u82 u83 u84 u85 u86 u87 u88 u89 u90 u91 u92 u93 u94 u95 u96 u97 u98
            go_wp2_with (fail)
            all_goals go_ret
            all_goals exact ⟨by simp, hBz.trans (hbr.mono hBz.size)⟩
end Go.Proofs.YtendjifhdpeebaaDoor
