/- PowerNests: the call answers true and leaves what was there as it was. Condition: the package's variable 'none' holds what its text lays. -/
import Derived.Test.YtccmalpbejednaaDoorLawNests
namespace Go.Proofs.YtccmalpbejednaaDoor
open Go Go.Proofs Go.RowKit

theorem newCell {w : World} {t : TypeId} {v : Value} {B : Nat} (hB : w.heap.size = B) : (w.alloc (.cells #[v] t)).cell? ⟨B, 0, none⟩ = some v := by
  subst hB
  simp
theorem newFrz {w : World} {t : TypeId} {v : Value} {B : Nat} (hB : w.heap.size = B) : (w.alloc (.cells #[v] t)).frozen? ⟨B, 0, none⟩ = false := by
  subst hB
  simp
theorem wrap_small (z : Int) (h1 : -9223372036854775808 ≤ z) (h2 : z < 9223372036854775808) : IntKind.i64.wrap z = z := by
  simp [IntKind.wrap, IntKind.bits, IntKind.signed]
  omega
set_option maxHeartbeats 2000000 in
theorem runNest (CA V I H CB P a b : Nat) (l : Int) (v1 v2 : Bool) (z1 z2 : Int) (W : World) (ha : a < 256) (hb : b < 256) (hv1 : fitB l 0 a = v1) (hz1 : useF l 0 a = z1) (hv2 : fitB l z1 b = v2) (hz2 : useF l z1 b = z2) (h0 : 0 ≤ z1) (h9 : z1 < 1000) (hl : 0 ≤ l) (hzl : z1 ≤ l)
    (hca : W.cell? ⟨CA, 0, none⟩ = some (.int .u8 a)) (hv : W.cell? ⟨V, 0, none⟩ = some (.pointer (some ⟨P, 0, none⟩))) (hi : W.cell? ⟨I, 0, none⟩ = some (.bool true)) (hiz : W.frozen? ⟨I, 0, none⟩ = false) (hh : W.cell? ⟨H, 0, none⟩ = some (.bool false)) (hhz : W.frozen? ⟨H, 0, none⟩ = false)
    (hcb : W.cell? ⟨CB, 0, none⟩ = some (.int .u8 b)) (hp : PowAt W P l 0) (d1 : V ≠ P) (d2 : V ≠ I) (d3 : V ≠ H) (d4 : CB ≠ P) (d5 : CB ≠ I) (d6 : CB ≠ H) (d7 : I ≠ P) (d8 : H ≠ P) (d9 : I ≠ H) :
    Calls Tryd.prog 24 #[.func (.func 29) #[] #[.pointer (some ⟨CA, 0, none⟩), .pointer (some ⟨V, 0, none⟩), .pointer (some ⟨I, 0, none⟩), .pointer (some ⟨H, 0, none⟩), .pointer (some ⟨CB, 0, none⟩)]] W fun e w' =>
      e = .returned (.bool v2) ∧ PowAt w' P l z2 ∧ w'.cell? ⟨I, 0, none⟩ = some (.bool v1) ∧ w'.cell? ⟨H, 0, none⟩ = some (.bool true) ∧ OnlyS W.heap.size [P, I, H] W w' := by
  have eg : ∀ args w, (callFunc 29 args).run Tryd.prog w = .ok (.enter 29 args) w := enters_of Tryd.func29 (by kernel_rfl) rfl
  have lI : I < W.heap.size := World.block_lt_of_cell? _ _ hi
  have lH : H < W.heap.size := World.block_lt_of_cell? _ _ hh
  have lP := hp.lt
  have hf := clo29 CA V I H CB P a b l v1 v2 z1 z2 (W.alloc (.cells #[.bool false] 4)) ha hb hv1 hz1 hv2 hz2 h0 h9 hl hzl (calloc hca _) (calloc hv _) (calloc hi _) (falloc lI hiz _) (calloc hh _) (falloc lH hhz _) (calloc hcb _) (hp.alloc _) d1 d2 d3 d4 d5 d6 d7 d8 d9
  have hc0 : (W.alloc (.cells #[.bool false] 4)).cell? ⟨W.heap.size, 0, none⟩ = some (.bool false) := by simp
  have hz0 : (W.alloc (.cells #[.bool false] 4)).frozen? ⟨W.heap.size, 0, none⟩ = false := by simp
  have hA : OnlyS W.heap.size [P, I, H] W (W.alloc (.cells #[.bool false] 4)) := (OnlyS.refl _ _ _).alloc (Nat.le_refl _) _
  have hn : W.heap.size ∉ [P, I, H] := by simp; omega
  cases v2
  · have h := run_off 29 #[] #[.pointer (some ⟨CA, 0, none⟩), .pointer (some ⟨V, 0, none⟩), .pointer (some ⟨I, 0, none⟩), .pointer (some ⟨H, 0, none⟩), .pointer (some ⟨CB, 0, none⟩)] W (fun w2 => PowAt w2 P l z2 ∧ w2.cell? ⟨I, 0, none⟩ = some (.bool v1) ∧ w2.cell? ⟨H, 0, none⟩ = some (.bool true) ∧ OnlyS (W.heap.size + 1) [P, I, H] (W.alloc (.cells #[.bool false] 4)) w2) eg (hf.mono fun e w2 h => by
      obtain ⟨rfl, h5, h6, h7, h8⟩ := h
      simp only [World.size_alloc] at h8
      exact ⟨rfl, h8.cell (p := ⟨W.heap.size, 0, none⟩) (by simp) hn hc0, h8.frz (p := ⟨W.heap.size, 0, none⟩) (by simp) hn hz0, h5, h6, h7, h8⟩)
    refine h.mono ?_
    rintro e w' ⟨rfl, w2, ⟨h5, h6, h7, h8⟩, rfl⟩
    have hs : W.heap.size < w2.heap.size := by have := h8.size; simp at this; omega
    have hb : Below W.heap.size w2 ((w2.setCell ⟨W.heap.size, 0, none⟩ (.bool false)).alloc (.cells #[] 70)) := ((Below.refl _ w2).setCell (p := ⟨W.heap.size, 0, none⟩) (Nat.le_refl _) _).alloc (by simp; omega) _
    exact ⟨rfl, h5.below hb lP, cellk hb (p := ⟨I, 0, none⟩) lI h6, cellk hb (p := ⟨H, 0, none⟩) lH h7, ((hA.trans (h8.mono (by omega))).setCell (p := ⟨W.heap.size, 0, none⟩) _ (.inl (Nat.le_refl _))).alloc (by simp; omega) _⟩
  · have h := run_on 29 #[] #[.pointer (some ⟨CA, 0, none⟩), .pointer (some ⟨V, 0, none⟩), .pointer (some ⟨I, 0, none⟩), .pointer (some ⟨H, 0, none⟩), .pointer (some ⟨CB, 0, none⟩)] W (fun w2 => PowAt w2 P l z2 ∧ w2.cell? ⟨I, 0, none⟩ = some (.bool v1) ∧ w2.cell? ⟨H, 0, none⟩ = some (.bool true) ∧ OnlyS (W.heap.size + 1) [P, I, H] (W.alloc (.cells #[.bool false] 4)) w2) eg (hf.mono fun e w2 h => by
      obtain ⟨rfl, h5, h6, h7, h8⟩ := h
      simp only [World.size_alloc] at h8
      exact ⟨rfl, h8.cell (p := ⟨W.heap.size, 0, none⟩) (by simp) hn hc0, h8.frz (p := ⟨W.heap.size, 0, none⟩) (by simp) hn hz0, h5, h6, h7, h8⟩)
    refine h.mono ?_
    rintro e w' ⟨rfl, w2, ⟨h5, h6, h7, h8⟩, rfl⟩
    have hb : Below W.heap.size w2 (w2.setCell ⟨W.heap.size, 0, none⟩ (.bool true)) := (Below.refl _ w2).setCell (p := ⟨W.heap.size, 0, none⟩) (Nat.le_refl _) _
    exact ⟨rfl, h5.below hb lP, cellk hb (p := ⟨I, 0, none⟩) lI h6, cellk hb (p := ⟨H, 0, none⟩) lH h7, (hA.trans (h8.mono (by omega))).setCell (p := ⟨W.heap.size, 0, none⟩) _ (.inl (Nat.le_refl _))⟩
set_option maxHeartbeats 4000000 in
theorem powerNestsA (l a b : Nat) (w : World) (hn : NoneLaid w) (hl : l < 256) (ha : a < 256) (hb : b < 256) (hL1 : a ≤ l) (hL2 : a + b ≤ l) :
    Calls Tryd.prog 5 #[.int .u8 l, .int .u8 a, .int .u8 b] w fun e w' => e = .returned (.bool true) ∧ Below w.heap.size w w' := by
  have V1 := Lib.hid (show fitB l 0 a = true from decide_eq_true (by omega))
  have Z1 := Lib.hid (show useF l 0 a = (a : Int) by unfold useF; rw [V1.out]; simp)
  have V2 := Lib.hid (show fitB l (a : Int) b = true from decide_eq_true (by omega))
  have Z2 := Lib.hid (show useF l (a : Int) b = ((a : Int) + b) by unfold useF; rw [V2.out]; simp)
  have q1 : min (a : Int) l = a := Int.min_eq_left (by omega)
  have q2 : min ((a : Int) + b) l = a + b := Int.min_eq_left (by omega)
  have q3 : (a : Int) + b ≤ l := by omega
  go_enter Tryd.func5, Tryd.ntmps5
  go_wp2_with (first
    | (go_at_call 22; refine (awake3_any _ (hn.next (by repeat (first | exact Below.refl _ _ | assumption | refine Below.drew ?_ | refine Below.setCell ?_ (by first | (simp; done) | omega | (simp; omega)) _ | refine Below.alloc ?_ (by first | (simp; done) | omega | (simp; omega)) _ | refine bdrewN ?_ _ | refine bstep ?_ (by assumption) (by first | (simp; done) | omega | (simp; omega)))))).mono ?_; rintro e w1 ⟨rfl, hb1⟩; have hz1 := hb1.size; simp at hz1; have hx1 : w1.cell? ⟨w.heap.size, 0, none⟩ = some (.int .u8 a) := cellk hb1 (by simp; omega) (by go_simp); have hy1 : w1.cell? ⟨w.heap.size + 1, 0, none⟩ = some (.int .u8 b) := cellk hb1 (by simp) (by first | (simp; done) | (simp; omega)); have hb1' : Below w.heap.size w w1 := (by repeat (first | exact Below.refl _ _ | assumption | refine Below.drew ?_ | refine Below.setCell ?_ (by first | (simp; done) | omega | (simp; omega)) _ | refine Below.alloc ?_ (by first | (simp; done) | omega | (simp; omega)) _ | refine bdrewN ?_ _ | refine bstep ?_ (by assumption) (by first | (simp; done) | omega | (simp; omega)))))
    | (go_at_call 23; refine (new_any _ _).mono ?_; rintro e w2 ⟨rfl, rfl⟩)
    | (go_at_call 24; refine (runNest w.heap.size (w1.heap.size + 1) (w1.heap.size + 1 + 1) (w1.heap.size + 1 + 1 + 1) (w.heap.size + 1) w1.heap.size a b l _ _ _ _ _ ha hb V1.out Z1.out V2.out Z2.out (by omega) (by omega) (by omega) (by omega) (calloc (calloc (calloc (calloc hx1 _) _) _) _) (calloc (calloc (newCell (by simp)) _) _) (calloc (newCell (by simp)) _) (falloc (by simp) (newFrz (by simp)) _) (newCell (by simp)) (newFrz (by simp)) (calloc (calloc (calloc (calloc hy1 _) _) _) _) ((((powNew l w1).alloc _).alloc _).alloc _) (by omega) (by omega) (by omega) (by omega) (by omega) (by omega) (by omega) (by omega) (by omega)).mono ?_; rintro e w3 ⟨rfl, hp3, hi3, hh3, ho3⟩; have HA := Lib.hid hp3; clear hp3; have hz3 := ho3.size; (try simp at hz3); have hx3 := ho3.cell (p := ⟨w.heap.size, 0, none⟩) (by first | (simp; done) | (simp; omega) | omega) (by simp; omega) (calloc (calloc (calloc (calloc hx1 _) _) _) _); have hy3 := ho3.cell (p := ⟨w.heap.size + 1, 0, none⟩) (by first | (simp; done) | (simp; omega) | omega) (by simp; omega) (calloc (calloc (calloc (calloc hy1 _) _) _) _); have hv3 : w3.cell? ⟨w1.heap.size + 1, 0, none⟩ = some (.pointer (some ⟨w1.heap.size, 0, none⟩)) := ho3.cell (p := ⟨w1.heap.size + 1, 0, none⟩) (by first | (simp; done) | (simp; omega) | omega) (by simp) (calloc (calloc (newCell (by simp)) _) _)))
  have g1 := HA.out.h1
  have w0 := wrap_small 0 (by omega) (by omega)
  have wa := wrap_small (a : Int) (by omega) (by omega)
  have wb := wrap_small (b : Int) (by omega) (by omega)
  have wl := wrap_small (l : Int) (by omega) (by omega)
  have wz := wrap_small ((a : Int) + b) (by omega) (by omega)
  have lH : w1.heap.size + 1 + 1 + 1 < w3.heap.size := by omega
  have lI : w1.heap.size + 1 + 1 < w3.heap.size := by omega
  have lV : w1.heap.size + 1 < w3.heap.size := by omega
  have lP : w1.heap.size < w3.heap.size := by omega
  have lA : w.heap.size < w3.heap.size := by omega
  have lB : w.heap.size + 1 < w3.heap.size := by omega
  refine wp_region_steps 32 (fun sq => match sq with | 26 => .bool true | 27 => .bool true | 28 => .bool true | 29 => .int .i64 (a : Int) | 30 => .int .u8 a | 31 => .int .i64 a | 32 => .bool true | 33 => .bool true | 34 => .bool true | 35 => .bool true | 36 => .bool true | 37 => .int .i64 (a : Int) | 38 => .int .u8 b | 39 => .int .i64 b | 40 => .int .i64 ((a : Int) + b) | 41 => .int .u8 l | 42 => .int .i64 l | 43 => .bool true | 44 => .bool true | 45 => .bool true | 46 => .bool true | 47 => .pointer (some ⟨w1.heap.size, 0, none⟩) | 48 => .int .i64 ((a : Int) + b) | 49 => .int .i64 (a : Int) | 50 => .int .u8 b | 51 => .int .i64 b | 52 => .int .i64 ((a : Int) + b) | 53 => .int .u8 l | 54 => .int .i64 l | 55 => .int .i64 ((a : Int) + b) | 56 => .bool true | 57 => .bool true | _ => undef) (fun sq => match sq with  | _ => none) (by kernel_rfl) (by kernel_rfl) (by kernel_rfl) (by kernel_rfl) rfl (steps_succ (steps_succ (steps_succ (steps_succ (steps_succ (steps_succ (steps_succ (steps_succ (steps_succ (steps_succ (steps_succ (steps_succ (steps_succ (steps_succ (steps_succ (steps_succ (steps_succ (steps_succ (steps_succ (steps_succ (steps_succ (steps_succ (steps_succ (steps_succ (steps_succ (steps_succ (steps_succ (steps_succ (steps_succ (steps_succ (steps_succ (steps_succ steps_zero ?_) ?_) ?_) ?_) ?_) ?_) ?_) ?_) ?_) ?_) ?_) ?_) ?_) ?_) ?_) ?_) ?_) ?_) ?_) ?_) ?_) ?_) ?_) ?_) ?_) ?_) ?_) ?_) ?_) ?_) ?_) ?_) ?_
  · intro o aa ww ho hG hold hnew K hK
    obtain rfl := Option.some.inj ho
    have s10 : aa.tmps[10]? = some (.pointer (some ⟨w1.heap.size + 1 + 1 + 1, 0, none⟩)) := hold 10 rfl
    clear hold hnew
    have c0 := cellk hG lH hh3
    go_simp
    refine hK _ _ (Below.refl _ _) (fun sq hsq => ?_)
    obtain rfl := Option.some.inj hsq
    exact ⟨(show (_ : Value) = (.bool true) from (by first | rfl | (simp [*]; done))), fun h => absurd rfl h⟩
  · intro o aa ww ho hG hold hnew K hK
    obtain rfl := Option.some.inj ho
    obtain ⟨x26, s26, e26⟩ := hnew 26 (by kernel_rfl)
    obtain rfl : x26 = (.bool true) := e26
    clear hold hnew
    go_simp
    refine hK _ _ (Below.refl _ _) (fun sq hsq => ?_)
    obtain rfl := Option.some.inj hsq
    exact ⟨(show (_ : Value) = (.bool true) from (by first | rfl | (simp [*]; done))), fun h => absurd rfl h⟩
  · intro o aa ww ho hG hold hnew K hK
    obtain rfl := Option.some.inj ho
    have s8 : aa.tmps[8]? = some (.pointer (some ⟨w1.heap.size + 1 + 1, 0, none⟩)) := hold 8 rfl
    obtain ⟨x27, s27, e27⟩ := hnew 27 (by kernel_rfl)
    obtain rfl : x27 = (.bool true) := e27
    clear hold hnew
    have c0 := cellk hG lI hi3
    go_simp
    refine hK _ _ (Below.refl _ _) (fun sq hsq => ?_)
    obtain rfl := Option.some.inj hsq
    exact ⟨(show (_ : Value) = (.bool true) from (by first | rfl | (simp [*]; done))), fun h => absurd rfl h⟩
  · intro o aa ww ho hG hold hnew K hK
    obtain rfl := Option.some.inj ho
    have s11 : aa.tmps[11]? = some (.int .i64 (a : Int)) := hold 11 rfl
    obtain ⟨x27, s27, e27⟩ := hnew 27 (by kernel_rfl)
    obtain rfl : x27 = (.bool true) := e27
    clear hold hnew
    go_simp
    refine hK _ _ (Below.refl _ _) (fun sq hsq => ?_)
    obtain rfl := Option.some.inj hsq
    exact ⟨(show (_ : Value) = (.int .i64 (a : Int)) from (by first | rfl | (simp [*]; done))), fun h => absurd rfl h⟩
  · intro o aa ww ho hG hold hnew K hK
    obtain rfl := Option.some.inj ho
    have s4 : aa.tmps[4]? = some (.pointer (some ⟨w.heap.size, 0, none⟩)) := hold 4 rfl
    obtain ⟨x27, s27, e27⟩ := hnew 27 (by kernel_rfl)
    obtain rfl : x27 = (.bool true) := e27
    clear hold hnew
    have c0 := cellk hG lA hx3
    go_simp
    refine hK _ _ (Below.refl _ _) (fun sq hsq => ?_)
    obtain rfl := Option.some.inj hsq
    exact ⟨(show (_ : Value) = (.int .u8 a) from (by first | rfl | (simp [*]; done))), fun h => absurd rfl h⟩
  · intro o aa ww ho hG hold hnew K hK
    obtain rfl := Option.some.inj ho
    obtain ⟨x27, s27, e27⟩ := hnew 27 (by kernel_rfl)
    obtain rfl : x27 = (.bool true) := e27
    obtain ⟨x30, s30, e30⟩ := hnew 30 (by kernel_rfl)
    obtain rfl : x30 = (.int .u8 a) := e30
    clear hold hnew
    go_simp
    refine hK _ _ (Below.refl _ _) (fun sq hsq => ?_)
    obtain rfl := Option.some.inj hsq
    exact ⟨(show (_ : Value) = (.int .i64 a) from (by first | rfl | (simp [*]; done))), fun h => absurd rfl h⟩
  · intro o aa ww ho hG hold hnew K hK
    obtain rfl := Option.some.inj ho
    obtain ⟨x27, s27, e27⟩ := hnew 27 (by kernel_rfl)
    obtain rfl : x27 = (.bool true) := e27
    obtain ⟨x29, s29, e29⟩ := hnew 29 (by kernel_rfl)
    obtain rfl : x29 = (.int .i64 (a : Int)) := e29
    obtain ⟨x31, s31, e31⟩ := hnew 31 (by kernel_rfl)
    obtain rfl : x31 = (.int .i64 a) := e31
    clear hold hnew
    go_simp
    refine hK _ _ (Below.refl _ _) (fun sq hsq => ?_)
    obtain rfl := Option.some.inj hsq
    exact ⟨(show (_ : Value) = (.bool true) from (by first | rfl | (simp [*]; done))), fun h => absurd rfl h⟩
  · intro o aa ww ho hG hold hnew K hK
    obtain rfl := Option.some.inj ho
    obtain ⟨x27, s27, e27⟩ := hnew 27 (by kernel_rfl)
    obtain rfl : x27 = (.bool true) := e27
    obtain ⟨x28, s28, e28⟩ := hnew 28 (by kernel_rfl)
    obtain rfl : x28 = (.bool true) := e28
    obtain ⟨x32, s32, e32⟩ := hnew 32 (by kernel_rfl)
    obtain rfl : x32 = (.bool true) := e32
    clear hold hnew
    go_simp
    refine hK _ _ (Below.refl _ _) (fun sq hsq => ?_)
    obtain rfl := Option.some.inj hsq
    exact ⟨(show (_ : Value) = (.bool true) from (by first | rfl | (simp [*]; done))), fun h => absurd rfl h⟩
  · intro o aa ww ho hG hold hnew K hK
    obtain rfl := Option.some.inj ho
    obtain ⟨x27, s27, e27⟩ := hnew 27 (by kernel_rfl)
    obtain rfl : x27 = (.bool true) := e27
    obtain ⟨x33, s33, e33⟩ := hnew 33 (by kernel_rfl)
    obtain rfl : x33 = (.bool true) := e33
    clear hold hnew
    go_simp
    refine hK _ _ (Below.refl _ _) (fun sq hsq => ?_)
    obtain rfl := Option.some.inj hsq
    exact ⟨(show (_ : Value) = (.bool true) from (by first | rfl | (simp [*]; done))), fun h => absurd rfl h⟩
  · intro o aa ww ho hG hold hnew K hK
    obtain rfl := Option.some.inj ho
    obtain ⟨x34, s34, e34⟩ := hnew 34 (by kernel_rfl)
    obtain rfl : x34 = (.bool true) := e34
    clear hold hnew
    go_simp
    refine hK _ _ (Below.refl _ _) (fun sq hsq => ?_)
    obtain rfl := Option.some.inj hsq
    exact ⟨(show (_ : Value) = (.bool true) from (by first | rfl | (simp [*]; done))), fun h => absurd rfl h⟩
  · intro o aa ww ho hG hold hnew K hK
    obtain rfl := Option.some.inj ho
    have s9 : aa.tmps[9]? = some (.bool true) := hold 9 rfl
    obtain ⟨x35, s35, e35⟩ := hnew 35 (by kernel_rfl)
    obtain rfl : x35 = (.bool true) := e35
    clear hold hnew
    go_simp
    refine hK _ _ (Below.refl _ _) (fun sq hsq => ?_)
    obtain rfl := Option.some.inj hsq
    exact ⟨(show (_ : Value) = (.bool true) from (by first | rfl | (simp [*]; done))), fun h => absurd rfl h⟩
  · intro o aa ww ho hG hold hnew K hK
    obtain rfl := Option.some.inj ho
    have s11 : aa.tmps[11]? = some (.int .i64 (a : Int)) := hold 11 rfl
    obtain ⟨x35, s35, e35⟩ := hnew 35 (by kernel_rfl)
    obtain rfl : x35 = (.bool true) := e35
    clear hold hnew
    go_simp
    refine hK _ _ (Below.refl _ _) (fun sq hsq => ?_)
    obtain rfl := Option.some.inj hsq
    exact ⟨(show (_ : Value) = (.int .i64 (a : Int)) from (by first | rfl | (simp [*]; done))), fun h => absurd rfl h⟩
  · intro o aa ww ho hG hold hnew K hK
    obtain rfl := Option.some.inj ho
    have s5 : aa.tmps[5]? = some (.pointer (some ⟨w.heap.size + 1, 0, none⟩)) := hold 5 rfl
    obtain ⟨x35, s35, e35⟩ := hnew 35 (by kernel_rfl)
    obtain rfl : x35 = (.bool true) := e35
    clear hold hnew
    have c0 := cellk hG lB hy3
    go_simp
    refine hK _ _ (Below.refl _ _) (fun sq hsq => ?_)
    obtain rfl := Option.some.inj hsq
    exact ⟨(show (_ : Value) = (.int .u8 b) from (by first | rfl | (simp [*]; done))), fun h => absurd rfl h⟩
  · intro o aa ww ho hG hold hnew K hK
    obtain rfl := Option.some.inj ho
    obtain ⟨x35, s35, e35⟩ := hnew 35 (by kernel_rfl)
    obtain rfl : x35 = (.bool true) := e35
    obtain ⟨x38, s38, e38⟩ := hnew 38 (by kernel_rfl)
    obtain rfl : x38 = (.int .u8 b) := e38
    clear hold hnew
    go_simp
    refine hK _ _ (Below.refl _ _) (fun sq hsq => ?_)
    obtain rfl := Option.some.inj hsq
    exact ⟨(show (_ : Value) = (.int .i64 b) from (by first | rfl | (simp [*]; done))), fun h => absurd rfl h⟩
  · intro o aa ww ho hG hold hnew K hK
    obtain rfl := Option.some.inj ho
    obtain ⟨x35, s35, e35⟩ := hnew 35 (by kernel_rfl)
    obtain rfl : x35 = (.bool true) := e35
    obtain ⟨x37, s37, e37⟩ := hnew 37 (by kernel_rfl)
    obtain rfl : x37 = (.int .i64 (a : Int)) := e37
    obtain ⟨x39, s39, e39⟩ := hnew 39 (by kernel_rfl)
    obtain rfl : x39 = (.int .i64 b) := e39
    clear hold hnew
    go_simp
    refine hK _ _ (Below.refl _ _) (fun sq hsq => ?_)
    obtain rfl := Option.some.inj hsq
    exact ⟨(show (_ : Value) = (.int .i64 ((a : Int) + b)) from (by first | rfl | (simp [*]; done))), fun h => absurd rfl h⟩
  · intro o aa ww ho hG hold hnew K hK
    obtain rfl := Option.some.inj ho
    have s0 : aa.tmps[0]? = some (.int .u8 l) := hold 0 rfl
    obtain ⟨x35, s35, e35⟩ := hnew 35 (by kernel_rfl)
    obtain rfl : x35 = (.bool true) := e35
    clear hold hnew
    go_simp
    refine hK _ _ (Below.refl _ _) (fun sq hsq => ?_)
    obtain rfl := Option.some.inj hsq
    exact ⟨(show (_ : Value) = (.int .u8 l) from (by first | rfl | (simp [*]; done))), fun h => absurd rfl h⟩
  · intro o aa ww ho hG hold hnew K hK
    obtain rfl := Option.some.inj ho
    obtain ⟨x35, s35, e35⟩ := hnew 35 (by kernel_rfl)
    obtain rfl : x35 = (.bool true) := e35
    obtain ⟨x41, s41, e41⟩ := hnew 41 (by kernel_rfl)
    obtain rfl : x41 = (.int .u8 l) := e41
    clear hold hnew
    go_simp
    refine hK _ _ (Below.refl _ _) (fun sq hsq => ?_)
    obtain rfl := Option.some.inj hsq
    exact ⟨(show (_ : Value) = (.int .i64 l) from (by first | rfl | (simp [*]; done))), fun h => absurd rfl h⟩
  · intro o aa ww ho hG hold hnew K hK
    obtain rfl := Option.some.inj ho
    obtain ⟨x35, s35, e35⟩ := hnew 35 (by kernel_rfl)
    obtain rfl : x35 = (.bool true) := e35
    obtain ⟨x40, s40, e40⟩ := hnew 40 (by kernel_rfl)
    obtain rfl : x40 = (.int .i64 ((a : Int) + b)) := e40
    obtain ⟨x42, s42, e42⟩ := hnew 42 (by kernel_rfl)
    obtain rfl : x42 = (.int .i64 l) := e42
    clear hold hnew
    go_simp
    refine hK _ _ (Below.refl _ _) (fun sq hsq => ?_)
    obtain rfl := Option.some.inj hsq
    exact ⟨(show (_ : Value) = (.bool true) from (by first | rfl | (simp [*]; done))), fun h => absurd rfl h⟩
  · intro o aa ww ho hG hold hnew K hK
    obtain rfl := Option.some.inj ho
    obtain ⟨x35, s35, e35⟩ := hnew 35 (by kernel_rfl)
    obtain rfl : x35 = (.bool true) := e35
    obtain ⟨x36, s36, e36⟩ := hnew 36 (by kernel_rfl)
    obtain rfl : x36 = (.bool true) := e36
    obtain ⟨x43, s43, e43⟩ := hnew 43 (by kernel_rfl)
    obtain rfl : x43 = (.bool true) := e43
    clear hold hnew
    go_simp
    refine hK _ _ (Below.refl _ _) (fun sq hsq => ?_)
    obtain rfl := Option.some.inj hsq
    exact ⟨(show (_ : Value) = (.bool true) from (by first | rfl | (simp [*]; done))), fun h => absurd rfl h⟩
  · intro o aa ww ho hG hold hnew K hK
    obtain rfl := Option.some.inj ho
    obtain ⟨x35, s35, e35⟩ := hnew 35 (by kernel_rfl)
    obtain rfl : x35 = (.bool true) := e35
    obtain ⟨x44, s44, e44⟩ := hnew 44 (by kernel_rfl)
    obtain rfl : x44 = (.bool true) := e44
    clear hold hnew
    go_simp
    refine hK _ _ (Below.refl _ _) (fun sq hsq => ?_)
    obtain rfl := Option.some.inj hsq
    exact ⟨(show (_ : Value) = (.bool true) from (by first | rfl | (simp [*]; done))), fun h => absurd rfl h⟩
  · intro o aa ww ho hG hold hnew K hK
    obtain rfl := Option.some.inj ho
    obtain ⟨x45, s45, e45⟩ := hnew 45 (by kernel_rfl)
    obtain rfl : x45 = (.bool true) := e45
    clear hold hnew
    go_simp
    refine hK _ _ (Below.refl _ _) (fun sq hsq => ?_)
    obtain rfl := Option.some.inj hsq
    exact ⟨(show (_ : Value) = (.bool true) from (by first | rfl | (simp [*]; done))), fun h => absurd rfl h⟩
  · intro o aa ww ho hG hold hnew K hK
    obtain rfl := Option.some.inj ho
    have s7 : aa.tmps[7]? = some (.pointer (some ⟨w1.heap.size + 1, 0, none⟩)) := hold 7 rfl
    obtain ⟨x46, s46, e46⟩ := hnew 46 (by kernel_rfl)
    obtain rfl : x46 = (.bool true) := e46
    clear hold hnew
    have c0 := cellk hG lV hv3
    go_simp
    refine hK _ _ (Below.refl _ _) (fun sq hsq => ?_)
    obtain rfl := Option.some.inj hsq
    exact ⟨(show (_ : Value) = (.pointer (some ⟨w1.heap.size, 0, none⟩)) from (by first | rfl | (simp [*]; done))), fun h => absurd rfl h⟩
  · intro o aa ww ho hG hold hnew K hK
    obtain rfl := Option.some.inj ho
    obtain ⟨x46, s46, e46⟩ := hnew 46 (by kernel_rfl)
    obtain rfl : x46 = (.bool true) := e46
    obtain ⟨x47, s47, e47⟩ := hnew 47 (by kernel_rfl)
    obtain rfl : x47 = (.pointer (some ⟨w1.heap.size, 0, none⟩)) := e47
    clear hold hnew
    have c0 := cellk hG lP g1
    go_simp
    first | (refine (used_any w1.heap.size ((a : Int) + b) _ c0).mono ?_; rintro e' w4 ⟨rfl, rfl⟩; have hbb := Below.refl w4.heap.size w4; refine hK _ _ hbb (fun sq hsq => ?_)) | refine hK _ _ (Below.refl _ _) (fun sq hsq => ?_)
    obtain rfl := Option.some.inj hsq
    exact ⟨(show (_ : Value) = (.int .i64 ((a : Int) + b)) from (by first | rfl | (simp [*]; done))), fun h => absurd rfl h⟩
  · intro o aa ww ho hG hold hnew K hK
    obtain rfl := Option.some.inj ho
    have s11 : aa.tmps[11]? = some (.int .i64 (a : Int)) := hold 11 rfl
    obtain ⟨x46, s46, e46⟩ := hnew 46 (by kernel_rfl)
    obtain rfl : x46 = (.bool true) := e46
    clear hold hnew
    go_simp
    refine hK _ _ (Below.refl _ _) (fun sq hsq => ?_)
    obtain rfl := Option.some.inj hsq
    exact ⟨(show (_ : Value) = (.int .i64 (a : Int)) from (by first | rfl | (simp [*]; done))), fun h => absurd rfl h⟩
  · intro o aa ww ho hG hold hnew K hK
    obtain rfl := Option.some.inj ho
    have s5 : aa.tmps[5]? = some (.pointer (some ⟨w.heap.size + 1, 0, none⟩)) := hold 5 rfl
    obtain ⟨x46, s46, e46⟩ := hnew 46 (by kernel_rfl)
    obtain rfl : x46 = (.bool true) := e46
    clear hold hnew
    have c0 := cellk hG lB hy3
    go_simp
    refine hK _ _ (Below.refl _ _) (fun sq hsq => ?_)
    obtain rfl := Option.some.inj hsq
    exact ⟨(show (_ : Value) = (.int .u8 b) from (by first | rfl | (simp [*]; done))), fun h => absurd rfl h⟩
  · intro o aa ww ho hG hold hnew K hK
    obtain rfl := Option.some.inj ho
    obtain ⟨x46, s46, e46⟩ := hnew 46 (by kernel_rfl)
    obtain rfl : x46 = (.bool true) := e46
    obtain ⟨x50, s50, e50⟩ := hnew 50 (by kernel_rfl)
    obtain rfl : x50 = (.int .u8 b) := e50
    clear hold hnew
    go_simp
    refine hK _ _ (Below.refl _ _) (fun sq hsq => ?_)
    obtain rfl := Option.some.inj hsq
    exact ⟨(show (_ : Value) = (.int .i64 b) from (by first | rfl | (simp [*]; done))), fun h => absurd rfl h⟩
  · intro o aa ww ho hG hold hnew K hK
    obtain rfl := Option.some.inj ho
    obtain ⟨x46, s46, e46⟩ := hnew 46 (by kernel_rfl)
    obtain rfl : x46 = (.bool true) := e46
    obtain ⟨x49, s49, e49⟩ := hnew 49 (by kernel_rfl)
    obtain rfl : x49 = (.int .i64 (a : Int)) := e49
    obtain ⟨x51, s51, e51⟩ := hnew 51 (by kernel_rfl)
    obtain rfl : x51 = (.int .i64 b) := e51
    clear hold hnew
    go_simp
    refine hK _ _ (Below.refl _ _) (fun sq hsq => ?_)
    obtain rfl := Option.some.inj hsq
    exact ⟨(show (_ : Value) = (.int .i64 ((a : Int) + b)) from (by first | rfl | (simp [*]; done))), fun h => absurd rfl h⟩
  · intro o aa ww ho hG hold hnew K hK
    obtain rfl := Option.some.inj ho
    have s0 : aa.tmps[0]? = some (.int .u8 l) := hold 0 rfl
    obtain ⟨x46, s46, e46⟩ := hnew 46 (by kernel_rfl)
    obtain rfl : x46 = (.bool true) := e46
    clear hold hnew
    go_simp
    refine hK _ _ (Below.refl _ _) (fun sq hsq => ?_)
    obtain rfl := Option.some.inj hsq
    exact ⟨(show (_ : Value) = (.int .u8 l) from (by first | rfl | (simp [*]; done))), fun h => absurd rfl h⟩
  · intro o aa ww ho hG hold hnew K hK
    obtain rfl := Option.some.inj ho
    obtain ⟨x46, s46, e46⟩ := hnew 46 (by kernel_rfl)
    obtain rfl : x46 = (.bool true) := e46
    obtain ⟨x53, s53, e53⟩ := hnew 53 (by kernel_rfl)
    obtain rfl : x53 = (.int .u8 l) := e53
    clear hold hnew
    go_simp
    refine hK _ _ (Below.refl _ _) (fun sq hsq => ?_)
    obtain rfl := Option.some.inj hsq
    exact ⟨(show (_ : Value) = (.int .i64 l) from (by first | rfl | (simp [*]; done))), fun h => absurd rfl h⟩
  · intro o aa ww ho hG hold hnew K hK
    obtain rfl := Option.some.inj ho
    obtain ⟨x46, s46, e46⟩ := hnew 46 (by kernel_rfl)
    obtain rfl : x46 = (.bool true) := e46
    obtain ⟨x52, s52, e52⟩ := hnew 52 (by kernel_rfl)
    obtain rfl : x52 = (.int .i64 ((a : Int) + b)) := e52
    obtain ⟨x54, s54, e54⟩ := hnew 54 (by kernel_rfl)
    obtain rfl : x54 = (.int .i64 l) := e54
    clear hold hnew
    go_simp
    refine hK _ _ (Below.refl _ _) (fun sq hsq => ?_)
    obtain rfl := Option.some.inj hsq
    exact ⟨(show (_ : Value) = (.int .i64 ((a : Int) + b)) from (by first | rfl | (simp [*]; done))), fun h => absurd rfl h⟩
  · intro o aa ww ho hG hold hnew K hK
    obtain rfl := Option.some.inj ho
    obtain ⟨x46, s46, e46⟩ := hnew 46 (by kernel_rfl)
    obtain rfl : x46 = (.bool true) := e46
    obtain ⟨x48, s48, e48⟩ := hnew 48 (by kernel_rfl)
    obtain rfl : x48 = (.int .i64 ((a : Int) + b)) := e48
    obtain ⟨x55, s55, e55⟩ := hnew 55 (by kernel_rfl)
    obtain rfl : x55 = (.int .i64 ((a : Int) + b)) := e55
    clear hold hnew
    go_simp
    refine hK _ _ (Below.refl _ _) (fun sq hsq => ?_)
    obtain rfl := Option.some.inj hsq
    exact ⟨(show (_ : Value) = (.bool true) from (by first | rfl | (simp [*]; done))), fun h => absurd rfl h⟩
  · intro o aa ww ho hG hold hnew K hK
    obtain rfl := Option.some.inj ho
    obtain ⟨x46, s46, e46⟩ := hnew 46 (by kernel_rfl)
    obtain rfl : x46 = (.bool true) := e46
    obtain ⟨x56, s56, e56⟩ := hnew 56 (by kernel_rfl)
    obtain rfl : x56 = (.bool true) := e56
    clear hold hnew
    go_simp
    refine hK _ _ (Below.refl _ _) (fun sq hsq => ?_)
    obtain rfl := Option.some.inj hsq
    exact ⟨(show (_ : Value) = (.bool true) from (by first | rfl | (simp [*]; done))), fun h => absurd rfl h⟩
  · intro U ww hbr hU hI
    have u26 : U 26 = (.bool true) := hU 26 rfl
    have u27 : U 27 = (.bool true) := hU 27 rfl
    have u28 : U 28 = (.bool true) := hU 28 rfl
    have u29 : U 29 = (.int .i64 (a : Int)) := hU 29 rfl
    have u30 : U 30 = (.int .u8 a) := hU 30 rfl
    have u31 : U 31 = (.int .i64 a) := hU 31 rfl
    have u32 : U 32 = (.bool true) := hU 32 rfl
    have u33 : U 33 = (.bool true) := hU 33 rfl
    have u34 : U 34 = (.bool true) := hU 34 rfl
    have u35 : U 35 = (.bool true) := hU 35 rfl
    have u36 : U 36 = (.bool true) := hU 36 rfl
    have u37 : U 37 = (.int .i64 (a : Int)) := hU 37 rfl
    have u38 : U 38 = (.int .u8 b) := hU 38 rfl
    have u39 : U 39 = (.int .i64 b) := hU 39 rfl
    have u40 : U 40 = (.int .i64 ((a : Int) + b)) := hU 40 rfl
    have u41 : U 41 = (.int .u8 l) := hU 41 rfl
    have u42 : U 42 = (.int .i64 l) := hU 42 rfl
    have u43 : U 43 = (.bool true) := hU 43 rfl
    have u44 : U 44 = (.bool true) := hU 44 rfl
    have u45 : U 45 = (.bool true) := hU 45 rfl
    have u46 : U 46 = (.bool true) := hU 46 rfl
    have u47 : U 47 = (.pointer (some ⟨w1.heap.size, 0, none⟩)) := hU 47 rfl
    have u48 : U 48 = (.int .i64 ((a : Int) + b)) := hU 48 rfl
    have u49 : U 49 = (.int .i64 (a : Int)) := hU 49 rfl
    have u50 : U 50 = (.int .u8 b) := hU 50 rfl
    have u51 : U 51 = (.int .i64 b) := hU 51 rfl
    have u52 : U 52 = (.int .i64 ((a : Int) + b)) := hU 52 rfl
    have u53 : U 53 = (.int .u8 l) := hU 53 rfl
    have u54 : U 54 = (.int .i64 l) := hU 54 rfl
    have u55 : U 55 = (.int .i64 ((a : Int) + b)) := hU 55 rfl
    have u56 : U 56 = (.bool true) := hU 56 rfl
    have u57 : U 57 = (.bool true) := hU 57 rfl
    clear hU hI
    simp only [setAll, dsts, List.take_succ_cons, List.take_zero, List.filterMap_cons, List.filterMap_nil, List.drop_succ_cons, List.drop_zero, List.setIfInBounds_toArray, List.set_cons_succ, List.set_cons_zero, u26, u27, u28, u29, u30, u31, u32, u33, u34, u35, u36, u37, u38, u39, u40, u41, u42, u43, u44, u45, u46, u47, u48, u49, u50, u51, u52, u53, u54, u55, u56, u57]
    clear u26 u27 u28 u29 u30 u31 u32 u33 u34 u35 u36 u37 u38 u39 u40 u41 u42 u43 u44 u45 u46 u47 u48 u49 u50 u51 u52 u53 u54 u55 u56 u57
    go_wp2_with (fail)
    go_ret
    refine ⟨by first | (simp; done) | (simp; omega), ?_⟩
    have k1 : Below w1.heap.size w1 _ := (((((Below.refl _ _).alloc (Nat.le_refl _) _).alloc (by simp) _).alloc (by simp; omega) _).alloc (by simp; omega) _).trans ((ho3.mono (by simp; omega)).below (by simp; omega))
    exact hb1'.trans ((k1.trans (hbr.mono (Nat.le_of_lt lP))).mono (by omega))
set_option maxHeartbeats 4000000 in
theorem powerNestsB (l a b : Nat) (w : World) (hn : NoneLaid w) (hl : l < 256) (ha : a < 256) (hb : b < 256) (hL1 : a ≤ l) (hL2 : l < a + b) :
    Calls Tryd.prog 5 #[.int .u8 l, .int .u8 a, .int .u8 b] w fun e w' => e = .returned (.bool true) ∧ Below w.heap.size w w' := by
  have V1 := Lib.hid (show fitB l 0 a = true from decide_eq_true (by omega))
  have Z1 := Lib.hid (show useF l 0 a = (a : Int) by unfold useF; rw [V1.out]; simp)
  have V2 := Lib.hid (show fitB l (a : Int) b = false from decide_eq_false (by omega))
  have Z2 := Lib.hid (show useF l (a : Int) b = (l : Int) by unfold useF; rw [V2.out]; simp)
  have q1 : min (a : Int) l = a := Int.min_eq_left (by omega)
  have q2 : min ((a : Int) + b) l = l := Int.min_eq_right (by omega)
  have q3 : ¬ (a : Int) + b ≤ l := by omega
  go_enter Tryd.func5, Tryd.ntmps5
  go_wp2_with (first
    | (go_at_call 22; refine (awake3_any _ (hn.next (by repeat (first | exact Below.refl _ _ | assumption | refine Below.drew ?_ | refine Below.setCell ?_ (by first | (simp; done) | omega | (simp; omega)) _ | refine Below.alloc ?_ (by first | (simp; done) | omega | (simp; omega)) _ | refine bdrewN ?_ _ | refine bstep ?_ (by assumption) (by first | (simp; done) | omega | (simp; omega)))))).mono ?_; rintro e w1 ⟨rfl, hb1⟩; have hz1 := hb1.size; simp at hz1; have hx1 : w1.cell? ⟨w.heap.size, 0, none⟩ = some (.int .u8 a) := cellk hb1 (by simp; omega) (by go_simp); have hy1 : w1.cell? ⟨w.heap.size + 1, 0, none⟩ = some (.int .u8 b) := cellk hb1 (by simp) (by first | (simp; done) | (simp; omega)); have hb1' : Below w.heap.size w w1 := (by repeat (first | exact Below.refl _ _ | assumption | refine Below.drew ?_ | refine Below.setCell ?_ (by first | (simp; done) | omega | (simp; omega)) _ | refine Below.alloc ?_ (by first | (simp; done) | omega | (simp; omega)) _ | refine bdrewN ?_ _ | refine bstep ?_ (by assumption) (by first | (simp; done) | omega | (simp; omega)))))
    | (go_at_call 23; refine (new_any _ _).mono ?_; rintro e w2 ⟨rfl, rfl⟩)
    | (go_at_call 24; refine (runNest w.heap.size (w1.heap.size + 1) (w1.heap.size + 1 + 1) (w1.heap.size + 1 + 1 + 1) (w.heap.size + 1) w1.heap.size a b l _ _ _ _ _ ha hb V1.out Z1.out V2.out Z2.out (by omega) (by omega) (by omega) (by omega) (calloc (calloc (calloc (calloc hx1 _) _) _) _) (calloc (calloc (newCell (by simp)) _) _) (calloc (newCell (by simp)) _) (falloc (by simp) (newFrz (by simp)) _) (newCell (by simp)) (newFrz (by simp)) (calloc (calloc (calloc (calloc hy1 _) _) _) _) ((((powNew l w1).alloc _).alloc _).alloc _) (by omega) (by omega) (by omega) (by omega) (by omega) (by omega) (by omega) (by omega) (by omega)).mono ?_; rintro e w3 ⟨rfl, hp3, hi3, hh3, ho3⟩; have HA := Lib.hid hp3; clear hp3; have hz3 := ho3.size; (try simp at hz3); have hx3 := ho3.cell (p := ⟨w.heap.size, 0, none⟩) (by first | (simp; done) | (simp; omega) | omega) (by simp; omega) (calloc (calloc (calloc (calloc hx1 _) _) _) _); have hy3 := ho3.cell (p := ⟨w.heap.size + 1, 0, none⟩) (by first | (simp; done) | (simp; omega) | omega) (by simp; omega) (calloc (calloc (calloc (calloc hy1 _) _) _) _); have hv3 : w3.cell? ⟨w1.heap.size + 1, 0, none⟩ = some (.pointer (some ⟨w1.heap.size, 0, none⟩)) := ho3.cell (p := ⟨w1.heap.size + 1, 0, none⟩) (by first | (simp; done) | (simp; omega) | omega) (by simp) (calloc (calloc (newCell (by simp)) _) _)))
  have g1 := HA.out.h1
  have w0 := wrap_small 0 (by omega) (by omega)
  have wa := wrap_small (a : Int) (by omega) (by omega)
  have wb := wrap_small (b : Int) (by omega) (by omega)
  have wl := wrap_small (l : Int) (by omega) (by omega)
  have wz := wrap_small ((a : Int) + b) (by omega) (by omega)
  have lH : w1.heap.size + 1 + 1 + 1 < w3.heap.size := by omega
  have lI : w1.heap.size + 1 + 1 < w3.heap.size := by omega
  have lV : w1.heap.size + 1 < w3.heap.size := by omega
  have lP : w1.heap.size < w3.heap.size := by omega
  have lA : w.heap.size < w3.heap.size := by omega
  have lB : w.heap.size + 1 < w3.heap.size := by omega
  refine wp_region_steps 32 (fun sq => match sq with | 26 => .bool true | 27 => .bool true | 28 => .bool true | 29 => .int .i64 (a : Int) | 30 => .int .u8 a | 31 => .int .i64 a | 32 => .bool true | 33 => .bool true | 34 => .bool true | 35 => .bool true | 36 => .bool false | 37 => .int .i64 (a : Int) | 38 => .int .u8 b | 39 => .int .i64 b | 40 => .int .i64 ((a : Int) + b) | 41 => .int .u8 l | 42 => .int .i64 l | 43 => .bool false | 44 => .bool true | 45 => .bool true | 46 => .bool true | 47 => .pointer (some ⟨w1.heap.size, 0, none⟩) | 48 => .int .i64 (l : Int) | 49 => .int .i64 (a : Int) | 50 => .int .u8 b | 51 => .int .i64 b | 52 => .int .i64 ((a : Int) + b) | 53 => .int .u8 l | 54 => .int .i64 l | 55 => .int .i64 (l : Int) | 56 => .bool true | 57 => .bool true | _ => undef) (fun sq => match sq with  | _ => none) (by kernel_rfl) (by kernel_rfl) (by kernel_rfl) (by kernel_rfl) rfl (steps_succ (steps_succ (steps_succ (steps_succ (steps_succ (steps_succ (steps_succ (steps_succ (steps_succ (steps_succ (steps_succ (steps_succ (steps_succ (steps_succ (steps_succ (steps_succ (steps_succ (steps_succ (steps_succ (steps_succ (steps_succ (steps_succ (steps_succ (steps_succ (steps_succ (steps_succ (steps_succ (steps_succ (steps_succ (steps_succ (steps_succ (steps_succ steps_zero ?_) ?_) ?_) ?_) ?_) ?_) ?_) ?_) ?_) ?_) ?_) ?_) ?_) ?_) ?_) ?_) ?_) ?_) ?_) ?_) ?_) ?_) ?_) ?_) ?_) ?_) ?_) ?_) ?_) ?_) ?_) ?_) ?_
  · intro o aa ww ho hG hold hnew K hK
    obtain rfl := Option.some.inj ho
    have s10 : aa.tmps[10]? = some (.pointer (some ⟨w1.heap.size + 1 + 1 + 1, 0, none⟩)) := hold 10 rfl
    clear hold hnew
    have c0 := cellk hG lH hh3
    go_simp
    refine hK _ _ (Below.refl _ _) (fun sq hsq => ?_)
    obtain rfl := Option.some.inj hsq
    exact ⟨(show (_ : Value) = (.bool true) from (by first | rfl | (simp [*]; done))), fun h => absurd rfl h⟩
  · intro o aa ww ho hG hold hnew K hK
    obtain rfl := Option.some.inj ho
    obtain ⟨x26, s26, e26⟩ := hnew 26 (by kernel_rfl)
    obtain rfl : x26 = (.bool true) := e26
    clear hold hnew
    go_simp
    refine hK _ _ (Below.refl _ _) (fun sq hsq => ?_)
    obtain rfl := Option.some.inj hsq
    exact ⟨(show (_ : Value) = (.bool true) from (by first | rfl | (simp [*]; done))), fun h => absurd rfl h⟩
  · intro o aa ww ho hG hold hnew K hK
    obtain rfl := Option.some.inj ho
    have s8 : aa.tmps[8]? = some (.pointer (some ⟨w1.heap.size + 1 + 1, 0, none⟩)) := hold 8 rfl
    obtain ⟨x27, s27, e27⟩ := hnew 27 (by kernel_rfl)
    obtain rfl : x27 = (.bool true) := e27
    clear hold hnew
    have c0 := cellk hG lI hi3
    go_simp
    refine hK _ _ (Below.refl _ _) (fun sq hsq => ?_)
    obtain rfl := Option.some.inj hsq
    exact ⟨(show (_ : Value) = (.bool true) from (by first | rfl | (simp [*]; done))), fun h => absurd rfl h⟩
  · intro o aa ww ho hG hold hnew K hK
    obtain rfl := Option.some.inj ho
    have s11 : aa.tmps[11]? = some (.int .i64 (a : Int)) := hold 11 rfl
    obtain ⟨x27, s27, e27⟩ := hnew 27 (by kernel_rfl)
    obtain rfl : x27 = (.bool true) := e27
    clear hold hnew
    go_simp
    refine hK _ _ (Below.refl _ _) (fun sq hsq => ?_)
    obtain rfl := Option.some.inj hsq
    exact ⟨(show (_ : Value) = (.int .i64 (a : Int)) from (by first | rfl | (simp [*]; done))), fun h => absurd rfl h⟩
  · intro o aa ww ho hG hold hnew K hK
    obtain rfl := Option.some.inj ho
    have s4 : aa.tmps[4]? = some (.pointer (some ⟨w.heap.size, 0, none⟩)) := hold 4 rfl
    obtain ⟨x27, s27, e27⟩ := hnew 27 (by kernel_rfl)
    obtain rfl : x27 = (.bool true) := e27
    clear hold hnew
    have c0 := cellk hG lA hx3
    go_simp
    refine hK _ _ (Below.refl _ _) (fun sq hsq => ?_)
    obtain rfl := Option.some.inj hsq
    exact ⟨(show (_ : Value) = (.int .u8 a) from (by first | rfl | (simp [*]; done))), fun h => absurd rfl h⟩
  · intro o aa ww ho hG hold hnew K hK
    obtain rfl := Option.some.inj ho
    obtain ⟨x27, s27, e27⟩ := hnew 27 (by kernel_rfl)
    obtain rfl : x27 = (.bool true) := e27
    obtain ⟨x30, s30, e30⟩ := hnew 30 (by kernel_rfl)
    obtain rfl : x30 = (.int .u8 a) := e30
    clear hold hnew
    go_simp
    refine hK _ _ (Below.refl _ _) (fun sq hsq => ?_)
    obtain rfl := Option.some.inj hsq
    exact ⟨(show (_ : Value) = (.int .i64 a) from (by first | rfl | (simp [*]; done))), fun h => absurd rfl h⟩
  · intro o aa ww ho hG hold hnew K hK
    obtain rfl := Option.some.inj ho
    obtain ⟨x27, s27, e27⟩ := hnew 27 (by kernel_rfl)
    obtain rfl : x27 = (.bool true) := e27
    obtain ⟨x29, s29, e29⟩ := hnew 29 (by kernel_rfl)
    obtain rfl : x29 = (.int .i64 (a : Int)) := e29
    obtain ⟨x31, s31, e31⟩ := hnew 31 (by kernel_rfl)
    obtain rfl : x31 = (.int .i64 a) := e31
    clear hold hnew
    go_simp
    refine hK _ _ (Below.refl _ _) (fun sq hsq => ?_)
    obtain rfl := Option.some.inj hsq
    exact ⟨(show (_ : Value) = (.bool true) from (by first | rfl | (simp [*]; done))), fun h => absurd rfl h⟩
  · intro o aa ww ho hG hold hnew K hK
    obtain rfl := Option.some.inj ho
    obtain ⟨x27, s27, e27⟩ := hnew 27 (by kernel_rfl)
    obtain rfl : x27 = (.bool true) := e27
    obtain ⟨x28, s28, e28⟩ := hnew 28 (by kernel_rfl)
    obtain rfl : x28 = (.bool true) := e28
    obtain ⟨x32, s32, e32⟩ := hnew 32 (by kernel_rfl)
    obtain rfl : x32 = (.bool true) := e32
    clear hold hnew
    go_simp
    refine hK _ _ (Below.refl _ _) (fun sq hsq => ?_)
    obtain rfl := Option.some.inj hsq
    exact ⟨(show (_ : Value) = (.bool true) from (by first | rfl | (simp [*]; done))), fun h => absurd rfl h⟩
  · intro o aa ww ho hG hold hnew K hK
    obtain rfl := Option.some.inj ho
    obtain ⟨x27, s27, e27⟩ := hnew 27 (by kernel_rfl)
    obtain rfl : x27 = (.bool true) := e27
    obtain ⟨x33, s33, e33⟩ := hnew 33 (by kernel_rfl)
    obtain rfl : x33 = (.bool true) := e33
    clear hold hnew
    go_simp
    refine hK _ _ (Below.refl _ _) (fun sq hsq => ?_)
    obtain rfl := Option.some.inj hsq
    exact ⟨(show (_ : Value) = (.bool true) from (by first | rfl | (simp [*]; done))), fun h => absurd rfl h⟩
  · intro o aa ww ho hG hold hnew K hK
    obtain rfl := Option.some.inj ho
    obtain ⟨x34, s34, e34⟩ := hnew 34 (by kernel_rfl)
    obtain rfl : x34 = (.bool true) := e34
    clear hold hnew
    go_simp
    refine hK _ _ (Below.refl _ _) (fun sq hsq => ?_)
    obtain rfl := Option.some.inj hsq
    exact ⟨(show (_ : Value) = (.bool true) from (by first | rfl | (simp [*]; done))), fun h => absurd rfl h⟩
  · intro o aa ww ho hG hold hnew K hK
    obtain rfl := Option.some.inj ho
    have s9 : aa.tmps[9]? = some (.bool false) := hold 9 rfl
    obtain ⟨x35, s35, e35⟩ := hnew 35 (by kernel_rfl)
    obtain rfl : x35 = (.bool true) := e35
    clear hold hnew
    go_simp
    refine hK _ _ (Below.refl _ _) (fun sq hsq => ?_)
    obtain rfl := Option.some.inj hsq
    exact ⟨(show (_ : Value) = (.bool false) from (by first | rfl | (simp [*]; done))), fun h => absurd rfl h⟩
  · intro o aa ww ho hG hold hnew K hK
    obtain rfl := Option.some.inj ho
    have s11 : aa.tmps[11]? = some (.int .i64 (a : Int)) := hold 11 rfl
    obtain ⟨x35, s35, e35⟩ := hnew 35 (by kernel_rfl)
    obtain rfl : x35 = (.bool true) := e35
    clear hold hnew
    go_simp
    refine hK _ _ (Below.refl _ _) (fun sq hsq => ?_)
    obtain rfl := Option.some.inj hsq
    exact ⟨(show (_ : Value) = (.int .i64 (a : Int)) from (by first | rfl | (simp [*]; done))), fun h => absurd rfl h⟩
  · intro o aa ww ho hG hold hnew K hK
    obtain rfl := Option.some.inj ho
    have s5 : aa.tmps[5]? = some (.pointer (some ⟨w.heap.size + 1, 0, none⟩)) := hold 5 rfl
    obtain ⟨x35, s35, e35⟩ := hnew 35 (by kernel_rfl)
    obtain rfl : x35 = (.bool true) := e35
    clear hold hnew
    have c0 := cellk hG lB hy3
    go_simp
    refine hK _ _ (Below.refl _ _) (fun sq hsq => ?_)
    obtain rfl := Option.some.inj hsq
    exact ⟨(show (_ : Value) = (.int .u8 b) from (by first | rfl | (simp [*]; done))), fun h => absurd rfl h⟩
  · intro o aa ww ho hG hold hnew K hK
    obtain rfl := Option.some.inj ho
    obtain ⟨x35, s35, e35⟩ := hnew 35 (by kernel_rfl)
    obtain rfl : x35 = (.bool true) := e35
    obtain ⟨x38, s38, e38⟩ := hnew 38 (by kernel_rfl)
    obtain rfl : x38 = (.int .u8 b) := e38
    clear hold hnew
    go_simp
    refine hK _ _ (Below.refl _ _) (fun sq hsq => ?_)
    obtain rfl := Option.some.inj hsq
    exact ⟨(show (_ : Value) = (.int .i64 b) from (by first | rfl | (simp [*]; done))), fun h => absurd rfl h⟩
  · intro o aa ww ho hG hold hnew K hK
    obtain rfl := Option.some.inj ho
    obtain ⟨x35, s35, e35⟩ := hnew 35 (by kernel_rfl)
    obtain rfl : x35 = (.bool true) := e35
    obtain ⟨x37, s37, e37⟩ := hnew 37 (by kernel_rfl)
    obtain rfl : x37 = (.int .i64 (a : Int)) := e37
    obtain ⟨x39, s39, e39⟩ := hnew 39 (by kernel_rfl)
    obtain rfl : x39 = (.int .i64 b) := e39
    clear hold hnew
    go_simp
    refine hK _ _ (Below.refl _ _) (fun sq hsq => ?_)
    obtain rfl := Option.some.inj hsq
    exact ⟨(show (_ : Value) = (.int .i64 ((a : Int) + b)) from (by first | rfl | (simp [*]; done))), fun h => absurd rfl h⟩
  · intro o aa ww ho hG hold hnew K hK
    obtain rfl := Option.some.inj ho
    have s0 : aa.tmps[0]? = some (.int .u8 l) := hold 0 rfl
    obtain ⟨x35, s35, e35⟩ := hnew 35 (by kernel_rfl)
    obtain rfl : x35 = (.bool true) := e35
    clear hold hnew
    go_simp
    refine hK _ _ (Below.refl _ _) (fun sq hsq => ?_)
    obtain rfl := Option.some.inj hsq
    exact ⟨(show (_ : Value) = (.int .u8 l) from (by first | rfl | (simp [*]; done))), fun h => absurd rfl h⟩
  · intro o aa ww ho hG hold hnew K hK
    obtain rfl := Option.some.inj ho
    obtain ⟨x35, s35, e35⟩ := hnew 35 (by kernel_rfl)
    obtain rfl : x35 = (.bool true) := e35
    obtain ⟨x41, s41, e41⟩ := hnew 41 (by kernel_rfl)
    obtain rfl : x41 = (.int .u8 l) := e41
    clear hold hnew
    go_simp
    refine hK _ _ (Below.refl _ _) (fun sq hsq => ?_)
    obtain rfl := Option.some.inj hsq
    exact ⟨(show (_ : Value) = (.int .i64 l) from (by first | rfl | (simp [*]; done))), fun h => absurd rfl h⟩
  · intro o aa ww ho hG hold hnew K hK
    obtain rfl := Option.some.inj ho
    obtain ⟨x35, s35, e35⟩ := hnew 35 (by kernel_rfl)
    obtain rfl : x35 = (.bool true) := e35
    obtain ⟨x40, s40, e40⟩ := hnew 40 (by kernel_rfl)
    obtain rfl : x40 = (.int .i64 ((a : Int) + b)) := e40
    obtain ⟨x42, s42, e42⟩ := hnew 42 (by kernel_rfl)
    obtain rfl : x42 = (.int .i64 l) := e42
    clear hold hnew
    go_simp
    refine hK _ _ (Below.refl _ _) (fun sq hsq => ?_)
    obtain rfl := Option.some.inj hsq
    exact ⟨(show (_ : Value) = (.bool false) from (by first | rfl | (simp [*]; done))), fun h => absurd rfl h⟩
  · intro o aa ww ho hG hold hnew K hK
    obtain rfl := Option.some.inj ho
    obtain ⟨x35, s35, e35⟩ := hnew 35 (by kernel_rfl)
    obtain rfl : x35 = (.bool true) := e35
    obtain ⟨x36, s36, e36⟩ := hnew 36 (by kernel_rfl)
    obtain rfl : x36 = (.bool false) := e36
    obtain ⟨x43, s43, e43⟩ := hnew 43 (by kernel_rfl)
    obtain rfl : x43 = (.bool false) := e43
    clear hold hnew
    go_simp
    refine hK _ _ (Below.refl _ _) (fun sq hsq => ?_)
    obtain rfl := Option.some.inj hsq
    exact ⟨(show (_ : Value) = (.bool true) from (by first | rfl | (simp [*]; done))), fun h => absurd rfl h⟩
  · intro o aa ww ho hG hold hnew K hK
    obtain rfl := Option.some.inj ho
    obtain ⟨x35, s35, e35⟩ := hnew 35 (by kernel_rfl)
    obtain rfl : x35 = (.bool true) := e35
    obtain ⟨x44, s44, e44⟩ := hnew 44 (by kernel_rfl)
    obtain rfl : x44 = (.bool true) := e44
    clear hold hnew
    go_simp
    refine hK _ _ (Below.refl _ _) (fun sq hsq => ?_)
    obtain rfl := Option.some.inj hsq
    exact ⟨(show (_ : Value) = (.bool true) from (by first | rfl | (simp [*]; done))), fun h => absurd rfl h⟩
  · intro o aa ww ho hG hold hnew K hK
    obtain rfl := Option.some.inj ho
    obtain ⟨x45, s45, e45⟩ := hnew 45 (by kernel_rfl)
    obtain rfl : x45 = (.bool true) := e45
    clear hold hnew
    go_simp
    refine hK _ _ (Below.refl _ _) (fun sq hsq => ?_)
    obtain rfl := Option.some.inj hsq
    exact ⟨(show (_ : Value) = (.bool true) from (by first | rfl | (simp [*]; done))), fun h => absurd rfl h⟩
  · intro o aa ww ho hG hold hnew K hK
    obtain rfl := Option.some.inj ho
    have s7 : aa.tmps[7]? = some (.pointer (some ⟨w1.heap.size + 1, 0, none⟩)) := hold 7 rfl
    obtain ⟨x46, s46, e46⟩ := hnew 46 (by kernel_rfl)
    obtain rfl : x46 = (.bool true) := e46
    clear hold hnew
    have c0 := cellk hG lV hv3
    go_simp
    refine hK _ _ (Below.refl _ _) (fun sq hsq => ?_)
    obtain rfl := Option.some.inj hsq
    exact ⟨(show (_ : Value) = (.pointer (some ⟨w1.heap.size, 0, none⟩)) from (by first | rfl | (simp [*]; done))), fun h => absurd rfl h⟩
  · intro o aa ww ho hG hold hnew K hK
    obtain rfl := Option.some.inj ho
    obtain ⟨x46, s46, e46⟩ := hnew 46 (by kernel_rfl)
    obtain rfl : x46 = (.bool true) := e46
    obtain ⟨x47, s47, e47⟩ := hnew 47 (by kernel_rfl)
    obtain rfl : x47 = (.pointer (some ⟨w1.heap.size, 0, none⟩)) := e47
    clear hold hnew
    have c0 := cellk hG lP g1
    go_simp
    first | (refine (used_any w1.heap.size (l : Int) _ c0).mono ?_; rintro e' w4 ⟨rfl, rfl⟩; have hbb := Below.refl w4.heap.size w4; refine hK _ _ hbb (fun sq hsq => ?_)) | refine hK _ _ (Below.refl _ _) (fun sq hsq => ?_)
    obtain rfl := Option.some.inj hsq
    exact ⟨(show (_ : Value) = (.int .i64 (l : Int)) from (by first | rfl | (simp [*]; done))), fun h => absurd rfl h⟩
  · intro o aa ww ho hG hold hnew K hK
    obtain rfl := Option.some.inj ho
    have s11 : aa.tmps[11]? = some (.int .i64 (a : Int)) := hold 11 rfl
    obtain ⟨x46, s46, e46⟩ := hnew 46 (by kernel_rfl)
    obtain rfl : x46 = (.bool true) := e46
    clear hold hnew
    go_simp
    refine hK _ _ (Below.refl _ _) (fun sq hsq => ?_)
    obtain rfl := Option.some.inj hsq
    exact ⟨(show (_ : Value) = (.int .i64 (a : Int)) from (by first | rfl | (simp [*]; done))), fun h => absurd rfl h⟩
  · intro o aa ww ho hG hold hnew K hK
    obtain rfl := Option.some.inj ho
    have s5 : aa.tmps[5]? = some (.pointer (some ⟨w.heap.size + 1, 0, none⟩)) := hold 5 rfl
    obtain ⟨x46, s46, e46⟩ := hnew 46 (by kernel_rfl)
    obtain rfl : x46 = (.bool true) := e46
    clear hold hnew
    have c0 := cellk hG lB hy3
    go_simp
    refine hK _ _ (Below.refl _ _) (fun sq hsq => ?_)
    obtain rfl := Option.some.inj hsq
    exact ⟨(show (_ : Value) = (.int .u8 b) from (by first | rfl | (simp [*]; done))), fun h => absurd rfl h⟩
  · intro o aa ww ho hG hold hnew K hK
    obtain rfl := Option.some.inj ho
    obtain ⟨x46, s46, e46⟩ := hnew 46 (by kernel_rfl)
    obtain rfl : x46 = (.bool true) := e46
    obtain ⟨x50, s50, e50⟩ := hnew 50 (by kernel_rfl)
    obtain rfl : x50 = (.int .u8 b) := e50
    clear hold hnew
    go_simp
    refine hK _ _ (Below.refl _ _) (fun sq hsq => ?_)
    obtain rfl := Option.some.inj hsq
    exact ⟨(show (_ : Value) = (.int .i64 b) from (by first | rfl | (simp [*]; done))), fun h => absurd rfl h⟩
  · intro o aa ww ho hG hold hnew K hK
    obtain rfl := Option.some.inj ho
    obtain ⟨x46, s46, e46⟩ := hnew 46 (by kernel_rfl)
    obtain rfl : x46 = (.bool true) := e46
    obtain ⟨x49, s49, e49⟩ := hnew 49 (by kernel_rfl)
    obtain rfl : x49 = (.int .i64 (a : Int)) := e49
    obtain ⟨x51, s51, e51⟩ := hnew 51 (by kernel_rfl)
    obtain rfl : x51 = (.int .i64 b) := e51
    clear hold hnew
    go_simp
    refine hK _ _ (Below.refl _ _) (fun sq hsq => ?_)
    obtain rfl := Option.some.inj hsq
    exact ⟨(show (_ : Value) = (.int .i64 ((a : Int) + b)) from (by first | rfl | (simp [*]; done))), fun h => absurd rfl h⟩
  · intro o aa ww ho hG hold hnew K hK
    obtain rfl := Option.some.inj ho
    have s0 : aa.tmps[0]? = some (.int .u8 l) := hold 0 rfl
    obtain ⟨x46, s46, e46⟩ := hnew 46 (by kernel_rfl)
    obtain rfl : x46 = (.bool true) := e46
    clear hold hnew
    go_simp
    refine hK _ _ (Below.refl _ _) (fun sq hsq => ?_)
    obtain rfl := Option.some.inj hsq
    exact ⟨(show (_ : Value) = (.int .u8 l) from (by first | rfl | (simp [*]; done))), fun h => absurd rfl h⟩
  · intro o aa ww ho hG hold hnew K hK
    obtain rfl := Option.some.inj ho
    obtain ⟨x46, s46, e46⟩ := hnew 46 (by kernel_rfl)
    obtain rfl : x46 = (.bool true) := e46
    obtain ⟨x53, s53, e53⟩ := hnew 53 (by kernel_rfl)
    obtain rfl : x53 = (.int .u8 l) := e53
    clear hold hnew
    go_simp
    refine hK _ _ (Below.refl _ _) (fun sq hsq => ?_)
    obtain rfl := Option.some.inj hsq
    exact ⟨(show (_ : Value) = (.int .i64 l) from (by first | rfl | (simp [*]; done))), fun h => absurd rfl h⟩
  · intro o aa ww ho hG hold hnew K hK
    obtain rfl := Option.some.inj ho
    obtain ⟨x46, s46, e46⟩ := hnew 46 (by kernel_rfl)
    obtain rfl : x46 = (.bool true) := e46
    obtain ⟨x52, s52, e52⟩ := hnew 52 (by kernel_rfl)
    obtain rfl : x52 = (.int .i64 ((a : Int) + b)) := e52
    obtain ⟨x54, s54, e54⟩ := hnew 54 (by kernel_rfl)
    obtain rfl : x54 = (.int .i64 l) := e54
    clear hold hnew
    go_simp
    refine hK _ _ (Below.refl _ _) (fun sq hsq => ?_)
    obtain rfl := Option.some.inj hsq
    exact ⟨(show (_ : Value) = (.int .i64 (l : Int)) from (by first | rfl | (simp [*]; done))), fun h => absurd rfl h⟩
  · intro o aa ww ho hG hold hnew K hK
    obtain rfl := Option.some.inj ho
    obtain ⟨x46, s46, e46⟩ := hnew 46 (by kernel_rfl)
    obtain rfl : x46 = (.bool true) := e46
    obtain ⟨x48, s48, e48⟩ := hnew 48 (by kernel_rfl)
    obtain rfl : x48 = (.int .i64 (l : Int)) := e48
    obtain ⟨x55, s55, e55⟩ := hnew 55 (by kernel_rfl)
    obtain rfl : x55 = (.int .i64 (l : Int)) := e55
    clear hold hnew
    go_simp
    refine hK _ _ (Below.refl _ _) (fun sq hsq => ?_)
    obtain rfl := Option.some.inj hsq
    exact ⟨(show (_ : Value) = (.bool true) from (by first | rfl | (simp [*]; done))), fun h => absurd rfl h⟩
  · intro o aa ww ho hG hold hnew K hK
    obtain rfl := Option.some.inj ho
    obtain ⟨x46, s46, e46⟩ := hnew 46 (by kernel_rfl)
    obtain rfl : x46 = (.bool true) := e46
    obtain ⟨x56, s56, e56⟩ := hnew 56 (by kernel_rfl)
    obtain rfl : x56 = (.bool true) := e56
    clear hold hnew
    go_simp
    refine hK _ _ (Below.refl _ _) (fun sq hsq => ?_)
    obtain rfl := Option.some.inj hsq
    exact ⟨(show (_ : Value) = (.bool true) from (by first | rfl | (simp [*]; done))), fun h => absurd rfl h⟩
  · intro U ww hbr hU hI
    have u26 : U 26 = (.bool true) := hU 26 rfl
    have u27 : U 27 = (.bool true) := hU 27 rfl
    have u28 : U 28 = (.bool true) := hU 28 rfl
    have u29 : U 29 = (.int .i64 (a : Int)) := hU 29 rfl
    have u30 : U 30 = (.int .u8 a) := hU 30 rfl
    have u31 : U 31 = (.int .i64 a) := hU 31 rfl
    have u32 : U 32 = (.bool true) := hU 32 rfl
    have u33 : U 33 = (.bool true) := hU 33 rfl
    have u34 : U 34 = (.bool true) := hU 34 rfl
    have u35 : U 35 = (.bool true) := hU 35 rfl
    have u36 : U 36 = (.bool false) := hU 36 rfl
    have u37 : U 37 = (.int .i64 (a : Int)) := hU 37 rfl
    have u38 : U 38 = (.int .u8 b) := hU 38 rfl
    have u39 : U 39 = (.int .i64 b) := hU 39 rfl
    have u40 : U 40 = (.int .i64 ((a : Int) + b)) := hU 40 rfl
    have u41 : U 41 = (.int .u8 l) := hU 41 rfl
    have u42 : U 42 = (.int .i64 l) := hU 42 rfl
    have u43 : U 43 = (.bool false) := hU 43 rfl
    have u44 : U 44 = (.bool true) := hU 44 rfl
    have u45 : U 45 = (.bool true) := hU 45 rfl
    have u46 : U 46 = (.bool true) := hU 46 rfl
    have u47 : U 47 = (.pointer (some ⟨w1.heap.size, 0, none⟩)) := hU 47 rfl
    have u48 : U 48 = (.int .i64 (l : Int)) := hU 48 rfl
    have u49 : U 49 = (.int .i64 (a : Int)) := hU 49 rfl
    have u50 : U 50 = (.int .u8 b) := hU 50 rfl
    have u51 : U 51 = (.int .i64 b) := hU 51 rfl
    have u52 : U 52 = (.int .i64 ((a : Int) + b)) := hU 52 rfl
    have u53 : U 53 = (.int .u8 l) := hU 53 rfl
    have u54 : U 54 = (.int .i64 l) := hU 54 rfl
    have u55 : U 55 = (.int .i64 (l : Int)) := hU 55 rfl
    have u56 : U 56 = (.bool true) := hU 56 rfl
    have u57 : U 57 = (.bool true) := hU 57 rfl
    clear hU hI
    simp only [setAll, dsts, List.take_succ_cons, List.take_zero, List.filterMap_cons, List.filterMap_nil, List.drop_succ_cons, List.drop_zero, List.setIfInBounds_toArray, List.set_cons_succ, List.set_cons_zero, u26, u27, u28, u29, u30, u31, u32, u33, u34, u35, u36, u37, u38, u39, u40, u41, u42, u43, u44, u45, u46, u47, u48, u49, u50, u51, u52, u53, u54, u55, u56, u57]
    clear u26 u27 u28 u29 u30 u31 u32 u33 u34 u35 u36 u37 u38 u39 u40 u41 u42 u43 u44 u45 u46 u47 u48 u49 u50 u51 u52 u53 u54 u55 u56 u57
    go_wp2_with (fail)
    go_ret
    refine ⟨by first | (simp; done) | (simp; omega), ?_⟩
    have k1 : Below w1.heap.size w1 _ := (((((Below.refl _ _).alloc (Nat.le_refl _) _).alloc (by simp) _).alloc (by simp; omega) _).alloc (by simp; omega) _).trans ((ho3.mono (by simp; omega)).below (by simp; omega))
    exact hb1'.trans ((k1.trans (hbr.mono (Nat.le_of_lt lP))).mono (by omega))
set_option maxHeartbeats 4000000 in
theorem powerNestsC (l a b : Nat) (w : World) (hn : NoneLaid w) (hl : l < 256) (ha : a < 256) (hb : b < 256) (hL1 : l < a) (hL2 : b = 0) :
    Calls Tryd.prog 5 #[.int .u8 l, .int .u8 a, .int .u8 b] w fun e w' => e = .returned (.bool true) ∧ Below w.heap.size w w' := by
  have V1 := Lib.hid (show fitB l 0 a = false from decide_eq_false (by omega))
  have Z1 := Lib.hid (show useF l 0 a = (l : Int) by unfold useF; rw [V1.out]; simp)
  have V2 := Lib.hid (show fitB l (l : Int) b = true from decide_eq_true (by omega))
  have Z2 := Lib.hid (show useF l (l : Int) b = (l : Int) by unfold useF; rw [V2.out]; simp; omega)
  have q0 : (b : Int) = 0 := by omega
  have q1 : min (a : Int) l = l := Int.min_eq_right (by omega)
  have q4 : ¬ (l : Int) = a := by omega
  have q5 : ¬ l = a := by omega
  go_enter Tryd.func5, Tryd.ntmps5
  go_wp2_with (first
    | (go_at_call 22; refine (awake3_any _ (hn.next (by repeat (first | exact Below.refl _ _ | assumption | refine Below.drew ?_ | refine Below.setCell ?_ (by first | (simp; done) | omega | (simp; omega)) _ | refine Below.alloc ?_ (by first | (simp; done) | omega | (simp; omega)) _ | refine bdrewN ?_ _ | refine bstep ?_ (by assumption) (by first | (simp; done) | omega | (simp; omega)))))).mono ?_; rintro e w1 ⟨rfl, hb1⟩; have hz1 := hb1.size; simp at hz1; have hx1 : w1.cell? ⟨w.heap.size, 0, none⟩ = some (.int .u8 a) := cellk hb1 (by simp; omega) (by go_simp); have hy1 : w1.cell? ⟨w.heap.size + 1, 0, none⟩ = some (.int .u8 b) := cellk hb1 (by simp) (by first | (simp; done) | (simp; omega)); have hb1' : Below w.heap.size w w1 := (by repeat (first | exact Below.refl _ _ | assumption | refine Below.drew ?_ | refine Below.setCell ?_ (by first | (simp; done) | omega | (simp; omega)) _ | refine Below.alloc ?_ (by first | (simp; done) | omega | (simp; omega)) _ | refine bdrewN ?_ _ | refine bstep ?_ (by assumption) (by first | (simp; done) | omega | (simp; omega)))))
    | (go_at_call 23; refine (new_any _ _).mono ?_; rintro e w2 ⟨rfl, rfl⟩)
    | (go_at_call 24; refine (runNest w.heap.size (w1.heap.size + 1) (w1.heap.size + 1 + 1) (w1.heap.size + 1 + 1 + 1) (w.heap.size + 1) w1.heap.size a b l _ _ _ _ _ ha hb V1.out Z1.out V2.out Z2.out (by omega) (by omega) (by omega) (by omega) (calloc (calloc (calloc (calloc hx1 _) _) _) _) (calloc (calloc (newCell (by simp)) _) _) (calloc (newCell (by simp)) _) (falloc (by simp) (newFrz (by simp)) _) (newCell (by simp)) (newFrz (by simp)) (calloc (calloc (calloc (calloc hy1 _) _) _) _) ((((powNew l w1).alloc _).alloc _).alloc _) (by omega) (by omega) (by omega) (by omega) (by omega) (by omega) (by omega) (by omega) (by omega)).mono ?_; rintro e w3 ⟨rfl, hp3, hi3, hh3, ho3⟩; have HA := Lib.hid hp3; clear hp3; have hz3 := ho3.size; (try simp at hz3); have hx3 := ho3.cell (p := ⟨w.heap.size, 0, none⟩) (by first | (simp; done) | (simp; omega) | omega) (by simp; omega) (calloc (calloc (calloc (calloc hx1 _) _) _) _); have hy3 := ho3.cell (p := ⟨w.heap.size + 1, 0, none⟩) (by first | (simp; done) | (simp; omega) | omega) (by simp; omega) (calloc (calloc (calloc (calloc hy1 _) _) _) _); have hv3 : w3.cell? ⟨w1.heap.size + 1, 0, none⟩ = some (.pointer (some ⟨w1.heap.size, 0, none⟩)) := ho3.cell (p := ⟨w1.heap.size + 1, 0, none⟩) (by first | (simp; done) | (simp; omega) | omega) (by simp) (calloc (calloc (newCell (by simp)) _) _)))
  have g1 := HA.out.h1
  have w0 := wrap_small 0 (by omega) (by omega)
  have wa := wrap_small (a : Int) (by omega) (by omega)
  have wb := wrap_small (b : Int) (by omega) (by omega)
  have wl := wrap_small (l : Int) (by omega) (by omega)
  have wz := wrap_small ((l : Int) + b) (by omega) (by omega)
  have lH : w1.heap.size + 1 + 1 + 1 < w3.heap.size := by omega
  have lI : w1.heap.size + 1 + 1 < w3.heap.size := by omega
  have lV : w1.heap.size + 1 < w3.heap.size := by omega
  have lP : w1.heap.size < w3.heap.size := by omega
  have lA : w.heap.size < w3.heap.size := by omega
  have lB : w.heap.size + 1 < w3.heap.size := by omega
  refine wp_region_steps 32 (fun sq => match sq with | 26 => .bool true | 27 => .bool true | 28 => .bool false | 29 => .int .i64 (l : Int) | 30 => .int .u8 a | 31 => .int .i64 a | 32 => .bool false | 33 => .bool true | 34 => .bool true | 35 => .bool true | 36 => .bool true | 37 => .int .i64 (l : Int) | 38 => .int .u8 b | 39 => .int .i64 b | 40 => .int .i64 ((l : Int) + b) | 41 => .int .u8 l | 42 => .int .i64 l | 43 => .bool true | 44 => .bool true | 45 => .bool true | 46 => .bool true | 47 => .pointer (some ⟨w1.heap.size, 0, none⟩) | 48 => .int .i64 (l : Int) | 49 => .int .i64 (l : Int) | 50 => .int .u8 b | 51 => .int .i64 b | 52 => .int .i64 ((l : Int) + b) | 53 => .int .u8 l | 54 => .int .i64 l | 55 => .int .i64 (l : Int) | 56 => .bool true | 57 => .bool true | _ => undef) (fun sq => match sq with  | _ => none) (by kernel_rfl) (by kernel_rfl) (by kernel_rfl) (by kernel_rfl) rfl (steps_succ (steps_succ (steps_succ (steps_succ (steps_succ (steps_succ (steps_succ (steps_succ (steps_succ (steps_succ (steps_succ (steps_succ (steps_succ (steps_succ (steps_succ (steps_succ (steps_succ (steps_succ (steps_succ (steps_succ (steps_succ (steps_succ (steps_succ (steps_succ (steps_succ (steps_succ (steps_succ (steps_succ (steps_succ (steps_succ (steps_succ (steps_succ steps_zero ?_) ?_) ?_) ?_) ?_) ?_) ?_) ?_) ?_) ?_) ?_) ?_) ?_) ?_) ?_) ?_) ?_) ?_) ?_) ?_) ?_) ?_) ?_) ?_) ?_) ?_) ?_) ?_) ?_) ?_) ?_) ?_) ?_
  · intro o aa ww ho hG hold hnew K hK
    obtain rfl := Option.some.inj ho
    have s10 : aa.tmps[10]? = some (.pointer (some ⟨w1.heap.size + 1 + 1 + 1, 0, none⟩)) := hold 10 rfl
    clear hold hnew
    have c0 := cellk hG lH hh3
    go_simp
    refine hK _ _ (Below.refl _ _) (fun sq hsq => ?_)
    obtain rfl := Option.some.inj hsq
    exact ⟨(show (_ : Value) = (.bool true) from (by first | rfl | (simp [*]; done))), fun h => absurd rfl h⟩
  · intro o aa ww ho hG hold hnew K hK
    obtain rfl := Option.some.inj ho
    obtain ⟨x26, s26, e26⟩ := hnew 26 (by kernel_rfl)
    obtain rfl : x26 = (.bool true) := e26
    clear hold hnew
    go_simp
    refine hK _ _ (Below.refl _ _) (fun sq hsq => ?_)
    obtain rfl := Option.some.inj hsq
    exact ⟨(show (_ : Value) = (.bool true) from (by first | rfl | (simp [*]; done))), fun h => absurd rfl h⟩
  · intro o aa ww ho hG hold hnew K hK
    obtain rfl := Option.some.inj ho
    have s8 : aa.tmps[8]? = some (.pointer (some ⟨w1.heap.size + 1 + 1, 0, none⟩)) := hold 8 rfl
    obtain ⟨x27, s27, e27⟩ := hnew 27 (by kernel_rfl)
    obtain rfl : x27 = (.bool true) := e27
    clear hold hnew
    have c0 := cellk hG lI hi3
    go_simp
    refine hK _ _ (Below.refl _ _) (fun sq hsq => ?_)
    obtain rfl := Option.some.inj hsq
    exact ⟨(show (_ : Value) = (.bool false) from (by first | rfl | (simp [*]; done))), fun h => absurd rfl h⟩
  · intro o aa ww ho hG hold hnew K hK
    obtain rfl := Option.some.inj ho
    have s11 : aa.tmps[11]? = some (.int .i64 (l : Int)) := hold 11 rfl
    obtain ⟨x27, s27, e27⟩ := hnew 27 (by kernel_rfl)
    obtain rfl : x27 = (.bool true) := e27
    clear hold hnew
    go_simp
    refine hK _ _ (Below.refl _ _) (fun sq hsq => ?_)
    obtain rfl := Option.some.inj hsq
    exact ⟨(show (_ : Value) = (.int .i64 (l : Int)) from (by first | rfl | (simp [*]; done))), fun h => absurd rfl h⟩
  · intro o aa ww ho hG hold hnew K hK
    obtain rfl := Option.some.inj ho
    have s4 : aa.tmps[4]? = some (.pointer (some ⟨w.heap.size, 0, none⟩)) := hold 4 rfl
    obtain ⟨x27, s27, e27⟩ := hnew 27 (by kernel_rfl)
    obtain rfl : x27 = (.bool true) := e27
    clear hold hnew
    have c0 := cellk hG lA hx3
    go_simp
    refine hK _ _ (Below.refl _ _) (fun sq hsq => ?_)
    obtain rfl := Option.some.inj hsq
    exact ⟨(show (_ : Value) = (.int .u8 a) from (by first | rfl | (simp [*]; done))), fun h => absurd rfl h⟩
  · intro o aa ww ho hG hold hnew K hK
    obtain rfl := Option.some.inj ho
    obtain ⟨x27, s27, e27⟩ := hnew 27 (by kernel_rfl)
    obtain rfl : x27 = (.bool true) := e27
    obtain ⟨x30, s30, e30⟩ := hnew 30 (by kernel_rfl)
    obtain rfl : x30 = (.int .u8 a) := e30
    clear hold hnew
    go_simp
    refine hK _ _ (Below.refl _ _) (fun sq hsq => ?_)
    obtain rfl := Option.some.inj hsq
    exact ⟨(show (_ : Value) = (.int .i64 a) from (by first | rfl | (simp [*]; done))), fun h => absurd rfl h⟩
  · intro o aa ww ho hG hold hnew K hK
    obtain rfl := Option.some.inj ho
    obtain ⟨x27, s27, e27⟩ := hnew 27 (by kernel_rfl)
    obtain rfl : x27 = (.bool true) := e27
    obtain ⟨x29, s29, e29⟩ := hnew 29 (by kernel_rfl)
    obtain rfl : x29 = (.int .i64 (l : Int)) := e29
    obtain ⟨x31, s31, e31⟩ := hnew 31 (by kernel_rfl)
    obtain rfl : x31 = (.int .i64 a) := e31
    clear hold hnew
    go_simp
    refine hK _ _ (Below.refl _ _) (fun sq hsq => ?_)
    obtain rfl := Option.some.inj hsq
    exact ⟨(show (_ : Value) = (.bool false) from (by first | rfl | (simp [*]; done))), fun h => absurd rfl h⟩
  · intro o aa ww ho hG hold hnew K hK
    obtain rfl := Option.some.inj ho
    obtain ⟨x27, s27, e27⟩ := hnew 27 (by kernel_rfl)
    obtain rfl : x27 = (.bool true) := e27
    obtain ⟨x28, s28, e28⟩ := hnew 28 (by kernel_rfl)
    obtain rfl : x28 = (.bool false) := e28
    obtain ⟨x32, s32, e32⟩ := hnew 32 (by kernel_rfl)
    obtain rfl : x32 = (.bool false) := e32
    clear hold hnew
    go_simp
    refine hK _ _ (Below.refl _ _) (fun sq hsq => ?_)
    obtain rfl := Option.some.inj hsq
    exact ⟨(show (_ : Value) = (.bool true) from (by first | rfl | (simp [*]; done))), fun h => absurd rfl h⟩
  · intro o aa ww ho hG hold hnew K hK
    obtain rfl := Option.some.inj ho
    obtain ⟨x27, s27, e27⟩ := hnew 27 (by kernel_rfl)
    obtain rfl : x27 = (.bool true) := e27
    obtain ⟨x33, s33, e33⟩ := hnew 33 (by kernel_rfl)
    obtain rfl : x33 = (.bool true) := e33
    clear hold hnew
    go_simp
    refine hK _ _ (Below.refl _ _) (fun sq hsq => ?_)
    obtain rfl := Option.some.inj hsq
    exact ⟨(show (_ : Value) = (.bool true) from (by first | rfl | (simp [*]; done))), fun h => absurd rfl h⟩
  · intro o aa ww ho hG hold hnew K hK
    obtain rfl := Option.some.inj ho
    obtain ⟨x34, s34, e34⟩ := hnew 34 (by kernel_rfl)
    obtain rfl : x34 = (.bool true) := e34
    clear hold hnew
    go_simp
    refine hK _ _ (Below.refl _ _) (fun sq hsq => ?_)
    obtain rfl := Option.some.inj hsq
    exact ⟨(show (_ : Value) = (.bool true) from (by first | rfl | (simp [*]; done))), fun h => absurd rfl h⟩
  · intro o aa ww ho hG hold hnew K hK
    obtain rfl := Option.some.inj ho
    have s9 : aa.tmps[9]? = some (.bool true) := hold 9 rfl
    obtain ⟨x35, s35, e35⟩ := hnew 35 (by kernel_rfl)
    obtain rfl : x35 = (.bool true) := e35
    clear hold hnew
    go_simp
    refine hK _ _ (Below.refl _ _) (fun sq hsq => ?_)
    obtain rfl := Option.some.inj hsq
    exact ⟨(show (_ : Value) = (.bool true) from (by first | rfl | (simp [*]; done))), fun h => absurd rfl h⟩
  · intro o aa ww ho hG hold hnew K hK
    obtain rfl := Option.some.inj ho
    have s11 : aa.tmps[11]? = some (.int .i64 (l : Int)) := hold 11 rfl
    obtain ⟨x35, s35, e35⟩ := hnew 35 (by kernel_rfl)
    obtain rfl : x35 = (.bool true) := e35
    clear hold hnew
    go_simp
    refine hK _ _ (Below.refl _ _) (fun sq hsq => ?_)
    obtain rfl := Option.some.inj hsq
    exact ⟨(show (_ : Value) = (.int .i64 (l : Int)) from (by first | rfl | (simp [*]; done))), fun h => absurd rfl h⟩
  · intro o aa ww ho hG hold hnew K hK
    obtain rfl := Option.some.inj ho
    have s5 : aa.tmps[5]? = some (.pointer (some ⟨w.heap.size + 1, 0, none⟩)) := hold 5 rfl
    obtain ⟨x35, s35, e35⟩ := hnew 35 (by kernel_rfl)
    obtain rfl : x35 = (.bool true) := e35
    clear hold hnew
    have c0 := cellk hG lB hy3
    go_simp
    refine hK _ _ (Below.refl _ _) (fun sq hsq => ?_)
    obtain rfl := Option.some.inj hsq
    exact ⟨(show (_ : Value) = (.int .u8 b) from (by first | rfl | (simp [*]; done))), fun h => absurd rfl h⟩
  · intro o aa ww ho hG hold hnew K hK
    obtain rfl := Option.some.inj ho
    obtain ⟨x35, s35, e35⟩ := hnew 35 (by kernel_rfl)
    obtain rfl : x35 = (.bool true) := e35
    obtain ⟨x38, s38, e38⟩ := hnew 38 (by kernel_rfl)
    obtain rfl : x38 = (.int .u8 b) := e38
    clear hold hnew
    go_simp
    refine hK _ _ (Below.refl _ _) (fun sq hsq => ?_)
    obtain rfl := Option.some.inj hsq
    exact ⟨(show (_ : Value) = (.int .i64 b) from (by first | rfl | (simp [*]; done))), fun h => absurd rfl h⟩
  · intro o aa ww ho hG hold hnew K hK
    obtain rfl := Option.some.inj ho
    obtain ⟨x35, s35, e35⟩ := hnew 35 (by kernel_rfl)
    obtain rfl : x35 = (.bool true) := e35
    obtain ⟨x37, s37, e37⟩ := hnew 37 (by kernel_rfl)
    obtain rfl : x37 = (.int .i64 (l : Int)) := e37
    obtain ⟨x39, s39, e39⟩ := hnew 39 (by kernel_rfl)
    obtain rfl : x39 = (.int .i64 b) := e39
    clear hold hnew
    go_simp
    refine hK _ _ (Below.refl _ _) (fun sq hsq => ?_)
    obtain rfl := Option.some.inj hsq
    exact ⟨(show (_ : Value) = (.int .i64 ((l : Int) + b)) from (by first | rfl | (simp [*]; done))), fun h => absurd rfl h⟩
  · intro o aa ww ho hG hold hnew K hK
    obtain rfl := Option.some.inj ho
    have s0 : aa.tmps[0]? = some (.int .u8 l) := hold 0 rfl
    obtain ⟨x35, s35, e35⟩ := hnew 35 (by kernel_rfl)
    obtain rfl : x35 = (.bool true) := e35
    clear hold hnew
    go_simp
    refine hK _ _ (Below.refl _ _) (fun sq hsq => ?_)
    obtain rfl := Option.some.inj hsq
    exact ⟨(show (_ : Value) = (.int .u8 l) from (by first | rfl | (simp [*]; done))), fun h => absurd rfl h⟩
  · intro o aa ww ho hG hold hnew K hK
    obtain rfl := Option.some.inj ho
    obtain ⟨x35, s35, e35⟩ := hnew 35 (by kernel_rfl)
    obtain rfl : x35 = (.bool true) := e35
    obtain ⟨x41, s41, e41⟩ := hnew 41 (by kernel_rfl)
    obtain rfl : x41 = (.int .u8 l) := e41
    clear hold hnew
    go_simp
    refine hK _ _ (Below.refl _ _) (fun sq hsq => ?_)
    obtain rfl := Option.some.inj hsq
    exact ⟨(show (_ : Value) = (.int .i64 l) from (by first | rfl | (simp [*]; done))), fun h => absurd rfl h⟩
  · intro o aa ww ho hG hold hnew K hK
    obtain rfl := Option.some.inj ho
    obtain ⟨x35, s35, e35⟩ := hnew 35 (by kernel_rfl)
    obtain rfl : x35 = (.bool true) := e35
    obtain ⟨x40, s40, e40⟩ := hnew 40 (by kernel_rfl)
    obtain rfl : x40 = (.int .i64 ((l : Int) + b)) := e40
    obtain ⟨x42, s42, e42⟩ := hnew 42 (by kernel_rfl)
    obtain rfl : x42 = (.int .i64 l) := e42
    clear hold hnew
    go_simp
    refine hK _ _ (Below.refl _ _) (fun sq hsq => ?_)
    obtain rfl := Option.some.inj hsq
    exact ⟨(show (_ : Value) = (.bool true) from (by first | rfl | (simp [*]; done))), fun h => absurd rfl h⟩
  · intro o aa ww ho hG hold hnew K hK
    obtain rfl := Option.some.inj ho
    obtain ⟨x35, s35, e35⟩ := hnew 35 (by kernel_rfl)
    obtain rfl : x35 = (.bool true) := e35
    obtain ⟨x36, s36, e36⟩ := hnew 36 (by kernel_rfl)
    obtain rfl : x36 = (.bool true) := e36
    obtain ⟨x43, s43, e43⟩ := hnew 43 (by kernel_rfl)
    obtain rfl : x43 = (.bool true) := e43
    clear hold hnew
    go_simp
    refine hK _ _ (Below.refl _ _) (fun sq hsq => ?_)
    obtain rfl := Option.some.inj hsq
    exact ⟨(show (_ : Value) = (.bool true) from (by first | rfl | (simp [*]; done))), fun h => absurd rfl h⟩
  · intro o aa ww ho hG hold hnew K hK
    obtain rfl := Option.some.inj ho
    obtain ⟨x35, s35, e35⟩ := hnew 35 (by kernel_rfl)
    obtain rfl : x35 = (.bool true) := e35
    obtain ⟨x44, s44, e44⟩ := hnew 44 (by kernel_rfl)
    obtain rfl : x44 = (.bool true) := e44
    clear hold hnew
    go_simp
    refine hK _ _ (Below.refl _ _) (fun sq hsq => ?_)
    obtain rfl := Option.some.inj hsq
    exact ⟨(show (_ : Value) = (.bool true) from (by first | rfl | (simp [*]; done))), fun h => absurd rfl h⟩
  · intro o aa ww ho hG hold hnew K hK
    obtain rfl := Option.some.inj ho
    obtain ⟨x45, s45, e45⟩ := hnew 45 (by kernel_rfl)
    obtain rfl : x45 = (.bool true) := e45
    clear hold hnew
    go_simp
    refine hK _ _ (Below.refl _ _) (fun sq hsq => ?_)
    obtain rfl := Option.some.inj hsq
    exact ⟨(show (_ : Value) = (.bool true) from (by first | rfl | (simp [*]; done))), fun h => absurd rfl h⟩
  · intro o aa ww ho hG hold hnew K hK
    obtain rfl := Option.some.inj ho
    have s7 : aa.tmps[7]? = some (.pointer (some ⟨w1.heap.size + 1, 0, none⟩)) := hold 7 rfl
    obtain ⟨x46, s46, e46⟩ := hnew 46 (by kernel_rfl)
    obtain rfl : x46 = (.bool true) := e46
    clear hold hnew
    have c0 := cellk hG lV hv3
    go_simp
    refine hK _ _ (Below.refl _ _) (fun sq hsq => ?_)
    obtain rfl := Option.some.inj hsq
    exact ⟨(show (_ : Value) = (.pointer (some ⟨w1.heap.size, 0, none⟩)) from (by first | rfl | (simp [*]; done))), fun h => absurd rfl h⟩
  · intro o aa ww ho hG hold hnew K hK
    obtain rfl := Option.some.inj ho
    obtain ⟨x46, s46, e46⟩ := hnew 46 (by kernel_rfl)
    obtain rfl : x46 = (.bool true) := e46
    obtain ⟨x47, s47, e47⟩ := hnew 47 (by kernel_rfl)
    obtain rfl : x47 = (.pointer (some ⟨w1.heap.size, 0, none⟩)) := e47
    clear hold hnew
    have c0 := cellk hG lP g1
    go_simp
    first | (refine (used_any w1.heap.size (l : Int) _ c0).mono ?_; rintro e' w4 ⟨rfl, rfl⟩; have hbb := Below.refl w4.heap.size w4; refine hK _ _ hbb (fun sq hsq => ?_)) | refine hK _ _ (Below.refl _ _) (fun sq hsq => ?_)
    obtain rfl := Option.some.inj hsq
    exact ⟨(show (_ : Value) = (.int .i64 (l : Int)) from (by first | rfl | (simp [*]; done))), fun h => absurd rfl h⟩
  · intro o aa ww ho hG hold hnew K hK
    obtain rfl := Option.some.inj ho
    have s11 : aa.tmps[11]? = some (.int .i64 (l : Int)) := hold 11 rfl
    obtain ⟨x46, s46, e46⟩ := hnew 46 (by kernel_rfl)
    obtain rfl : x46 = (.bool true) := e46
    clear hold hnew
    go_simp
    refine hK _ _ (Below.refl _ _) (fun sq hsq => ?_)
    obtain rfl := Option.some.inj hsq
    exact ⟨(show (_ : Value) = (.int .i64 (l : Int)) from (by first | rfl | (simp [*]; done))), fun h => absurd rfl h⟩
  · intro o aa ww ho hG hold hnew K hK
    obtain rfl := Option.some.inj ho
    have s5 : aa.tmps[5]? = some (.pointer (some ⟨w.heap.size + 1, 0, none⟩)) := hold 5 rfl
    obtain ⟨x46, s46, e46⟩ := hnew 46 (by kernel_rfl)
    obtain rfl : x46 = (.bool true) := e46
    clear hold hnew
    have c0 := cellk hG lB hy3
    go_simp
    refine hK _ _ (Below.refl _ _) (fun sq hsq => ?_)
    obtain rfl := Option.some.inj hsq
    exact ⟨(show (_ : Value) = (.int .u8 b) from (by first | rfl | (simp [*]; done))), fun h => absurd rfl h⟩
  · intro o aa ww ho hG hold hnew K hK
    obtain rfl := Option.some.inj ho
    obtain ⟨x46, s46, e46⟩ := hnew 46 (by kernel_rfl)
    obtain rfl : x46 = (.bool true) := e46
    obtain ⟨x50, s50, e50⟩ := hnew 50 (by kernel_rfl)
    obtain rfl : x50 = (.int .u8 b) := e50
    clear hold hnew
    go_simp
    refine hK _ _ (Below.refl _ _) (fun sq hsq => ?_)
    obtain rfl := Option.some.inj hsq
    exact ⟨(show (_ : Value) = (.int .i64 b) from (by first | rfl | (simp [*]; done))), fun h => absurd rfl h⟩
  · intro o aa ww ho hG hold hnew K hK
    obtain rfl := Option.some.inj ho
    obtain ⟨x46, s46, e46⟩ := hnew 46 (by kernel_rfl)
    obtain rfl : x46 = (.bool true) := e46
    obtain ⟨x49, s49, e49⟩ := hnew 49 (by kernel_rfl)
    obtain rfl : x49 = (.int .i64 (l : Int)) := e49
    obtain ⟨x51, s51, e51⟩ := hnew 51 (by kernel_rfl)
    obtain rfl : x51 = (.int .i64 b) := e51
    clear hold hnew
    go_simp
    refine hK _ _ (Below.refl _ _) (fun sq hsq => ?_)
    obtain rfl := Option.some.inj hsq
    exact ⟨(show (_ : Value) = (.int .i64 ((l : Int) + b)) from (by first | rfl | (simp [*]; done))), fun h => absurd rfl h⟩
  · intro o aa ww ho hG hold hnew K hK
    obtain rfl := Option.some.inj ho
    have s0 : aa.tmps[0]? = some (.int .u8 l) := hold 0 rfl
    obtain ⟨x46, s46, e46⟩ := hnew 46 (by kernel_rfl)
    obtain rfl : x46 = (.bool true) := e46
    clear hold hnew
    go_simp
    refine hK _ _ (Below.refl _ _) (fun sq hsq => ?_)
    obtain rfl := Option.some.inj hsq
    exact ⟨(show (_ : Value) = (.int .u8 l) from (by first | rfl | (simp [*]; done))), fun h => absurd rfl h⟩
  · intro o aa ww ho hG hold hnew K hK
    obtain rfl := Option.some.inj ho
    obtain ⟨x46, s46, e46⟩ := hnew 46 (by kernel_rfl)
    obtain rfl : x46 = (.bool true) := e46
    obtain ⟨x53, s53, e53⟩ := hnew 53 (by kernel_rfl)
    obtain rfl : x53 = (.int .u8 l) := e53
    clear hold hnew
    go_simp
    refine hK _ _ (Below.refl _ _) (fun sq hsq => ?_)
    obtain rfl := Option.some.inj hsq
    exact ⟨(show (_ : Value) = (.int .i64 l) from (by first | rfl | (simp [*]; done))), fun h => absurd rfl h⟩
  · intro o aa ww ho hG hold hnew K hK
    obtain rfl := Option.some.inj ho
    obtain ⟨x46, s46, e46⟩ := hnew 46 (by kernel_rfl)
    obtain rfl : x46 = (.bool true) := e46
    obtain ⟨x52, s52, e52⟩ := hnew 52 (by kernel_rfl)
    obtain rfl : x52 = (.int .i64 ((l : Int) + b)) := e52
    obtain ⟨x54, s54, e54⟩ := hnew 54 (by kernel_rfl)
    obtain rfl : x54 = (.int .i64 l) := e54
    clear hold hnew
    go_simp
    refine hK _ _ (Below.refl _ _) (fun sq hsq => ?_)
    obtain rfl := Option.some.inj hsq
    exact ⟨(show (_ : Value) = (.int .i64 (l : Int)) from (by first | rfl | (simp [*]; done))), fun h => absurd rfl h⟩
  · intro o aa ww ho hG hold hnew K hK
    obtain rfl := Option.some.inj ho
    obtain ⟨x46, s46, e46⟩ := hnew 46 (by kernel_rfl)
    obtain rfl : x46 = (.bool true) := e46
    obtain ⟨x48, s48, e48⟩ := hnew 48 (by kernel_rfl)
    obtain rfl : x48 = (.int .i64 (l : Int)) := e48
    obtain ⟨x55, s55, e55⟩ := hnew 55 (by kernel_rfl)
    obtain rfl : x55 = (.int .i64 (l : Int)) := e55
    clear hold hnew
    go_simp
    refine hK _ _ (Below.refl _ _) (fun sq hsq => ?_)
    obtain rfl := Option.some.inj hsq
    exact ⟨(show (_ : Value) = (.bool true) from (by first | rfl | (simp [*]; done))), fun h => absurd rfl h⟩
  · intro o aa ww ho hG hold hnew K hK
    obtain rfl := Option.some.inj ho
    obtain ⟨x46, s46, e46⟩ := hnew 46 (by kernel_rfl)
    obtain rfl : x46 = (.bool true) := e46
    obtain ⟨x56, s56, e56⟩ := hnew 56 (by kernel_rfl)
    obtain rfl : x56 = (.bool true) := e56
    clear hold hnew
    go_simp
    refine hK _ _ (Below.refl _ _) (fun sq hsq => ?_)
    obtain rfl := Option.some.inj hsq
    exact ⟨(show (_ : Value) = (.bool true) from (by first | rfl | (simp [*]; done))), fun h => absurd rfl h⟩
  · intro U ww hbr hU hI
    have u26 : U 26 = (.bool true) := hU 26 rfl
    have u27 : U 27 = (.bool true) := hU 27 rfl
    have u28 : U 28 = (.bool false) := hU 28 rfl
    have u29 : U 29 = (.int .i64 (l : Int)) := hU 29 rfl
    have u30 : U 30 = (.int .u8 a) := hU 30 rfl
    have u31 : U 31 = (.int .i64 a) := hU 31 rfl
    have u32 : U 32 = (.bool false) := hU 32 rfl
    have u33 : U 33 = (.bool true) := hU 33 rfl
    have u34 : U 34 = (.bool true) := hU 34 rfl
    have u35 : U 35 = (.bool true) := hU 35 rfl
    have u36 : U 36 = (.bool true) := hU 36 rfl
    have u37 : U 37 = (.int .i64 (l : Int)) := hU 37 rfl
    have u38 : U 38 = (.int .u8 b) := hU 38 rfl
    have u39 : U 39 = (.int .i64 b) := hU 39 rfl
    have u40 : U 40 = (.int .i64 ((l : Int) + b)) := hU 40 rfl
    have u41 : U 41 = (.int .u8 l) := hU 41 rfl
    have u42 : U 42 = (.int .i64 l) := hU 42 rfl
    have u43 : U 43 = (.bool true) := hU 43 rfl
    have u44 : U 44 = (.bool true) := hU 44 rfl
    have u45 : U 45 = (.bool true) := hU 45 rfl
    have u46 : U 46 = (.bool true) := hU 46 rfl
    have u47 : U 47 = (.pointer (some ⟨w1.heap.size, 0, none⟩)) := hU 47 rfl
    have u48 : U 48 = (.int .i64 (l : Int)) := hU 48 rfl
    have u49 : U 49 = (.int .i64 (l : Int)) := hU 49 rfl
    have u50 : U 50 = (.int .u8 b) := hU 50 rfl
    have u51 : U 51 = (.int .i64 b) := hU 51 rfl
    have u52 : U 52 = (.int .i64 ((l : Int) + b)) := hU 52 rfl
    have u53 : U 53 = (.int .u8 l) := hU 53 rfl
    have u54 : U 54 = (.int .i64 l) := hU 54 rfl
    have u55 : U 55 = (.int .i64 (l : Int)) := hU 55 rfl
    have u56 : U 56 = (.bool true) := hU 56 rfl
    have u57 : U 57 = (.bool true) := hU 57 rfl
    clear hU hI
    simp only [setAll, dsts, List.take_succ_cons, List.take_zero, List.filterMap_cons, List.filterMap_nil, List.drop_succ_cons, List.drop_zero, List.setIfInBounds_toArray, List.set_cons_succ, List.set_cons_zero, u26, u27, u28, u29, u30, u31, u32, u33, u34, u35, u36, u37, u38, u39, u40, u41, u42, u43, u44, u45, u46, u47, u48, u49, u50, u51, u52, u53, u54, u55, u56, u57]
    clear u26 u27 u28 u29 u30 u31 u32 u33 u34 u35 u36 u37 u38 u39 u40 u41 u42 u43 u44 u45 u46 u47 u48 u49 u50 u51 u52 u53 u54 u55 u56 u57
    go_wp2_with (fail)
    go_ret
    refine ⟨by first | (simp; done) | (simp; omega), ?_⟩
    have k1 : Below w1.heap.size w1 _ := (((((Below.refl _ _).alloc (Nat.le_refl _) _).alloc (by simp) _).alloc (by simp; omega) _).alloc (by simp; omega) _).trans ((ho3.mono (by simp; omega)).below (by simp; omega))
    exact hb1'.trans ((k1.trans (hbr.mono (Nat.le_of_lt lP))).mono (by omega))
set_option maxHeartbeats 4000000 in
theorem powerNestsD (l a b : Nat) (w : World) (hn : NoneLaid w) (hl : l < 256) (ha : a < 256) (hb : b < 256) (hL1 : l < a) (hL2 : 0 < b) :
    Calls Tryd.prog 5 #[.int .u8 l, .int .u8 a, .int .u8 b] w fun e w' => e = .returned (.bool true) ∧ Below w.heap.size w w' := by
  have V1 := Lib.hid (show fitB l 0 a = false from decide_eq_false (by omega))
  have Z1 := Lib.hid (show useF l 0 a = (l : Int) by unfold useF; rw [V1.out]; simp)
  have V2 := Lib.hid (show fitB l (l : Int) b = false from decide_eq_false (by omega))
  have Z2 := Lib.hid (show useF l (l : Int) b = (l : Int) by unfold useF; rw [V2.out]; simp)
  have q1 : min (a : Int) l = l := Int.min_eq_right (by omega)
  have q2 : min ((l : Int) + b) l = l := Int.min_eq_right (by omega)
  have q3 : ¬ (l : Int) + b ≤ l := by omega
  have q4 : ¬ (l : Int) = a := by omega
  have q5 : ¬ l = a := by omega
  have q6 : ¬ b = 0 := by omega
  go_enter Tryd.func5, Tryd.ntmps5
  go_wp2_with (first
    | (go_at_call 22; refine (awake3_any _ (hn.next (by repeat (first | exact Below.refl _ _ | assumption | refine Below.drew ?_ | refine Below.setCell ?_ (by first | (simp; done) | omega | (simp; omega)) _ | refine Below.alloc ?_ (by first | (simp; done) | omega | (simp; omega)) _ | refine bdrewN ?_ _ | refine bstep ?_ (by assumption) (by first | (simp; done) | omega | (simp; omega)))))).mono ?_; rintro e w1 ⟨rfl, hb1⟩; have hz1 := hb1.size; simp at hz1; have hx1 : w1.cell? ⟨w.heap.size, 0, none⟩ = some (.int .u8 a) := cellk hb1 (by simp; omega) (by go_simp); have hy1 : w1.cell? ⟨w.heap.size + 1, 0, none⟩ = some (.int .u8 b) := cellk hb1 (by simp) (by first | (simp; done) | (simp; omega)); have hb1' : Below w.heap.size w w1 := (by repeat (first | exact Below.refl _ _ | assumption | refine Below.drew ?_ | refine Below.setCell ?_ (by first | (simp; done) | omega | (simp; omega)) _ | refine Below.alloc ?_ (by first | (simp; done) | omega | (simp; omega)) _ | refine bdrewN ?_ _ | refine bstep ?_ (by assumption) (by first | (simp; done) | omega | (simp; omega)))))
    | (go_at_call 23; refine (new_any _ _).mono ?_; rintro e w2 ⟨rfl, rfl⟩)
    | (go_at_call 24; refine (runNest w.heap.size (w1.heap.size + 1) (w1.heap.size + 1 + 1) (w1.heap.size + 1 + 1 + 1) (w.heap.size + 1) w1.heap.size a b l _ _ _ _ _ ha hb V1.out Z1.out V2.out Z2.out (by omega) (by omega) (by omega) (by omega) (calloc (calloc (calloc (calloc hx1 _) _) _) _) (calloc (calloc (newCell (by simp)) _) _) (calloc (newCell (by simp)) _) (falloc (by simp) (newFrz (by simp)) _) (newCell (by simp)) (newFrz (by simp)) (calloc (calloc (calloc (calloc hy1 _) _) _) _) ((((powNew l w1).alloc _).alloc _).alloc _) (by omega) (by omega) (by omega) (by omega) (by omega) (by omega) (by omega) (by omega) (by omega)).mono ?_; rintro e w3 ⟨rfl, hp3, hi3, hh3, ho3⟩; have HA := Lib.hid hp3; clear hp3; have hz3 := ho3.size; (try simp at hz3); have hx3 := ho3.cell (p := ⟨w.heap.size, 0, none⟩) (by first | (simp; done) | (simp; omega) | omega) (by simp; omega) (calloc (calloc (calloc (calloc hx1 _) _) _) _); have hy3 := ho3.cell (p := ⟨w.heap.size + 1, 0, none⟩) (by first | (simp; done) | (simp; omega) | omega) (by simp; omega) (calloc (calloc (calloc (calloc hy1 _) _) _) _); have hv3 : w3.cell? ⟨w1.heap.size + 1, 0, none⟩ = some (.pointer (some ⟨w1.heap.size, 0, none⟩)) := ho3.cell (p := ⟨w1.heap.size + 1, 0, none⟩) (by first | (simp; done) | (simp; omega) | omega) (by simp) (calloc (calloc (newCell (by simp)) _) _)))
  have g1 := HA.out.h1
  have w0 := wrap_small 0 (by omega) (by omega)
  have wa := wrap_small (a : Int) (by omega) (by omega)
  have wb := wrap_small (b : Int) (by omega) (by omega)
  have wl := wrap_small (l : Int) (by omega) (by omega)
  have wz := wrap_small ((l : Int) + b) (by omega) (by omega)
  have lH : w1.heap.size + 1 + 1 + 1 < w3.heap.size := by omega
  have lI : w1.heap.size + 1 + 1 < w3.heap.size := by omega
  have lV : w1.heap.size + 1 < w3.heap.size := by omega
  have lP : w1.heap.size < w3.heap.size := by omega
  have lA : w.heap.size < w3.heap.size := by omega
  have lB : w.heap.size + 1 < w3.heap.size := by omega
  refine wp_region_steps 32 (fun sq => match sq with | 26 => .bool true | 27 => .bool true | 28 => .bool false | 29 => .int .i64 (l : Int) | 30 => .int .u8 a | 31 => .int .i64 a | 32 => .bool false | 33 => .bool true | 34 => .bool true | 35 => .bool true | 36 => .bool false | 37 => .int .i64 (l : Int) | 38 => .int .u8 b | 39 => .int .i64 b | 40 => .int .i64 ((l : Int) + b) | 41 => .int .u8 l | 42 => .int .i64 l | 43 => .bool false | 44 => .bool true | 45 => .bool true | 46 => .bool true | 47 => .pointer (some ⟨w1.heap.size, 0, none⟩) | 48 => .int .i64 (l : Int) | 49 => .int .i64 (l : Int) | 50 => .int .u8 b | 51 => .int .i64 b | 52 => .int .i64 ((l : Int) + b) | 53 => .int .u8 l | 54 => .int .i64 l | 55 => .int .i64 (l : Int) | 56 => .bool true | 57 => .bool true | _ => undef) (fun sq => match sq with  | _ => none) (by kernel_rfl) (by kernel_rfl) (by kernel_rfl) (by kernel_rfl) rfl (steps_succ (steps_succ (steps_succ (steps_succ (steps_succ (steps_succ (steps_succ (steps_succ (steps_succ (steps_succ (steps_succ (steps_succ (steps_succ (steps_succ (steps_succ (steps_succ (steps_succ (steps_succ (steps_succ (steps_succ (steps_succ (steps_succ (steps_succ (steps_succ (steps_succ (steps_succ (steps_succ (steps_succ (steps_succ (steps_succ (steps_succ (steps_succ steps_zero ?_) ?_) ?_) ?_) ?_) ?_) ?_) ?_) ?_) ?_) ?_) ?_) ?_) ?_) ?_) ?_) ?_) ?_) ?_) ?_) ?_) ?_) ?_) ?_) ?_) ?_) ?_) ?_) ?_) ?_) ?_) ?_) ?_
  · intro o aa ww ho hG hold hnew K hK
    obtain rfl := Option.some.inj ho
    have s10 : aa.tmps[10]? = some (.pointer (some ⟨w1.heap.size + 1 + 1 + 1, 0, none⟩)) := hold 10 rfl
    clear hold hnew
    have c0 := cellk hG lH hh3
    go_simp
    refine hK _ _ (Below.refl _ _) (fun sq hsq => ?_)
    obtain rfl := Option.some.inj hsq
    exact ⟨(show (_ : Value) = (.bool true) from (by first | rfl | (simp [*]; done))), fun h => absurd rfl h⟩
  · intro o aa ww ho hG hold hnew K hK
    obtain rfl := Option.some.inj ho
    obtain ⟨x26, s26, e26⟩ := hnew 26 (by kernel_rfl)
    obtain rfl : x26 = (.bool true) := e26
    clear hold hnew
    go_simp
    refine hK _ _ (Below.refl _ _) (fun sq hsq => ?_)
    obtain rfl := Option.some.inj hsq
    exact ⟨(show (_ : Value) = (.bool true) from (by first | rfl | (simp [*]; done))), fun h => absurd rfl h⟩
  · intro o aa ww ho hG hold hnew K hK
    obtain rfl := Option.some.inj ho
    have s8 : aa.tmps[8]? = some (.pointer (some ⟨w1.heap.size + 1 + 1, 0, none⟩)) := hold 8 rfl
    obtain ⟨x27, s27, e27⟩ := hnew 27 (by kernel_rfl)
    obtain rfl : x27 = (.bool true) := e27
    clear hold hnew
    have c0 := cellk hG lI hi3
    go_simp
    refine hK _ _ (Below.refl _ _) (fun sq hsq => ?_)
    obtain rfl := Option.some.inj hsq
    exact ⟨(show (_ : Value) = (.bool false) from (by first | rfl | (simp [*]; done))), fun h => absurd rfl h⟩
  · intro o aa ww ho hG hold hnew K hK
    obtain rfl := Option.some.inj ho
    have s11 : aa.tmps[11]? = some (.int .i64 (l : Int)) := hold 11 rfl
    obtain ⟨x27, s27, e27⟩ := hnew 27 (by kernel_rfl)
    obtain rfl : x27 = (.bool true) := e27
    clear hold hnew
    go_simp
    refine hK _ _ (Below.refl _ _) (fun sq hsq => ?_)
    obtain rfl := Option.some.inj hsq
    exact ⟨(show (_ : Value) = (.int .i64 (l : Int)) from (by first | rfl | (simp [*]; done))), fun h => absurd rfl h⟩
  · intro o aa ww ho hG hold hnew K hK
    obtain rfl := Option.some.inj ho
    have s4 : aa.tmps[4]? = some (.pointer (some ⟨w.heap.size, 0, none⟩)) := hold 4 rfl
    obtain ⟨x27, s27, e27⟩ := hnew 27 (by kernel_rfl)
    obtain rfl : x27 = (.bool true) := e27
    clear hold hnew
    have c0 := cellk hG lA hx3
    go_simp
    refine hK _ _ (Below.refl _ _) (fun sq hsq => ?_)
    obtain rfl := Option.some.inj hsq
    exact ⟨(show (_ : Value) = (.int .u8 a) from (by first | rfl | (simp [*]; done))), fun h => absurd rfl h⟩
  · intro o aa ww ho hG hold hnew K hK
    obtain rfl := Option.some.inj ho
    obtain ⟨x27, s27, e27⟩ := hnew 27 (by kernel_rfl)
    obtain rfl : x27 = (.bool true) := e27
    obtain ⟨x30, s30, e30⟩ := hnew 30 (by kernel_rfl)
    obtain rfl : x30 = (.int .u8 a) := e30
    clear hold hnew
    go_simp
    refine hK _ _ (Below.refl _ _) (fun sq hsq => ?_)
    obtain rfl := Option.some.inj hsq
    exact ⟨(show (_ : Value) = (.int .i64 a) from (by first | rfl | (simp [*]; done))), fun h => absurd rfl h⟩
  · intro o aa ww ho hG hold hnew K hK
    obtain rfl := Option.some.inj ho
    obtain ⟨x27, s27, e27⟩ := hnew 27 (by kernel_rfl)
    obtain rfl : x27 = (.bool true) := e27
    obtain ⟨x29, s29, e29⟩ := hnew 29 (by kernel_rfl)
    obtain rfl : x29 = (.int .i64 (l : Int)) := e29
    obtain ⟨x31, s31, e31⟩ := hnew 31 (by kernel_rfl)
    obtain rfl : x31 = (.int .i64 a) := e31
    clear hold hnew
    go_simp
    refine hK _ _ (Below.refl _ _) (fun sq hsq => ?_)
    obtain rfl := Option.some.inj hsq
    exact ⟨(show (_ : Value) = (.bool false) from (by first | rfl | (simp [*]; done))), fun h => absurd rfl h⟩
  · intro o aa ww ho hG hold hnew K hK
    obtain rfl := Option.some.inj ho
    obtain ⟨x27, s27, e27⟩ := hnew 27 (by kernel_rfl)
    obtain rfl : x27 = (.bool true) := e27
    obtain ⟨x28, s28, e28⟩ := hnew 28 (by kernel_rfl)
    obtain rfl : x28 = (.bool false) := e28
    obtain ⟨x32, s32, e32⟩ := hnew 32 (by kernel_rfl)
    obtain rfl : x32 = (.bool false) := e32
    clear hold hnew
    go_simp
    refine hK _ _ (Below.refl _ _) (fun sq hsq => ?_)
    obtain rfl := Option.some.inj hsq
    exact ⟨(show (_ : Value) = (.bool true) from (by first | rfl | (simp [*]; done))), fun h => absurd rfl h⟩
  · intro o aa ww ho hG hold hnew K hK
    obtain rfl := Option.some.inj ho
    obtain ⟨x27, s27, e27⟩ := hnew 27 (by kernel_rfl)
    obtain rfl : x27 = (.bool true) := e27
    obtain ⟨x33, s33, e33⟩ := hnew 33 (by kernel_rfl)
    obtain rfl : x33 = (.bool true) := e33
    clear hold hnew
    go_simp
    refine hK _ _ (Below.refl _ _) (fun sq hsq => ?_)
    obtain rfl := Option.some.inj hsq
    exact ⟨(show (_ : Value) = (.bool true) from (by first | rfl | (simp [*]; done))), fun h => absurd rfl h⟩
  · intro o aa ww ho hG hold hnew K hK
    obtain rfl := Option.some.inj ho
    obtain ⟨x34, s34, e34⟩ := hnew 34 (by kernel_rfl)
    obtain rfl : x34 = (.bool true) := e34
    clear hold hnew
    go_simp
    refine hK _ _ (Below.refl _ _) (fun sq hsq => ?_)
    obtain rfl := Option.some.inj hsq
    exact ⟨(show (_ : Value) = (.bool true) from (by first | rfl | (simp [*]; done))), fun h => absurd rfl h⟩
  · intro o aa ww ho hG hold hnew K hK
    obtain rfl := Option.some.inj ho
    have s9 : aa.tmps[9]? = some (.bool false) := hold 9 rfl
    obtain ⟨x35, s35, e35⟩ := hnew 35 (by kernel_rfl)
    obtain rfl : x35 = (.bool true) := e35
    clear hold hnew
    go_simp
    refine hK _ _ (Below.refl _ _) (fun sq hsq => ?_)
    obtain rfl := Option.some.inj hsq
    exact ⟨(show (_ : Value) = (.bool false) from (by first | rfl | (simp [*]; done))), fun h => absurd rfl h⟩
  · intro o aa ww ho hG hold hnew K hK
    obtain rfl := Option.some.inj ho
    have s11 : aa.tmps[11]? = some (.int .i64 (l : Int)) := hold 11 rfl
    obtain ⟨x35, s35, e35⟩ := hnew 35 (by kernel_rfl)
    obtain rfl : x35 = (.bool true) := e35
    clear hold hnew
    go_simp
    refine hK _ _ (Below.refl _ _) (fun sq hsq => ?_)
    obtain rfl := Option.some.inj hsq
    exact ⟨(show (_ : Value) = (.int .i64 (l : Int)) from (by first | rfl | (simp [*]; done))), fun h => absurd rfl h⟩
  · intro o aa ww ho hG hold hnew K hK
    obtain rfl := Option.some.inj ho
    have s5 : aa.tmps[5]? = some (.pointer (some ⟨w.heap.size + 1, 0, none⟩)) := hold 5 rfl
    obtain ⟨x35, s35, e35⟩ := hnew 35 (by kernel_rfl)
    obtain rfl : x35 = (.bool true) := e35
    clear hold hnew
    have c0 := cellk hG lB hy3
    go_simp
    refine hK _ _ (Below.refl _ _) (fun sq hsq => ?_)
    obtain rfl := Option.some.inj hsq
    exact ⟨(show (_ : Value) = (.int .u8 b) from (by first | rfl | (simp [*]; done))), fun h => absurd rfl h⟩
  · intro o aa ww ho hG hold hnew K hK
    obtain rfl := Option.some.inj ho
    obtain ⟨x35, s35, e35⟩ := hnew 35 (by kernel_rfl)
    obtain rfl : x35 = (.bool true) := e35
    obtain ⟨x38, s38, e38⟩ := hnew 38 (by kernel_rfl)
    obtain rfl : x38 = (.int .u8 b) := e38
    clear hold hnew
    go_simp
    refine hK _ _ (Below.refl _ _) (fun sq hsq => ?_)
    obtain rfl := Option.some.inj hsq
    exact ⟨(show (_ : Value) = (.int .i64 b) from (by first | rfl | (simp [*]; done))), fun h => absurd rfl h⟩
  · intro o aa ww ho hG hold hnew K hK
    obtain rfl := Option.some.inj ho
    obtain ⟨x35, s35, e35⟩ := hnew 35 (by kernel_rfl)
    obtain rfl : x35 = (.bool true) := e35
    obtain ⟨x37, s37, e37⟩ := hnew 37 (by kernel_rfl)
    obtain rfl : x37 = (.int .i64 (l : Int)) := e37
    obtain ⟨x39, s39, e39⟩ := hnew 39 (by kernel_rfl)
    obtain rfl : x39 = (.int .i64 b) := e39
    clear hold hnew
    go_simp
    refine hK _ _ (Below.refl _ _) (fun sq hsq => ?_)
    obtain rfl := Option.some.inj hsq
    exact ⟨(show (_ : Value) = (.int .i64 ((l : Int) + b)) from (by first | rfl | (simp [*]; done))), fun h => absurd rfl h⟩
  · intro o aa ww ho hG hold hnew K hK
    obtain rfl := Option.some.inj ho
    have s0 : aa.tmps[0]? = some (.int .u8 l) := hold 0 rfl
    obtain ⟨x35, s35, e35⟩ := hnew 35 (by kernel_rfl)
    obtain rfl : x35 = (.bool true) := e35
    clear hold hnew
    go_simp
    refine hK _ _ (Below.refl _ _) (fun sq hsq => ?_)
    obtain rfl := Option.some.inj hsq
    exact ⟨(show (_ : Value) = (.int .u8 l) from (by first | rfl | (simp [*]; done))), fun h => absurd rfl h⟩
  · intro o aa ww ho hG hold hnew K hK
    obtain rfl := Option.some.inj ho
    obtain ⟨x35, s35, e35⟩ := hnew 35 (by kernel_rfl)
    obtain rfl : x35 = (.bool true) := e35
    obtain ⟨x41, s41, e41⟩ := hnew 41 (by kernel_rfl)
    obtain rfl : x41 = (.int .u8 l) := e41
    clear hold hnew
    go_simp
    refine hK _ _ (Below.refl _ _) (fun sq hsq => ?_)
    obtain rfl := Option.some.inj hsq
    exact ⟨(show (_ : Value) = (.int .i64 l) from (by first | rfl | (simp [*]; done))), fun h => absurd rfl h⟩
  · intro o aa ww ho hG hold hnew K hK
    obtain rfl := Option.some.inj ho
    obtain ⟨x35, s35, e35⟩ := hnew 35 (by kernel_rfl)
    obtain rfl : x35 = (.bool true) := e35
    obtain ⟨x40, s40, e40⟩ := hnew 40 (by kernel_rfl)
    obtain rfl : x40 = (.int .i64 ((l : Int) + b)) := e40
    obtain ⟨x42, s42, e42⟩ := hnew 42 (by kernel_rfl)
    obtain rfl : x42 = (.int .i64 l) := e42
    clear hold hnew
    go_simp
    refine hK _ _ (Below.refl _ _) (fun sq hsq => ?_)
    obtain rfl := Option.some.inj hsq
    exact ⟨(show (_ : Value) = (.bool false) from (by first | rfl | (simp [*]; done))), fun h => absurd rfl h⟩
  · intro o aa ww ho hG hold hnew K hK
    obtain rfl := Option.some.inj ho
    obtain ⟨x35, s35, e35⟩ := hnew 35 (by kernel_rfl)
    obtain rfl : x35 = (.bool true) := e35
    obtain ⟨x36, s36, e36⟩ := hnew 36 (by kernel_rfl)
    obtain rfl : x36 = (.bool false) := e36
    obtain ⟨x43, s43, e43⟩ := hnew 43 (by kernel_rfl)
    obtain rfl : x43 = (.bool false) := e43
    clear hold hnew
    go_simp
    refine hK _ _ (Below.refl _ _) (fun sq hsq => ?_)
    obtain rfl := Option.some.inj hsq
    exact ⟨(show (_ : Value) = (.bool true) from (by first | rfl | (simp [*]; done))), fun h => absurd rfl h⟩
  · intro o aa ww ho hG hold hnew K hK
    obtain rfl := Option.some.inj ho
    obtain ⟨x35, s35, e35⟩ := hnew 35 (by kernel_rfl)
    obtain rfl : x35 = (.bool true) := e35
    obtain ⟨x44, s44, e44⟩ := hnew 44 (by kernel_rfl)
    obtain rfl : x44 = (.bool true) := e44
    clear hold hnew
    go_simp
    refine hK _ _ (Below.refl _ _) (fun sq hsq => ?_)
    obtain rfl := Option.some.inj hsq
    exact ⟨(show (_ : Value) = (.bool true) from (by first | rfl | (simp [*]; done))), fun h => absurd rfl h⟩
  · intro o aa ww ho hG hold hnew K hK
    obtain rfl := Option.some.inj ho
    obtain ⟨x45, s45, e45⟩ := hnew 45 (by kernel_rfl)
    obtain rfl : x45 = (.bool true) := e45
    clear hold hnew
    go_simp
    refine hK _ _ (Below.refl _ _) (fun sq hsq => ?_)
    obtain rfl := Option.some.inj hsq
    exact ⟨(show (_ : Value) = (.bool true) from (by first | rfl | (simp [*]; done))), fun h => absurd rfl h⟩
  · intro o aa ww ho hG hold hnew K hK
    obtain rfl := Option.some.inj ho
    have s7 : aa.tmps[7]? = some (.pointer (some ⟨w1.heap.size + 1, 0, none⟩)) := hold 7 rfl
    obtain ⟨x46, s46, e46⟩ := hnew 46 (by kernel_rfl)
    obtain rfl : x46 = (.bool true) := e46
    clear hold hnew
    have c0 := cellk hG lV hv3
    go_simp
    refine hK _ _ (Below.refl _ _) (fun sq hsq => ?_)
    obtain rfl := Option.some.inj hsq
    exact ⟨(show (_ : Value) = (.pointer (some ⟨w1.heap.size, 0, none⟩)) from (by first | rfl | (simp [*]; done))), fun h => absurd rfl h⟩
  · intro o aa ww ho hG hold hnew K hK
    obtain rfl := Option.some.inj ho
    obtain ⟨x46, s46, e46⟩ := hnew 46 (by kernel_rfl)
    obtain rfl : x46 = (.bool true) := e46
    obtain ⟨x47, s47, e47⟩ := hnew 47 (by kernel_rfl)
    obtain rfl : x47 = (.pointer (some ⟨w1.heap.size, 0, none⟩)) := e47
    clear hold hnew
    have c0 := cellk hG lP g1
    go_simp
    first | (refine (used_any w1.heap.size (l : Int) _ c0).mono ?_; rintro e' w4 ⟨rfl, rfl⟩; have hbb := Below.refl w4.heap.size w4; refine hK _ _ hbb (fun sq hsq => ?_)) | refine hK _ _ (Below.refl _ _) (fun sq hsq => ?_)
    obtain rfl := Option.some.inj hsq
    exact ⟨(show (_ : Value) = (.int .i64 (l : Int)) from (by first | rfl | (simp [*]; done))), fun h => absurd rfl h⟩
  · intro o aa ww ho hG hold hnew K hK
    obtain rfl := Option.some.inj ho
    have s11 : aa.tmps[11]? = some (.int .i64 (l : Int)) := hold 11 rfl
    obtain ⟨x46, s46, e46⟩ := hnew 46 (by kernel_rfl)
    obtain rfl : x46 = (.bool true) := e46
    clear hold hnew
    go_simp
    refine hK _ _ (Below.refl _ _) (fun sq hsq => ?_)
    obtain rfl := Option.some.inj hsq
    exact ⟨(show (_ : Value) = (.int .i64 (l : Int)) from (by first | rfl | (simp [*]; done))), fun h => absurd rfl h⟩
  · intro o aa ww ho hG hold hnew K hK
    obtain rfl := Option.some.inj ho
    have s5 : aa.tmps[5]? = some (.pointer (some ⟨w.heap.size + 1, 0, none⟩)) := hold 5 rfl
    obtain ⟨x46, s46, e46⟩ := hnew 46 (by kernel_rfl)
    obtain rfl : x46 = (.bool true) := e46
    clear hold hnew
    have c0 := cellk hG lB hy3
    go_simp
    refine hK _ _ (Below.refl _ _) (fun sq hsq => ?_)
    obtain rfl := Option.some.inj hsq
    exact ⟨(show (_ : Value) = (.int .u8 b) from (by first | rfl | (simp [*]; done))), fun h => absurd rfl h⟩
  · intro o aa ww ho hG hold hnew K hK
    obtain rfl := Option.some.inj ho
    obtain ⟨x46, s46, e46⟩ := hnew 46 (by kernel_rfl)
    obtain rfl : x46 = (.bool true) := e46
    obtain ⟨x50, s50, e50⟩ := hnew 50 (by kernel_rfl)
    obtain rfl : x50 = (.int .u8 b) := e50
    clear hold hnew
    go_simp
    refine hK _ _ (Below.refl _ _) (fun sq hsq => ?_)
    obtain rfl := Option.some.inj hsq
    exact ⟨(show (_ : Value) = (.int .i64 b) from (by first | rfl | (simp [*]; done))), fun h => absurd rfl h⟩
  · intro o aa ww ho hG hold hnew K hK
    obtain rfl := Option.some.inj ho
    obtain ⟨x46, s46, e46⟩ := hnew 46 (by kernel_rfl)
    obtain rfl : x46 = (.bool true) := e46
    obtain ⟨x49, s49, e49⟩ := hnew 49 (by kernel_rfl)
    obtain rfl : x49 = (.int .i64 (l : Int)) := e49
    obtain ⟨x51, s51, e51⟩ := hnew 51 (by kernel_rfl)
    obtain rfl : x51 = (.int .i64 b) := e51
    clear hold hnew
    go_simp
    refine hK _ _ (Below.refl _ _) (fun sq hsq => ?_)
    obtain rfl := Option.some.inj hsq
    exact ⟨(show (_ : Value) = (.int .i64 ((l : Int) + b)) from (by first | rfl | (simp [*]; done))), fun h => absurd rfl h⟩
  · intro o aa ww ho hG hold hnew K hK
    obtain rfl := Option.some.inj ho
    have s0 : aa.tmps[0]? = some (.int .u8 l) := hold 0 rfl
    obtain ⟨x46, s46, e46⟩ := hnew 46 (by kernel_rfl)
    obtain rfl : x46 = (.bool true) := e46
    clear hold hnew
    go_simp
    refine hK _ _ (Below.refl _ _) (fun sq hsq => ?_)
    obtain rfl := Option.some.inj hsq
    exact ⟨(show (_ : Value) = (.int .u8 l) from (by first | rfl | (simp [*]; done))), fun h => absurd rfl h⟩
  · intro o aa ww ho hG hold hnew K hK
    obtain rfl := Option.some.inj ho
    obtain ⟨x46, s46, e46⟩ := hnew 46 (by kernel_rfl)
    obtain rfl : x46 = (.bool true) := e46
    obtain ⟨x53, s53, e53⟩ := hnew 53 (by kernel_rfl)
    obtain rfl : x53 = (.int .u8 l) := e53
    clear hold hnew
    go_simp
    refine hK _ _ (Below.refl _ _) (fun sq hsq => ?_)
    obtain rfl := Option.some.inj hsq
    exact ⟨(show (_ : Value) = (.int .i64 l) from (by first | rfl | (simp [*]; done))), fun h => absurd rfl h⟩
  · intro o aa ww ho hG hold hnew K hK
    obtain rfl := Option.some.inj ho
    obtain ⟨x46, s46, e46⟩ := hnew 46 (by kernel_rfl)
    obtain rfl : x46 = (.bool true) := e46
    obtain ⟨x52, s52, e52⟩ := hnew 52 (by kernel_rfl)
    obtain rfl : x52 = (.int .i64 ((l : Int) + b)) := e52
    obtain ⟨x54, s54, e54⟩ := hnew 54 (by kernel_rfl)
    obtain rfl : x54 = (.int .i64 l) := e54
    clear hold hnew
    go_simp
    refine hK _ _ (Below.refl _ _) (fun sq hsq => ?_)
    obtain rfl := Option.some.inj hsq
    exact ⟨(show (_ : Value) = (.int .i64 (l : Int)) from (by first | rfl | (simp [*]; done))), fun h => absurd rfl h⟩
  · intro o aa ww ho hG hold hnew K hK
    obtain rfl := Option.some.inj ho
    obtain ⟨x46, s46, e46⟩ := hnew 46 (by kernel_rfl)
    obtain rfl : x46 = (.bool true) := e46
    obtain ⟨x48, s48, e48⟩ := hnew 48 (by kernel_rfl)
    obtain rfl : x48 = (.int .i64 (l : Int)) := e48
    obtain ⟨x55, s55, e55⟩ := hnew 55 (by kernel_rfl)
    obtain rfl : x55 = (.int .i64 (l : Int)) := e55
    clear hold hnew
    go_simp
    refine hK _ _ (Below.refl _ _) (fun sq hsq => ?_)
    obtain rfl := Option.some.inj hsq
    exact ⟨(show (_ : Value) = (.bool true) from (by first | rfl | (simp [*]; done))), fun h => absurd rfl h⟩
  · intro o aa ww ho hG hold hnew K hK
    obtain rfl := Option.some.inj ho
    obtain ⟨x46, s46, e46⟩ := hnew 46 (by kernel_rfl)
    obtain rfl : x46 = (.bool true) := e46
    obtain ⟨x56, s56, e56⟩ := hnew 56 (by kernel_rfl)
    obtain rfl : x56 = (.bool true) := e56
    clear hold hnew
    go_simp
    refine hK _ _ (Below.refl _ _) (fun sq hsq => ?_)
    obtain rfl := Option.some.inj hsq
    exact ⟨(show (_ : Value) = (.bool true) from (by first | rfl | (simp [*]; done))), fun h => absurd rfl h⟩
  · intro U ww hbr hU hI
    have u26 : U 26 = (.bool true) := hU 26 rfl
    have u27 : U 27 = (.bool true) := hU 27 rfl
    have u28 : U 28 = (.bool false) := hU 28 rfl
    have u29 : U 29 = (.int .i64 (l : Int)) := hU 29 rfl
    have u30 : U 30 = (.int .u8 a) := hU 30 rfl
    have u31 : U 31 = (.int .i64 a) := hU 31 rfl
    have u32 : U 32 = (.bool false) := hU 32 rfl
    have u33 : U 33 = (.bool true) := hU 33 rfl
    have u34 : U 34 = (.bool true) := hU 34 rfl
    have u35 : U 35 = (.bool true) := hU 35 rfl
    have u36 : U 36 = (.bool false) := hU 36 rfl
    have u37 : U 37 = (.int .i64 (l : Int)) := hU 37 rfl
    have u38 : U 38 = (.int .u8 b) := hU 38 rfl
    have u39 : U 39 = (.int .i64 b) := hU 39 rfl
    have u40 : U 40 = (.int .i64 ((l : Int) + b)) := hU 40 rfl
    have u41 : U 41 = (.int .u8 l) := hU 41 rfl
    have u42 : U 42 = (.int .i64 l) := hU 42 rfl
    have u43 : U 43 = (.bool false) := hU 43 rfl
    have u44 : U 44 = (.bool true) := hU 44 rfl
    have u45 : U 45 = (.bool true) := hU 45 rfl
    have u46 : U 46 = (.bool true) := hU 46 rfl
    have u47 : U 47 = (.pointer (some ⟨w1.heap.size, 0, none⟩)) := hU 47 rfl
    have u48 : U 48 = (.int .i64 (l : Int)) := hU 48 rfl
    have u49 : U 49 = (.int .i64 (l : Int)) := hU 49 rfl
    have u50 : U 50 = (.int .u8 b) := hU 50 rfl
    have u51 : U 51 = (.int .i64 b) := hU 51 rfl
    have u52 : U 52 = (.int .i64 ((l : Int) + b)) := hU 52 rfl
    have u53 : U 53 = (.int .u8 l) := hU 53 rfl
    have u54 : U 54 = (.int .i64 l) := hU 54 rfl
    have u55 : U 55 = (.int .i64 (l : Int)) := hU 55 rfl
    have u56 : U 56 = (.bool true) := hU 56 rfl
    have u57 : U 57 = (.bool true) := hU 57 rfl
    clear hU hI
    simp only [setAll, dsts, List.take_succ_cons, List.take_zero, List.filterMap_cons, List.filterMap_nil, List.drop_succ_cons, List.drop_zero, List.setIfInBounds_toArray, List.set_cons_succ, List.set_cons_zero, u26, u27, u28, u29, u30, u31, u32, u33, u34, u35, u36, u37, u38, u39, u40, u41, u42, u43, u44, u45, u46, u47, u48, u49, u50, u51, u52, u53, u54, u55, u56, u57]
    clear u26 u27 u28 u29 u30 u31 u32 u33 u34 u35 u36 u37 u38 u39 u40 u41 u42 u43 u44 u45 u46 u47 u48 u49 u50 u51 u52 u53 u54 u55 u56 u57
    go_wp2_with (fail)
    go_ret
    refine ⟨by first | (simp; done) | (simp; omega), ?_⟩
    have k1 : Below w1.heap.size w1 _ := (((((Below.refl _ _).alloc (Nat.le_refl _) _).alloc (by simp) _).alloc (by simp; omega) _).alloc (by simp; omega) _).trans ((ho3.mono (by simp; omega)).below (by simp; omega))
    exact hb1'.trans ((k1.trans (hbr.mono (Nat.le_of_lt lP))).mono (by omega))
theorem powerNests_i (x y z : Int) (w : World) (hn : NoneLaid w) (h1 : 0 ≤ x ∧ x < 256) (h2 : 0 ≤ y ∧ y < 256) (h3 : 0 ≤ z ∧ z < 256) :
    Calls Tryd.prog 5 #[.int .u8 x, .int .u8 y, .int .u8 z] w fun e w' => e = .returned (.bool true) ∧ Below w.heap.size w w' := by
  obtain ⟨l, rfl⟩ := Int.eq_ofNat_of_zero_le h1.1
  obtain ⟨a, rfl⟩ := Int.eq_ofNat_of_zero_le h2.1
  obtain ⟨b, rfl⟩ := Int.eq_ofNat_of_zero_le h3.1
  by_cases hL1 : a ≤ l
  · by_cases hL2 : a + b ≤ l
    · exact powerNestsA l a b w hn (by omega) (by omega) (by omega) hL1 hL2
    · exact powerNestsB l a b w hn (by omega) (by omega) (by omega) hL1 (by omega)
  · by_cases hL2 : b = 0
    · exact powerNestsC l a b w hn (by omega) (by omega) (by omega) (by omega) hL2
    · exact powerNestsD l a b w hn (by omega) (by omega) (by omega) (by omega) (by omega)
end Go.Proofs.YtccmalpbejednaaDoor
