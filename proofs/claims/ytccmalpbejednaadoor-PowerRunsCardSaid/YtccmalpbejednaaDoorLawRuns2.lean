/- PowerRuns: the call answers true and leaves what was there as it was. Condition: the package's variable 'none' holds what its text lays. -/
import Derived.Test.YtccmalpbejednaaDoorLawRuns
namespace Go.Proofs.YtccmalpbejednaaDoor
open Go Go.Proofs Go.RowKit

theorem newCell {w : World} {t : TypeId} {v : Value} {B : Nat} (hB : w.heap.size = B) : (w.alloc (.cells #[v] t)).cell? ⟨B, 0, none⟩ = some v := by
  subst hB
  simp
theorem newFrz {w : World} {t : TypeId} {v : Value} {B : Nat} (hB : w.heap.size = B) : (w.alloc (.cells #[v] t)).frozen? ⟨B, 0, none⟩ = false := by
  subst hB
  simp
set_option maxHeartbeats 4000000 in
theorem powerRunsA (L : Int) (n m : Nat) (w : World) (hn : NoneLaid w) (hL0 : -9223372036854775808 ≤ L) (hL9 : L < 9223372036854775808) (hnn : n < 256) (hm : m < 256) (hL : L < 0) :
    Calls Tryd.prog 4 #[.int .i64 L, .int .u8 n, .int .u8 m] w fun e w' => e = .returned (.bool true) ∧ Below w.heap.size w w' := by
  have V1 := Lib.hid (show fitB L 0 n = true from decide_eq_true (by omega))
  have Z1 := Lib.hid (show useF L 0 n = (n : Int) by unfold useF; rw [V1.out]; simp)
  have V2 := Lib.hid (show fitB L (n : Int) m = true from decide_eq_true (by omega))
  have Z2 := Lib.hid (show useF L (n : Int) m = ((n : Int) + m) by unfold useF; rw [V2.out]; simp)
  go_enter Tryd.func4, Tryd.ntmps4
  go_wp2_with (first
    | (go_at_call 22; refine (awake3_any _ (hn.next (by repeat (first | exact Below.refl _ _ | assumption | refine Below.drew ?_ | refine Below.setCell ?_ (by first | (simp; done) | omega | (simp; omega)) _ | refine Below.alloc ?_ (by first | (simp; done) | omega | (simp; omega)) _ | refine bdrewN ?_ _ | refine bstep ?_ (by assumption) (by first | (simp; done) | omega | (simp; omega)))))).mono ?_; rintro e w1 ⟨rfl, hb1⟩; have hz1 := hb1.size; simp at hz1; have hx1 : w1.cell? ⟨w.heap.size, 0, none⟩ = some (.int .u8 n) := cellk hb1 (by simp; omega) (by go_simp); have hy1 : w1.cell? ⟨w.heap.size + 1, 0, none⟩ = some (.int .u8 m) := cellk hb1 (by simp) (by first | (simp; done) | (simp; omega)); have hb1' : Below w.heap.size w w1 := (by repeat (first | exact Below.refl _ _ | assumption | refine Below.drew ?_ | refine Below.setCell ?_ (by first | (simp; done) | omega | (simp; omega)) _ | refine Below.alloc ?_ (by first | (simp; done) | omega | (simp; omega)) _ | refine bdrewN ?_ _ | refine bstep ?_ (by assumption) (by first | (simp; done) | omega | (simp; omega)))))
    | (go_at_call 23; refine (new_any _ _).mono ?_; rintro e w2 ⟨rfl, rfl⟩)
    | (go_at_call 27; refine (used_any _ _ _ (by first | exact HB.out.h1 | exact HA.out.h1)).mono ?_; rintro e w5 ⟨rfl, rfl⟩)
    | (go_at_call 24; have HX := HA; refine (run28 (w.heap.size + 1) (w1.heap.size + 1) w1.heap.size m L ((n : Int)) _ _ _ V2.out Z2.out hm hy3 hv3 HA.out (by omega) (by omega) (by omega) (by omega)).mono ?_; rintro e w4 ⟨rfl, hp4, ho4⟩; have HB := Lib.hid hp4; clear hp4; have hx4 := ho4.cell (p := ⟨w.heap.size, 0, none⟩) (by show w.heap.size < _; omega) (by show w.heap.size ≠ w1.heap.size; omega) hx3; have hy4 := ho4.cell (p := ⟨w.heap.size + 1, 0, none⟩) (by show w.heap.size + 1 < _; omega) (by show w.heap.size + 1 ≠ w1.heap.size; omega) hy3; have hv4 := ho4.cell (p := ⟨w1.heap.size + 1, 0, none⟩) (by show w1.heap.size + 1 < _; omega) (by show w1.heap.size + 1 ≠ w1.heap.size; omega) hv3)
    | (go_at_call 24; refine (runDone w.heap.size (w1.heap.size + 1) (w1.heap.size + 1 + 1) w1.heap.size n L 0 _ _ _ V1.out Z1.out hnn (calloc (calloc (calloc hx1 _) _) _) (calloc (by simp) _) (((powNew L w1).alloc _).alloc _) (newCell (by simp)) (newFrz (by simp)) (by omega) (by omega) (by omega) (by omega) (by omega) (by omega)).mono ?_; rintro e w3 ⟨rfl, hp3, hd3, ho3⟩; have HA := Lib.hid hp3; clear hp3; have hz3 := ho3.size; (try simp at hz3); (try simp only [Int.sub_zero] at hd3); have hx3 := ho3.cell (p := ⟨w.heap.size, 0, none⟩) (by first | (simp; done) | (simp; omega) | omega) (by show w.heap.size ≠ w1.heap.size; omega) (by show w.heap.size ≠ w1.heap.size + 1 + 1; omega) (calloc (calloc (calloc hx1 _) _) _); have hy3 := ho3.cell (p := ⟨w.heap.size + 1, 0, none⟩) (by first | (simp; done) | (simp; omega) | omega) (by show w.heap.size + 1 ≠ w1.heap.size; omega) (by show w.heap.size + 1 ≠ w1.heap.size + 1 + 1; omega) (calloc (calloc (calloc hy1 _) _) _); have hv3 : w3.cell? ⟨w1.heap.size + 1, 0, none⟩ = some (.pointer (some ⟨w1.heap.size, 0, none⟩)) := ho3.cell (p := ⟨w1.heap.size + 1, 0, none⟩) (by first | (simp; done) | (simp; omega) | omega) (by show w1.heap.size + 1 ≠ w1.heap.size; omega) (by show w1.heap.size + 1 ≠ w1.heap.size + 1 + 1; omega) (calloc (by simp) _)))
  go_ret
  refine ⟨by first | (simp; done) | (simp; omega), ?_⟩
  have g1 : Below w1.heap.size w1 _ := ((((Below.refl _ _).alloc (Nat.le_refl _) _).alloc (by simp) _).alloc (by simp; omega) _).trans ((ho3.mono (by simp; omega)).below (Nat.le_refl _) (by omega))
  exact hb1'.trans ((g1.trans ((ho4.mono (by omega)).below (Nat.le_refl _))).mono (by omega))
set_option maxHeartbeats 4000000 in
theorem powerRunsB (L : Int) (n m : Nat) (w : World) (hn : NoneLaid w) (hL0 : -9223372036854775808 ≤ L) (hL9 : L < 9223372036854775808) (hnn : n < 256) (hm : m < 256) (hL : 0 ≤ L) (hL1 : n ≤ L) (hL2 : (n : Int) + m ≤ L) :
    Calls Tryd.prog 4 #[.int .i64 L, .int .u8 n, .int .u8 m] w fun e w' => e = .returned (.bool true) ∧ Below w.heap.size w w' := by
  have V1 := Lib.hid (show fitB L 0 n = true from decide_eq_true (by omega))
  have Z1 := Lib.hid (show useF L 0 n = (n : Int) by unfold useF; rw [V1.out]; simp)
  have V2 := Lib.hid (show fitB L (n : Int) m = true from decide_eq_true (by omega))
  have Z2 := Lib.hid (show useF L (n : Int) m = ((n : Int) + m) by unfold useF; rw [V2.out]; simp)
  have q1 : min (n : Int) L = n := Int.min_eq_left hL1
  have q2 : min (m : Int) (L - n) = m := Int.min_eq_left (by omega)
  go_enter Tryd.func4, Tryd.ntmps4
  go_wp2_with (first
    | (go_at_call 22; refine (awake3_any _ (hn.next (by repeat (first | exact Below.refl _ _ | assumption | refine Below.drew ?_ | refine Below.setCell ?_ (by first | (simp; done) | omega | (simp; omega)) _ | refine Below.alloc ?_ (by first | (simp; done) | omega | (simp; omega)) _ | refine bdrewN ?_ _ | refine bstep ?_ (by assumption) (by first | (simp; done) | omega | (simp; omega)))))).mono ?_; rintro e w1 ⟨rfl, hb1⟩; have hz1 := hb1.size; simp at hz1; have hx1 : w1.cell? ⟨w.heap.size, 0, none⟩ = some (.int .u8 n) := cellk hb1 (by simp; omega) (by go_simp); have hy1 : w1.cell? ⟨w.heap.size + 1, 0, none⟩ = some (.int .u8 m) := cellk hb1 (by simp) (by first | (simp; done) | (simp; omega)); have hb1' : Below w.heap.size w w1 := (by repeat (first | exact Below.refl _ _ | assumption | refine Below.drew ?_ | refine Below.setCell ?_ (by first | (simp; done) | omega | (simp; omega)) _ | refine Below.alloc ?_ (by first | (simp; done) | omega | (simp; omega)) _ | refine bdrewN ?_ _ | refine bstep ?_ (by assumption) (by first | (simp; done) | omega | (simp; omega)))))
    | (go_at_call 23; refine (new_any _ _).mono ?_; rintro e w2 ⟨rfl, rfl⟩)
    | (go_at_call 27; refine (used_any _ _ _ (by first | exact HB.out.h1 | exact HA.out.h1)).mono ?_; rintro e w5 ⟨rfl, rfl⟩)
    | (go_at_call 24; have HX := HA; refine (run28 (w.heap.size + 1) (w1.heap.size + 1) w1.heap.size m L ((n : Int)) _ _ _ V2.out Z2.out hm hy3 hv3 HA.out (by omega) (by omega) (by omega) (by omega)).mono ?_; rintro e w4 ⟨rfl, hp4, ho4⟩; have HB := Lib.hid hp4; clear hp4; have hx4 := ho4.cell (p := ⟨w.heap.size, 0, none⟩) (by show w.heap.size < _; omega) (by show w.heap.size ≠ w1.heap.size; omega) hx3; have hy4 := ho4.cell (p := ⟨w.heap.size + 1, 0, none⟩) (by show w.heap.size + 1 < _; omega) (by show w.heap.size + 1 ≠ w1.heap.size; omega) hy3; have hv4 := ho4.cell (p := ⟨w1.heap.size + 1, 0, none⟩) (by show w1.heap.size + 1 < _; omega) (by show w1.heap.size + 1 ≠ w1.heap.size; omega) hv3)
    | (go_at_call 24; refine (runDone w.heap.size (w1.heap.size + 1) (w1.heap.size + 1 + 1) w1.heap.size n L 0 _ _ _ V1.out Z1.out hnn (calloc (calloc (calloc hx1 _) _) _) (calloc (by simp) _) (((powNew L w1).alloc _).alloc _) (newCell (by simp)) (newFrz (by simp)) (by omega) (by omega) (by omega) (by omega) (by omega) (by omega)).mono ?_; rintro e w3 ⟨rfl, hp3, hd3, ho3⟩; have HA := Lib.hid hp3; clear hp3; have hz3 := ho3.size; (try simp at hz3); (try simp only [Int.sub_zero] at hd3); have hx3 := ho3.cell (p := ⟨w.heap.size, 0, none⟩) (by first | (simp; done) | (simp; omega) | omega) (by show w.heap.size ≠ w1.heap.size; omega) (by show w.heap.size ≠ w1.heap.size + 1 + 1; omega) (calloc (calloc (calloc hx1 _) _) _); have hy3 := ho3.cell (p := ⟨w.heap.size + 1, 0, none⟩) (by first | (simp; done) | (simp; omega) | omega) (by show w.heap.size + 1 ≠ w1.heap.size; omega) (by show w.heap.size + 1 ≠ w1.heap.size + 1 + 1; omega) (calloc (calloc (calloc hy1 _) _) _); have hv3 : w3.cell? ⟨w1.heap.size + 1, 0, none⟩ = some (.pointer (some ⟨w1.heap.size, 0, none⟩)) := ho3.cell (p := ⟨w1.heap.size + 1, 0, none⟩) (by first | (simp; done) | (simp; omega) | omega) (by show w1.heap.size + 1 ≠ w1.heap.size; omega) (by show w1.heap.size + 1 ≠ w1.heap.size + 1 + 1; omega) (calloc (by simp) _)))
  go_ret
  refine ⟨by first | (simp; done) | (simp; omega), ?_⟩
  have g1 : Below w1.heap.size w1 _ := ((((Below.refl _ _).alloc (Nat.le_refl _) _).alloc (by simp) _).alloc (by simp; omega) _).trans ((ho3.mono (by simp; omega)).below (Nat.le_refl _) (by omega))
  exact hb1'.trans ((g1.trans ((ho4.mono (by omega)).below (Nat.le_refl _))).mono (by omega))
set_option maxHeartbeats 4000000 in
theorem powerRunsC (L : Int) (n m : Nat) (w : World) (hn : NoneLaid w) (hL0 : -9223372036854775808 ≤ L) (hL9 : L < 9223372036854775808) (hnn : n < 256) (hm : m < 256) (hL : 0 ≤ L) (hL1 : n ≤ L) (hL2 : L < (n : Int) + m) :
    Calls Tryd.prog 4 #[.int .i64 L, .int .u8 n, .int .u8 m] w fun e w' => e = .returned (.bool true) ∧ Below w.heap.size w w' := by
  have V1 := Lib.hid (show fitB L 0 n = true from decide_eq_true (by omega))
  have Z1 := Lib.hid (show useF L 0 n = (n : Int) by unfold useF; rw [V1.out]; simp)
  have V2 := Lib.hid (show fitB L (n : Int) m = false from decide_eq_false (by omega))
  have Z2 := Lib.hid (show useF L (n : Int) m = L by unfold useF; rw [V2.out]; simp)
  have q1 : min (n : Int) L = n := Int.min_eq_left hL1
  have q2 : min (m : Int) (L - n) = L - n := Int.min_eq_right (by omega)
  have q3 : ¬ L - (n : Int) = m := by omega
  go_enter Tryd.func4, Tryd.ntmps4
  go_wp2_with (first
    | (go_at_call 22; refine (awake3_any _ (hn.next (by repeat (first | exact Below.refl _ _ | assumption | refine Below.drew ?_ | refine Below.setCell ?_ (by first | (simp; done) | omega | (simp; omega)) _ | refine Below.alloc ?_ (by first | (simp; done) | omega | (simp; omega)) _ | refine bdrewN ?_ _ | refine bstep ?_ (by assumption) (by first | (simp; done) | omega | (simp; omega)))))).mono ?_; rintro e w1 ⟨rfl, hb1⟩; have hz1 := hb1.size; simp at hz1; have hx1 : w1.cell? ⟨w.heap.size, 0, none⟩ = some (.int .u8 n) := cellk hb1 (by simp; omega) (by go_simp); have hy1 : w1.cell? ⟨w.heap.size + 1, 0, none⟩ = some (.int .u8 m) := cellk hb1 (by simp) (by first | (simp; done) | (simp; omega)); have hb1' : Below w.heap.size w w1 := (by repeat (first | exact Below.refl _ _ | assumption | refine Below.drew ?_ | refine Below.setCell ?_ (by first | (simp; done) | omega | (simp; omega)) _ | refine Below.alloc ?_ (by first | (simp; done) | omega | (simp; omega)) _ | refine bdrewN ?_ _ | refine bstep ?_ (by assumption) (by first | (simp; done) | omega | (simp; omega)))))
    | (go_at_call 23; refine (new_any _ _).mono ?_; rintro e w2 ⟨rfl, rfl⟩)
    | (go_at_call 27; refine (used_any _ _ _ (by first | exact HB.out.h1 | exact HA.out.h1)).mono ?_; rintro e w5 ⟨rfl, rfl⟩)
    | (go_at_call 24; have HX := HA; refine (run28 (w.heap.size + 1) (w1.heap.size + 1) w1.heap.size m L ((n : Int)) _ _ _ V2.out Z2.out hm hy3 hv3 HA.out (by omega) (by omega) (by omega) (by omega)).mono ?_; rintro e w4 ⟨rfl, hp4, ho4⟩; have HB := Lib.hid hp4; clear hp4; have hx4 := ho4.cell (p := ⟨w.heap.size, 0, none⟩) (by show w.heap.size < _; omega) (by show w.heap.size ≠ w1.heap.size; omega) hx3; have hy4 := ho4.cell (p := ⟨w.heap.size + 1, 0, none⟩) (by show w.heap.size + 1 < _; omega) (by show w.heap.size + 1 ≠ w1.heap.size; omega) hy3; have hv4 := ho4.cell (p := ⟨w1.heap.size + 1, 0, none⟩) (by show w1.heap.size + 1 < _; omega) (by show w1.heap.size + 1 ≠ w1.heap.size; omega) hv3)
    | (go_at_call 24; refine (runDone w.heap.size (w1.heap.size + 1) (w1.heap.size + 1 + 1) w1.heap.size n L 0 _ _ _ V1.out Z1.out hnn (calloc (calloc (calloc hx1 _) _) _) (calloc (by simp) _) (((powNew L w1).alloc _).alloc _) (newCell (by simp)) (newFrz (by simp)) (by omega) (by omega) (by omega) (by omega) (by omega) (by omega)).mono ?_; rintro e w3 ⟨rfl, hp3, hd3, ho3⟩; have HA := Lib.hid hp3; clear hp3; have hz3 := ho3.size; (try simp at hz3); (try simp only [Int.sub_zero] at hd3); have hx3 := ho3.cell (p := ⟨w.heap.size, 0, none⟩) (by first | (simp; done) | (simp; omega) | omega) (by show w.heap.size ≠ w1.heap.size; omega) (by show w.heap.size ≠ w1.heap.size + 1 + 1; omega) (calloc (calloc (calloc hx1 _) _) _); have hy3 := ho3.cell (p := ⟨w.heap.size + 1, 0, none⟩) (by first | (simp; done) | (simp; omega) | omega) (by show w.heap.size + 1 ≠ w1.heap.size; omega) (by show w.heap.size + 1 ≠ w1.heap.size + 1 + 1; omega) (calloc (calloc (calloc hy1 _) _) _); have hv3 : w3.cell? ⟨w1.heap.size + 1, 0, none⟩ = some (.pointer (some ⟨w1.heap.size, 0, none⟩)) := ho3.cell (p := ⟨w1.heap.size + 1, 0, none⟩) (by first | (simp; done) | (simp; omega) | omega) (by show w1.heap.size + 1 ≠ w1.heap.size; omega) (by show w1.heap.size + 1 ≠ w1.heap.size + 1 + 1; omega) (calloc (by simp) _)))
  go_ret
  refine ⟨by first | (simp; done) | (simp; omega), ?_⟩
  have g1 : Below w1.heap.size w1 _ := ((((Below.refl _ _).alloc (Nat.le_refl _) _).alloc (by simp) _).alloc (by simp; omega) _).trans ((ho3.mono (by simp; omega)).below (Nat.le_refl _) (by omega))
  exact hb1'.trans ((g1.trans ((ho4.mono (by omega)).below (Nat.le_refl _))).mono (by omega))
set_option maxHeartbeats 4000000 in
theorem powerRunsD (L : Int) (n m : Nat) (w : World) (hn : NoneLaid w) (hL0 : -9223372036854775808 ≤ L) (hL9 : L < 9223372036854775808) (hnn : n < 256) (hm : m < 256) (hL : 0 ≤ L) (hL1 : L < n) (hL2 : m = 0) :
    Calls Tryd.prog 4 #[.int .i64 L, .int .u8 n, .int .u8 m] w fun e w' => e = .returned (.bool true) ∧ Below w.heap.size w w' := by
  have V1 := Lib.hid (show fitB L 0 n = false from decide_eq_false (by omega))
  have Z1 := Lib.hid (show useF L 0 n = L by unfold useF; rw [V1.out]; simp)
  have V2 := Lib.hid (show fitB L L m = true from decide_eq_true (by omega))
  have Z2 := Lib.hid (show useF L L m = L by unfold useF; rw [V2.out]; simp; omega)
  have q6 : (m : Int) = 0 := by omega
  have q1 : min (n : Int) L = L := Int.min_eq_right (by omega)
  have q3 : ¬ L = (n : Int) := by omega
  go_enter Tryd.func4, Tryd.ntmps4
  go_wp2_with (first
    | (go_at_call 22; refine (awake3_any _ (hn.next (by repeat (first | exact Below.refl _ _ | assumption | refine Below.drew ?_ | refine Below.setCell ?_ (by first | (simp; done) | omega | (simp; omega)) _ | refine Below.alloc ?_ (by first | (simp; done) | omega | (simp; omega)) _ | refine bdrewN ?_ _ | refine bstep ?_ (by assumption) (by first | (simp; done) | omega | (simp; omega)))))).mono ?_; rintro e w1 ⟨rfl, hb1⟩; have hz1 := hb1.size; simp at hz1; have hx1 : w1.cell? ⟨w.heap.size, 0, none⟩ = some (.int .u8 n) := cellk hb1 (by simp; omega) (by go_simp); have hy1 : w1.cell? ⟨w.heap.size + 1, 0, none⟩ = some (.int .u8 m) := cellk hb1 (by simp) (by first | (simp; done) | (simp; omega)); have hb1' : Below w.heap.size w w1 := (by repeat (first | exact Below.refl _ _ | assumption | refine Below.drew ?_ | refine Below.setCell ?_ (by first | (simp; done) | omega | (simp; omega)) _ | refine Below.alloc ?_ (by first | (simp; done) | omega | (simp; omega)) _ | refine bdrewN ?_ _ | refine bstep ?_ (by assumption) (by first | (simp; done) | omega | (simp; omega)))))
    | (go_at_call 23; refine (new_any _ _).mono ?_; rintro e w2 ⟨rfl, rfl⟩)
    | (go_at_call 27; refine (used_any _ _ _ (by first | exact HB.out.h1 | exact HA.out.h1)).mono ?_; rintro e w5 ⟨rfl, rfl⟩)
    | (go_at_call 24; have HX := HA; refine (run28 (w.heap.size + 1) (w1.heap.size + 1) w1.heap.size m L (L) _ _ _ V2.out Z2.out hm hy3 hv3 HA.out (by omega) (by omega) (by omega) (by omega)).mono ?_; rintro e w4 ⟨rfl, hp4, ho4⟩; have HB := Lib.hid hp4; clear hp4; have hx4 := ho4.cell (p := ⟨w.heap.size, 0, none⟩) (by show w.heap.size < _; omega) (by show w.heap.size ≠ w1.heap.size; omega) hx3; have hy4 := ho4.cell (p := ⟨w.heap.size + 1, 0, none⟩) (by show w.heap.size + 1 < _; omega) (by show w.heap.size + 1 ≠ w1.heap.size; omega) hy3; have hv4 := ho4.cell (p := ⟨w1.heap.size + 1, 0, none⟩) (by show w1.heap.size + 1 < _; omega) (by show w1.heap.size + 1 ≠ w1.heap.size; omega) hv3)
    | (go_at_call 24; refine (runDone w.heap.size (w1.heap.size + 1) (w1.heap.size + 1 + 1) w1.heap.size n L 0 _ _ _ V1.out Z1.out hnn (calloc (calloc (calloc hx1 _) _) _) (calloc (by simp) _) (((powNew L w1).alloc _).alloc _) (newCell (by simp)) (newFrz (by simp)) (by omega) (by omega) (by omega) (by omega) (by omega) (by omega)).mono ?_; rintro e w3 ⟨rfl, hp3, hd3, ho3⟩; have HA := Lib.hid hp3; clear hp3; have hz3 := ho3.size; (try simp at hz3); (try simp only [Int.sub_zero] at hd3); have hx3 := ho3.cell (p := ⟨w.heap.size, 0, none⟩) (by first | (simp; done) | (simp; omega) | omega) (by show w.heap.size ≠ w1.heap.size; omega) (by show w.heap.size ≠ w1.heap.size + 1 + 1; omega) (calloc (calloc (calloc hx1 _) _) _); have hy3 := ho3.cell (p := ⟨w.heap.size + 1, 0, none⟩) (by first | (simp; done) | (simp; omega) | omega) (by show w.heap.size + 1 ≠ w1.heap.size; omega) (by show w.heap.size + 1 ≠ w1.heap.size + 1 + 1; omega) (calloc (calloc (calloc hy1 _) _) _); have hv3 : w3.cell? ⟨w1.heap.size + 1, 0, none⟩ = some (.pointer (some ⟨w1.heap.size, 0, none⟩)) := ho3.cell (p := ⟨w1.heap.size + 1, 0, none⟩) (by first | (simp; done) | (simp; omega) | omega) (by show w1.heap.size + 1 ≠ w1.heap.size; omega) (by show w1.heap.size + 1 ≠ w1.heap.size + 1 + 1; omega) (calloc (by simp) _)))
  go_ret
  refine ⟨by first | (simp; done) | (simp; omega), ?_⟩
  have g1 : Below w1.heap.size w1 _ := ((((Below.refl _ _).alloc (Nat.le_refl _) _).alloc (by simp) _).alloc (by simp; omega) _).trans ((ho3.mono (by simp; omega)).below (Nat.le_refl _) (by omega))
  exact hb1'.trans ((g1.trans ((ho4.mono (by omega)).below (Nat.le_refl _))).mono (by omega))
set_option maxHeartbeats 4000000 in
theorem powerRunsE (L : Int) (n m : Nat) (w : World) (hn : NoneLaid w) (hL0 : -9223372036854775808 ≤ L) (hL9 : L < 9223372036854775808) (hnn : n < 256) (hm : m < 256) (hL : 0 ≤ L) (hL1 : L < n) (hL2 : 0 < m) :
    Calls Tryd.prog 4 #[.int .i64 L, .int .u8 n, .int .u8 m] w fun e w' => e = .returned (.bool true) ∧ Below w.heap.size w w' := by
  have V1 := Lib.hid (show fitB L 0 n = false from decide_eq_false (by omega))
  have Z1 := Lib.hid (show useF L 0 n = L by unfold useF; rw [V1.out]; simp)
  have V2 := Lib.hid (show fitB L L m = false from decide_eq_false (by omega))
  have Z2 := Lib.hid (show useF L L m = L by unfold useF; rw [V2.out]; simp)
  have q1 : min (n : Int) L = L := Int.min_eq_right (by omega)
  have q2 : min (m : Int) 0 = 0 := Int.min_eq_right (by omega)
  have q3 : ¬ L = (n : Int) := by omega
  have q4 : ¬ (0 : Int) = (m : Int) := by omega
  have q5 : ¬ m = 0 := by omega
  go_enter Tryd.func4, Tryd.ntmps4
  go_wp2_with (first
    | (go_at_call 22; refine (awake3_any _ (hn.next (by repeat (first | exact Below.refl _ _ | assumption | refine Below.drew ?_ | refine Below.setCell ?_ (by first | (simp; done) | omega | (simp; omega)) _ | refine Below.alloc ?_ (by first | (simp; done) | omega | (simp; omega)) _ | refine bdrewN ?_ _ | refine bstep ?_ (by assumption) (by first | (simp; done) | omega | (simp; omega)))))).mono ?_; rintro e w1 ⟨rfl, hb1⟩; have hz1 := hb1.size; simp at hz1; have hx1 : w1.cell? ⟨w.heap.size, 0, none⟩ = some (.int .u8 n) := cellk hb1 (by simp; omega) (by go_simp); have hy1 : w1.cell? ⟨w.heap.size + 1, 0, none⟩ = some (.int .u8 m) := cellk hb1 (by simp) (by first | (simp; done) | (simp; omega)); have hb1' : Below w.heap.size w w1 := (by repeat (first | exact Below.refl _ _ | assumption | refine Below.drew ?_ | refine Below.setCell ?_ (by first | (simp; done) | omega | (simp; omega)) _ | refine Below.alloc ?_ (by first | (simp; done) | omega | (simp; omega)) _ | refine bdrewN ?_ _ | refine bstep ?_ (by assumption) (by first | (simp; done) | omega | (simp; omega)))))
    | (go_at_call 23; refine (new_any _ _).mono ?_; rintro e w2 ⟨rfl, rfl⟩)
    | (go_at_call 27; refine (used_any _ _ _ (by first | exact HB.out.h1 | exact HA.out.h1)).mono ?_; rintro e w5 ⟨rfl, rfl⟩)
    | (go_at_call 24; have HX := HA; refine (run28 (w.heap.size + 1) (w1.heap.size + 1) w1.heap.size m L (L) _ _ _ V2.out Z2.out hm hy3 hv3 HA.out (by omega) (by omega) (by omega) (by omega)).mono ?_; rintro e w4 ⟨rfl, hp4, ho4⟩; have HB := Lib.hid hp4; clear hp4; have hx4 := ho4.cell (p := ⟨w.heap.size, 0, none⟩) (by show w.heap.size < _; omega) (by show w.heap.size ≠ w1.heap.size; omega) hx3; have hy4 := ho4.cell (p := ⟨w.heap.size + 1, 0, none⟩) (by show w.heap.size + 1 < _; omega) (by show w.heap.size + 1 ≠ w1.heap.size; omega) hy3; have hv4 := ho4.cell (p := ⟨w1.heap.size + 1, 0, none⟩) (by show w1.heap.size + 1 < _; omega) (by show w1.heap.size + 1 ≠ w1.heap.size; omega) hv3)
    | (go_at_call 24; refine (runDone w.heap.size (w1.heap.size + 1) (w1.heap.size + 1 + 1) w1.heap.size n L 0 _ _ _ V1.out Z1.out hnn (calloc (calloc (calloc hx1 _) _) _) (calloc (by simp) _) (((powNew L w1).alloc _).alloc _) (newCell (by simp)) (newFrz (by simp)) (by omega) (by omega) (by omega) (by omega) (by omega) (by omega)).mono ?_; rintro e w3 ⟨rfl, hp3, hd3, ho3⟩; have HA := Lib.hid hp3; clear hp3; have hz3 := ho3.size; (try simp at hz3); (try simp only [Int.sub_zero] at hd3); have hx3 := ho3.cell (p := ⟨w.heap.size, 0, none⟩) (by first | (simp; done) | (simp; omega) | omega) (by show w.heap.size ≠ w1.heap.size; omega) (by show w.heap.size ≠ w1.heap.size + 1 + 1; omega) (calloc (calloc (calloc hx1 _) _) _); have hy3 := ho3.cell (p := ⟨w.heap.size + 1, 0, none⟩) (by first | (simp; done) | (simp; omega) | omega) (by show w.heap.size + 1 ≠ w1.heap.size; omega) (by show w.heap.size + 1 ≠ w1.heap.size + 1 + 1; omega) (calloc (calloc (calloc hy1 _) _) _); have hv3 : w3.cell? ⟨w1.heap.size + 1, 0, none⟩ = some (.pointer (some ⟨w1.heap.size, 0, none⟩)) := ho3.cell (p := ⟨w1.heap.size + 1, 0, none⟩) (by first | (simp; done) | (simp; omega) | omega) (by show w1.heap.size + 1 ≠ w1.heap.size; omega) (by show w1.heap.size + 1 ≠ w1.heap.size + 1 + 1; omega) (calloc (by simp) _)))
  go_ret
  refine ⟨by first | (simp; done) | (simp; omega), ?_⟩
  have g1 : Below w1.heap.size w1 _ := ((((Below.refl _ _).alloc (Nat.le_refl _) _).alloc (by simp) _).alloc (by simp; omega) _).trans ((ho3.mono (by simp; omega)).below (Nat.le_refl _) (by omega))
  exact hb1'.trans ((g1.trans ((ho4.mono (by omega)).below (Nat.le_refl _))).mono (by omega))
theorem powerRuns_i (L b c : Int) (w : World) (hn : NoneLaid w) (h1 : -9223372036854775808 ≤ L ∧ L < 9223372036854775808) (h2 : 0 ≤ b ∧ b < 256) (h3 : 0 ≤ c ∧ c < 256) :
    Calls Tryd.prog 4 #[.int .i64 L, .int .u8 b, .int .u8 c] w fun e w' => e = .returned (.bool true) ∧ Below w.heap.size w w' := by
  obtain ⟨n, rfl⟩ := Int.eq_ofNat_of_zero_le h2.1
  obtain ⟨m, rfl⟩ := Int.eq_ofNat_of_zero_le h3.1
  by_cases hL : L < 0
  · exact powerRunsA L n m w hn h1.1 h1.2 (by omega) (by omega) hL
  · by_cases hL1 : (n : Int) ≤ L
    · by_cases hL2 : (n : Int) + m ≤ L
      · exact powerRunsB L n m w hn h1.1 h1.2 (by omega) (by omega) (by omega) hL1 hL2
      · exact powerRunsC L n m w hn h1.1 h1.2 (by omega) (by omega) (by omega) hL1 (by omega)
    · by_cases hm : m = 0
      · exact powerRunsD L n m w hn h1.1 h1.2 (by omega) (by omega) (by omega) (by omega) hm
      · exact powerRunsE L n m w hn h1.1 h1.2 (by omega) (by omega) (by omega) (by omega) (by omega)
end Go.Proofs.YtccmalpbejednaaDoor
