/- PowerMore: the call answers true and leaves what was there as it was. Condition: the package's variable 'none' holds what its text lays. -/
import Derived.Test.YtccmalpbejednaaDoorAwake3
namespace Go.Proofs.YtccmalpbejednaaDoor
open Go Go.Proofs Go.RowKit

theorem run31 (C P n : Nat) (l u : Int) (W : World) (hn : n < 256) (hc : W.cell? ⟨C, 0, none⟩ = some (.int .u8 n)) (hp : PowAt W P l u) (hu0 : 0 ≤ u) (hu1 : u < 1000000) (hl : l < 0 ∨ u ≤ l) :
    Calls Tryd.prog 31 #[.pointer (some ⟨P, 0, none⟩), .pointer (some ⟨C, 0, none⟩)] W fun e w' => e = .returned (.bool (fitB l u n)) ∧ PowAt w' P l (useF l u n) ∧ OnlyP W.heap.size P W w' := by
  have e32 : ∀ args w, (callFunc 32 args).run Tryd.prog w = .ok (.enter 32 args) w := enters_of Tryd.func32 (by kernel_rfl) rfl
  have hPl := hp.lt
  have hR : Calls Tryd.prog 24 #[.func (.func 32) #[] #[.pointer (some ⟨C, 0, none⟩), .pointer (some ⟨W.heap.size, 0, none⟩)]] (W.alloc (.cells #[.pointer (some ⟨P, 0, none⟩)] 40)) _ :=
    runTicks 32 #[] #[.pointer (some ⟨C, 0, none⟩), .pointer (some ⟨W.heap.size, 0, none⟩)] l u n P _ (by simp; omega) e32
      (loopMore C W.heap.size P n l u _ hn (calloc (calloc hc _) _) (calloc (by simp) _) ((hp.alloc _).alloc _) (by omega) hu0 hu1 hl)
  have HR := Lib.hid hR
  clear hR hp hc hl
  generalize fitB l u n = fa at *
  generalize useF l u n = ua at *
  go_enter Tryd.func31, Tryd.ntmps31
  go_wp2_with (go_at_call 24; refine HR.out.mono ?_; rintro e w2 ⟨rfl, hp2, ho2⟩; have HP := Lib.hid hp2; clear hp2)
  go_ret
  exact ⟨by simp, HP.out, (OnlyP.refl _ _ _).alloc (Nat.le_refl _) _ |>.trans (ho2.mono (by simp))⟩
theorem run31' (C P n : Nat) (l u : Int) (v : Bool) (z : Int) (W : World) (hv : fitB l u n = v) (hz : useF l u n = z) (hn : n < 256) (hc : W.cell? ⟨C, 0, none⟩ = some (.int .u8 n)) (hp : PowAt W P l u) (hu0 : 0 ≤ u) (hu1 : u < 1000000) (hl : l < 0 ∨ u ≤ l) :
    Calls Tryd.prog 31 #[.pointer (some ⟨P, 0, none⟩), .pointer (some ⟨C, 0, none⟩)] W fun e w' => e = .returned (.bool v) ∧ PowAt w' P l z ∧ OnlyP W.heap.size P W w' := by
  subst hv
  subst hz
  exact run31 C P n l u W hn hc hp hu0 hu1 hl
theorem powNew2 (l : Int) (o : Obj) (w : World) : PowAt ((w.alloc o).alloc (.cells #[.int .i64 l, .int .i64 0] 68)) (w.heap.size + 1) l 0 := ⟨by simp, by simp, by simp⟩
theorem more_law (l m n : Nat) : useF l 0 n ≤ useF ((l : Int) + m) 0 n ∧ (fitB l 0 n = true → fitB ((l : Int) + m) 0 n = true ∧ useF l 0 n = useF ((l : Int) + m) 0 n) := by
  have h1 : fitB l 0 n = decide (n ≤ l) := by unfold fitB; congr 1; rw [eq_iff_iff]; omega
  have h2 : fitB ((l : Int) + m) 0 n = decide (n ≤ l + m) := by unfold fitB; congr 1; rw [eq_iff_iff]; omega
  unfold useF
  rw [h1, h2]
  by_cases h3 : n ≤ l
  · have h4 : n ≤ l + m := by omega
    simp [h3, h4]
  · by_cases h4 : n ≤ l + m
    · simp [h3, h4]; omega
    · simp [h3, h4]
      omega
set_option maxHeartbeats 2000000 in
theorem powerMore_any (l m n : Nat) (w : World) (hn : NoneLaid w) (h1 : l < 256) (h2 : m < 256) (h3 : n < 256) :
    Calls Tryd.prog 7 #[.int .u8 l, .int .u8 m, .int .u8 n] w fun e w' => e = .returned (.bool true) ∧ Below w.heap.size w w' := by
  have hlaw := more_law l m n
  obtain ⟨fa, hfa⟩ : ∃ x, fitB l 0 n = x := ⟨_, rfl⟩
  obtain ⟨fb, hfb⟩ : ∃ x, fitB ((l : Int) + m) 0 n = x := ⟨_, rfl⟩
  obtain ⟨ua, hua⟩ : ∃ x, useF l 0 n = x := ⟨_, rfl⟩
  obtain ⟨ub, hub⟩ : ∃ x, useF ((l : Int) + m) 0 n = x := ⟨_, rfl⟩
  rw [hfa, hfb, hua, hub] at hlaw
  obtain ⟨hle, himp⟩ := hlaw
  have HFA := Lib.hid hfa
  have HFB := Lib.hid hfb
  have HUA := Lib.hid hua
  have HUB := Lib.hid hub
  clear hfa hfb hua hub
  cases fa
  · clear himp
    go_enter Tryd.func7, Tryd.ntmps7
    go_wp2_with (first
      | (go_at_call 22; refine (awake3_any _ (hn.next (by repeat (first | exact Below.refl _ _ | assumption | refine Below.drew ?_ | refine Below.setCell ?_ (by first | (simp; done) | omega | (simp; omega)) _ | refine Below.alloc ?_ (by first | (simp; done) | omega | (simp; omega)) _ | refine bdrewN ?_ _ | refine bstep ?_ (by assumption) (by first | (simp; done) | omega | (simp; omega)))))).mono ?_; rintro e w1 ⟨rfl, hb1⟩; have hz1 := hb1.size; simp at hz1; have hx1 : w1.cell? ⟨w.heap.size, 0, none⟩ = some (.int .u8 n) := cellk hb1 (by simp) (by simp); have hb1' : Below w.heap.size w w1 := (by repeat (first | exact Below.refl _ _ | assumption | refine Below.drew ?_ | refine Below.setCell ?_ (by first | (simp; done) | omega | (simp; omega)) _ | refine Below.alloc ?_ (by first | (simp; done) | omega | (simp; omega)) _ | refine bdrewN ?_ _ | refine bstep ?_ (by assumption) (by first | (simp; done) | omega | (simp; omega)))))
      | (go_at_call 23; refine (new_any _ _).mono ?_; rintro e w2 ⟨rfl, rfl⟩)
      | (go_at_call 27; refine (used_any _ _ _ (by first | exact HA4.out.h1 | exact HB4.out.h1)).mono ?_; rintro e w5 ⟨rfl, rfl⟩)
      | (go_at_call 31; have HX := HA; refine (run31' w.heap.size (w1.heap.size + 1) n (l + m) 0 _ _ _ HFB.out HUB.out h3 hx3 HB0.out (by omega) (by omega) (.inr (by omega))).mono ?_; rintro e w4 ⟨rfl, hp4, ho4⟩; have HB4 := Lib.hid hp4; have HA4 := Lib.hid (ho4.pow HA.out hz3 (by omega)); clear hp4)
      | (go_at_call 31; refine (run31' w.heap.size w1.heap.size n l 0 _ _ _ HFA.out HUA.out h3 (calloc (calloc hx1 _) _) ((powNew l w1).alloc _) (by omega) (by omega) (.inr (by omega))).mono ?_; rintro e w3 ⟨rfl, hp3, ho3⟩; have HA := Lib.hid hp3; have HB0 := Lib.hid (ho3.pow (powNew2 (l + m) _ w1) (by simp) (by omega)); clear hp3; have hz3' := ho3.size; simp at hz3'; have hz3 : w1.heap.size < w3.heap.size := (by omega); have hx3 := ho3.cell (p := ⟨w.heap.size, 0, none⟩) (by simp; omega) (by show w.heap.size ≠ w1.heap.size; omega) (calloc (calloc hx1 _) _)))
    go_ret
    refine ⟨by simp, ?_⟩
    have g1 : Below w1.heap.size w1 _ := ((((Below.refl _ _).alloc (Nat.le_refl _) _).alloc (by simp) _)).trans ((ho3.mono (by simp; omega)).below (Nat.le_refl _))
    exact hb1'.trans ((g1.trans ((ho4.mono (Nat.le_of_lt hz3)).below (by omega))).mono (by omega))
  · obtain ⟨rfl, rfl⟩ := himp rfl
    go_enter Tryd.func7, Tryd.ntmps7
    go_wp2_with (first
      | (go_at_call 22; refine (awake3_any _ (hn.next (by repeat (first | exact Below.refl _ _ | assumption | refine Below.drew ?_ | refine Below.setCell ?_ (by first | (simp; done) | omega | (simp; omega)) _ | refine Below.alloc ?_ (by first | (simp; done) | omega | (simp; omega)) _ | refine bdrewN ?_ _ | refine bstep ?_ (by assumption) (by first | (simp; done) | omega | (simp; omega)))))).mono ?_; rintro e w1 ⟨rfl, hb1⟩; have hz1 := hb1.size; simp at hz1; have hx1 : w1.cell? ⟨w.heap.size, 0, none⟩ = some (.int .u8 n) := cellk hb1 (by simp) (by simp); have hb1' : Below w.heap.size w w1 := (by repeat (first | exact Below.refl _ _ | assumption | refine Below.drew ?_ | refine Below.setCell ?_ (by first | (simp; done) | omega | (simp; omega)) _ | refine Below.alloc ?_ (by first | (simp; done) | omega | (simp; omega)) _ | refine bdrewN ?_ _ | refine bstep ?_ (by assumption) (by first | (simp; done) | omega | (simp; omega)))))
      | (go_at_call 23; refine (new_any _ _).mono ?_; rintro e w2 ⟨rfl, rfl⟩)
      | (go_at_call 27; refine (used_any _ _ _ (by first | exact HA4.out.h1 | exact HB4.out.h1)).mono ?_; rintro e w5 ⟨rfl, rfl⟩)
      | (go_at_call 31; have HX := HA; refine (run31' w.heap.size (w1.heap.size + 1) n (l + m) 0 _ _ _ HFB.out HUB.out h3 hx3 HB0.out (by omega) (by omega) (.inr (by omega))).mono ?_; rintro e w4 ⟨rfl, hp4, ho4⟩; have HB4 := Lib.hid hp4; have HA4 := Lib.hid (ho4.pow HA.out hz3 (by omega)); clear hp4)
      | (go_at_call 31; refine (run31' w.heap.size w1.heap.size n l 0 _ _ _ HFA.out HUA.out h3 (calloc (calloc hx1 _) _) ((powNew l w1).alloc _) (by omega) (by omega) (.inr (by omega))).mono ?_; rintro e w3 ⟨rfl, hp3, ho3⟩; have HA := Lib.hid hp3; have HB0 := Lib.hid (ho3.pow (powNew2 (l + m) _ w1) (by simp) (by omega)); clear hp3; have hz3' := ho3.size; simp at hz3'; have hz3 : w1.heap.size < w3.heap.size := (by omega); have hx3 := ho3.cell (p := ⟨w.heap.size, 0, none⟩) (by simp; omega) (by show w.heap.size ≠ w1.heap.size; omega) (calloc (calloc hx1 _) _)))
    go_ret
    refine ⟨by simp, ?_⟩
    have g1 : Below w1.heap.size w1 _ := ((((Below.refl _ _).alloc (Nat.le_refl _) _).alloc (by simp) _)).trans ((ho3.mono (by simp; omega)).below (Nat.le_refl _))
    exact hb1'.trans ((g1.trans ((ho4.mono (Nat.le_of_lt hz3)).below (by omega))).mono (by omega))
theorem powerMore_i (a b c : Int) (w : World) (hn : NoneLaid w) (h1 : 0 ≤ a ∧ a < 256) (h2 : 0 ≤ b ∧ b < 256) (h3 : 0 ≤ c ∧ c < 256) :
    Calls Tryd.prog 7 #[.int .u8 a, .int .u8 b, .int .u8 c] w fun e w' => e = .returned (.bool true) ∧ Below w.heap.size w w' := by
  obtain ⟨l, rfl⟩ := Int.eq_ofNat_of_zero_le h1.1
  obtain ⟨m, rfl⟩ := Int.eq_ofNat_of_zero_le h2.1
  obtain ⟨n, rfl⟩ := Int.eq_ofNat_of_zero_le h3.1
  exact powerMore_any l m n w hn (by omega) (by omega) (by omega)
end Go.Proofs.YtccmalpbejednaaDoor
