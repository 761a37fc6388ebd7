/- PowerParts: the call answers true and leaves what was there as it was. Condition: the package's variable 'none' holds what its text lays. -/
import Derived.Test.YtccmalpbejednaaDoorLawMore
namespace Go.Proofs.YtccmalpbejednaaDoor
open Go Go.Proofs Go.RowKit

theorem run33 (P n : Nat) (N l u : Int) (v : Bool) (z : Int) (W : World) (hN : N = n) (hv : fitB l u n = v) (hz : useF l u n = z) (hn : n < 1000) (hp : PowAt W P l u) (hu0 : 0 ≤ u) (hu1 : u < 1000000) (hl : l < 0 ∨ u ≤ l) :
    Calls Tryd.prog 33 #[.pointer (some ⟨P, 0, none⟩), .int .i64 N] W fun e w' => e = .returned (.bool v) ∧ PowAt w' P l z ∧ OnlyP W.heap.size P W w' := by
  subst hN
  subst hv
  subst hz
  have e34 : ∀ args w, (callFunc 34 args).run Tryd.prog w = .ok (.enter 34 args) w := enters_of Tryd.func34 (by kernel_rfl) rfl
  have hPl := hp.lt
  have hR : Calls Tryd.prog 24 #[.func (.func 34) #[] #[.pointer (some ⟨W.heap.size + 1, 0, none⟩), .pointer (some ⟨W.heap.size, 0, none⟩)]] ((W.alloc (.cells #[.pointer (some ⟨P, 0, none⟩)] 40)).alloc (.cells #[.int .i64 n] 3)) _ :=
    runTicks 34 #[] #[.pointer (some ⟨W.heap.size + 1, 0, none⟩), .pointer (some ⟨W.heap.size, 0, none⟩)] l u n P _ (by simp; omega) e34
      (loopParts (W.heap.size + 1) W.heap.size P n l u _ hn (calloc (by simp) _) (calloc (calloc (by simp) _) _) (((hp.alloc _).alloc _).alloc _) (by omega) hu0 hu1 hl)
  have HR := Lib.hid hR
  clear hR hp hl
  generalize fitB l u n = fa at *
  generalize useF l u n = ua at *
  go_enter Tryd.func33, Tryd.ntmps33
  go_wp2_with (go_at_call 24; refine HR.out.mono ?_; rintro e w2 ⟨rfl, hp2, ho2⟩; have HP := Lib.hid hp2; clear hp2)
  go_ret
  exact ⟨by simp, HP.out, ((OnlyP.refl _ _ _).alloc (Nat.le_refl _) _).alloc (by simp) _ |>.trans (ho2.mono (by simp; omega))⟩
theorem pparts_law (l a b : Nat) : useF l (useF l 0 a) b = useF l 0 (a + b) ∧ fitB l 0 (a + b) = (fitB l 0 a && fitB l (useF l 0 a) b) ∧ 0 ≤ useF l 0 a ∧ useF l 0 a ≤ l := by
  have h1 : fitB l 0 a = decide (a ≤ l) := by unfold fitB; congr 1; rw [eq_iff_iff]; omega
  have h2 : fitB l 0 (a + b) = decide (a + b ≤ l) := by unfold fitB; congr 1; rw [eq_iff_iff]; omega
  by_cases h3 : a ≤ l
  · have h4 : useF l 0 a = a := by unfold useF; rw [h1]; simp [h3]
    have h5 : fitB l a b = decide (a + b ≤ l) := by unfold fitB; congr 1; rw [eq_iff_iff]; omega
    rw [h4, h1, h2, h5]
    unfold useF
    rw [h2, h5]
    by_cases h6 : a + b ≤ l
    · simp [h3, h6]
    · simp [h3, h6]
  · have h4 : useF l 0 a = l := by unfold useF; rw [h1]; simp [h3]
    have h6 : ¬ a + b ≤ l := by omega
    rw [h4, h1, h2]
    unfold useF
    rw [h2]
    refine ⟨?_, by simp [h3, h6], by omega, by omega⟩
    simp only [h6, decide_false, Bool.false_eq_true, if_false]
    split
    · rename_i h7
      have := of_decide_eq_true h7
      omega
    · rfl
set_option maxHeartbeats 4000000 in
theorem powerParts_any (l a b : Nat) (w : World) (hn : NoneLaid w) (h1 : l < 256) (h2 : a < 256) (h3 : b < 256) :
    Calls Tryd.prog 8 #[.int .u8 l, .int .u8 a, .int .u8 b] w fun e w' => e = .returned (.bool true) ∧ Below w.heap.size w w' := by
  have hlaw := pparts_law l a b
  obtain ⟨v1, hv1⟩ : ∃ x, fitB l 0 (a + b) = x := ⟨_, rfl⟩
  obtain ⟨v2, hv2⟩ : ∃ x, fitB l 0 a = x := ⟨_, rfl⟩
  obtain ⟨z1, hz1⟩ : ∃ x, useF l 0 a = x := ⟨_, rfl⟩
  rw [hv1, hv2, hz1] at hlaw
  obtain ⟨v3, hv3⟩ : ∃ x, fitB l z1 b = x := ⟨_, rfl⟩
  obtain ⟨zA, hzA⟩ : ∃ x, useF l 0 (a + b) = x := ⟨_, rfl⟩
  rw [hv3, hzA] at hlaw
  obtain ⟨hz2, rfl, hz0, hzl⟩ := hlaw
  have V1 := Lib.hid hv1
  have V2 := Lib.hid hv2
  have V3 := Lib.hid hv3
  have Z1 := Lib.hid hz1
  have Z2 := Lib.hid hz2
  have ZA := Lib.hid hzA
  clear hv1 hv2 hv3 hz1 hz2 hzA
  cases v2 <;> cases v3
  all_goals
    go_enter Tryd.func8, Tryd.ntmps8
    go_wp2_with (first
      | (go_at_call 22; refine (awake3_any _ hn).mono ?_; rintro e w1 ⟨rfl, hb1⟩; have hz1 := hb1.size)
      | (go_at_call 23; refine (new_any _ _).mono ?_; rintro e w2 ⟨rfl, rfl⟩)
      | (go_at_call 27; refine (used_any _ _ _ (by first | exact HA5.out.h1 | exact HC.out.h1)).mono ?_; rintro e w6 ⟨rfl, rfl⟩)
      | (go_at_call 33; have HX := HB; refine (run33 (w1.heap.size + 1) b _ l z1 _ _ _ (by omega) V3.out Z2.out (by omega) HB.out hz0 (by omega) (.inr hzl)).mono ?_; rintro e w5 ⟨rfl, hp5, ho5⟩; have HC := Lib.hid hp5; have HA5 := Lib.hid (ho5.pow HA4.out (by omega) (by omega)); clear hp5)
      | (go_at_call 33; have HX := HA; refine (run33 (w1.heap.size + 1) a _ l 0 _ _ _ (by omega) V2.out Z1.out (by omega) HQ.out (by omega) (by omega) (.inr (by omega))).mono ?_; rintro e w4 ⟨rfl, hp4, ho4⟩; have HB := Lib.hid hp4; have HA4 := Lib.hid (ho4.pow HA.out (by omega) (by omega)); clear hp4; have hz4 := ho4.size)
      | (go_at_call 33; refine (run33 w1.heap.size (a + b) _ l 0 _ _ _ (by omega) V1.out ZA.out (by omega) ((powNew l w1).alloc _) (by omega) (by omega) (.inr (by omega))).mono ?_; rintro e w3 ⟨rfl, hp3, ho3⟩; have HA := Lib.hid hp3; have HQ := Lib.hid (ho3.pow (powNew2 l _ w1) (by simp) (by omega)); clear hp3; have hz3 := ho3.size; simp at hz3))
    go_ret
    refine ⟨by simp, ?_⟩
    have g1 : Below w1.heap.size w1 _ := ((((Below.refl _ _).alloc (Nat.le_refl _) _).alloc (by simp) _)).trans ((ho3.mono (by simp; omega)).below (Nat.le_refl _))
    have g2 := g1.trans ((ho4.mono (by omega)).below (by omega))
    exact hb1.trans ((g2.trans ((ho5.mono (by omega)).below (by omega))).mono (by omega))
theorem powerParts_i (a b c : Int) (w : World) (hn : NoneLaid w) (h1 : 0 ≤ a ∧ a < 256) (h2 : 0 ≤ b ∧ b < 256) (h3 : 0 ≤ c ∧ c < 256) :
    Calls Tryd.prog 8 #[.int .u8 a, .int .u8 b, .int .u8 c] w fun e w' => e = .returned (.bool true) ∧ Below w.heap.size w w' := by
  obtain ⟨l, rfl⟩ := Int.eq_ofNat_of_zero_le h1.1
  obtain ⟨m, rfl⟩ := Int.eq_ofNat_of_zero_le h2.1
  obtain ⟨n, rfl⟩ := Int.eq_ofNat_of_zero_le h3.1
  exact powerParts_any l m n w hn (by omega) (by omega) (by omega)
end Go.Proofs.YtccmalpbejednaaDoor
