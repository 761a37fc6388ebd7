/- selionlaw05.CodeApart answers true, whatever the numbers. Condition: the package's variable 'none' holds what its text lays. -/
import Derived.Test.YtgonklbjbgekoaaDoorCode2
import Derived.Test.YtgonklbjbgekoaaDoorEqualQ
import Derived.BigQuiet
namespace Go.Proofs.YtgonklbjbgekoaaDoor
open Go Go.Proofs Go.RowKit

theorem ofNat_inj {x y : Nat} (hx : x < 256) (hy : y < 256) (h : UInt8.ofNat x = UInt8.ofNat y) : x = y := by
  have := congrArg UInt8.toNat h
  simp only [UInt8.toNat_ofNat'] at this
  omega
/-- No number's bytes begin with another one's. -/
theorem numB_prefix : ∀ (a b : Nat) (r : List UInt8), numB b = numB a ++ r → a = b := by
  intro a
  induction a using Nat.strongRecOn with
  | ind a ih =>
    intro b r h
    by_cases ha : a < 128
    · rw [numB_small ha] at h
      by_cases hb : b < 128
      · rw [numB_small hb] at h
        injection h with h1 _
        exact (ofNat_inj (by omega) (by omega) h1).symm
      · rw [numB_big hb] at h
        injection h with h1 _
        have := ofNat_inj (by omega) (by omega) h1
        omega
    · rw [numB_big ha] at h
      by_cases hb : b < 128
      · rw [numB_small hb] at h
        injection h with h1 _
        have := ofNat_inj (by omega) (by omega) h1
        omega
      · rw [numB_big hb] at h
        injection h with h1 h2
        have e1 := ofNat_inj (by omega) (by omega) h1
        have e2 := ih (a / 128) (by omega) (b / 128) r h2
        omega
theorem numB_pos (n : Nat) : 1 ≤ (numB n).length := by
  by_cases h : n < 128
  · rw [numB_small h]; exact Nat.le_refl _
  · rw [numB_big h]; simp
/-- 'begins' of the law. -/
theorem begins_iff (a b : Nat) : ((numB a).length ≤ (numB b).length ∧ numB a = (numB b).take (numB a).length) ↔ a = b := by
  constructor
  · rintro ⟨_, h⟩
    refine numB_prefix a b ((numB b).drop (numB a).length) ?_
    rw [← List.take_append_drop (numB a).length (numB b)] 
    simp only [List.take_append_drop]
    exact (congrArg (· ++ List.drop (numB a).length (numB b)) h ▸ (List.take_append_drop _ _).symm)
  · rintro rfl
    exact ⟨Nat.le_refl _, by rw [List.take_length]⟩
theorem wrap_near (a b : Nat) : IntKind.u64.wrap ((a : Int) + (b : Int) % 300) = (((a + b % 300) % 2 ^ 64 : Nat) : Int) := by
  simp [IntKind.wrap, IntKind.bits, IntKind.signed]
set_option maxHeartbeats 4000000 in
theorem apart5_any (a b : Nat) (near : Bool) (w : World) (hn : NoneLaid w) (ha : a < 2 ^ 64) (hb : b < 2 ^ 64) :
    Calls Tryd.prog 4 #[.int .u64 a, .int .u64 b, .bool near] w fun e w' => e = .returned (.bool true) ∧ Below w.heap.size w w' := by
  obtain ⟨y, hy⟩ : ∃ y : Nat, y = if near then (a + b % 300) % 2 ^ 64 else b := ⟨_, rfl⟩
  have hy64 : y < 2 ^ 64 := by rw [hy]; split; exact Nat.mod_lt _ (by omega); exact hb
  have hnear := wrap_near a b
  go_enter Tryd.func4, Tryd.ntmps4
  go_wp2_with (fail)
  refine (awake5_any w hn).mono ?_
  rintro e w1 ⟨rfl, hb1⟩
  clear hn
  have hz1 := hb1.size
  cases near with
  | false =>
    simp only [Bool.false_eq_true, if_false] at hy
    subst hy
    go_wp2_with (fail)
    have W0 : WrAt ((w1.alloc (.cells #[.slice none 0 0] 35 (0, 0))).alloc (.cells #[.slice none 0 0] 35 (0, 0))) (fun b => b = w1.heap.size) w1.heap.size [] := (wrNew w1).below ((Below.refl _ _).alloc (Nat.le_refl _) _)
    have V0 : WrAt ((w1.alloc (.cells #[.slice none 0 0] 35 (0, 0))).alloc (.cells #[.slice none 0 0] 35 (0, 0))) (fun b => b = w1.heap.size + 1) (w1.heap.size + 1) [] := by
      have := wrNew (w1.alloc (.cells #[.slice none 0 0] 35 (0, 0)))
      rwa [World.size_alloc] at this
    refine (numW _ w1.heap.size a [] _ W0 ha (by simp)).mono ?_
    rintro e w2 ⟨rfl, C2, hW2, hC2, hM2⟩
    rw [List.nil_append] at hW2
    have V2 := V0.mod hM2 (fun b hb h => by omega)
    have hb02 : Below w1.heap.size w1 w2 := (((Below.refl _ _).alloc (Nat.le_refl _) _).alloc (by simp) _).trans (hM2.below (by simp; omega) (fun k hk h => by omega))
    have hz2 := hM2.size
    rw [World.size_alloc, World.size_alloc] at hz2
    have HW2 := Lib.hid hW2
    have HC2 := Lib.hid hC2
    clear hW2 hC2 hM2 W0 V0
    go_wp2_with (fail)
    refine (numW _ (w1.heap.size + 1) y [] w2 V2 hy64 (by simp)).mono ?_
    rintro e w3 ⟨rfl, C3, hV3, hC3, hM3⟩
    rw [List.nil_append] at hV3
    have hW3 := HW2.out.mod hM3 (fun b hb h => by
      have := HC2.out b hb
      rw [World.size_alloc, World.size_alloc] at this
      omega)
    have HB3 := Lib.hid (hb1.trans ((hb02.trans (hM3.below (by omega) (fun k hk h => by omega))).mono hz1))
    obtain ⟨A1, c1, g1, r1, _, _⟩ := hW3
    obtain ⟨A2, c2, g2, r2, _, _⟩ := hV3
    have hx1 := numB_pos a
    have hx2 := numB_len10 ha
    have hx3 := numB_pos y
    have hx4 := numB_len10 hy64
    obtain ⟨la, hla⟩ : ∃ la, la = (numB a).length := ⟨_, rfl⟩
    obtain ⟨ly, hly⟩ : ∃ ly, ly = (numB y).length := ⟨_, rfl⟩
    have hbeg := begins_iff a y
    rw [← hla] at g1 r1 hx1 hx2 hbeg
    rw [← hly] at g2 r2 hx3 hx4 hbeg
    have d1 : w3.cell? ⟨w1.heap.size, 0, none⟩ = some (.slice A1 la c1) := by rw [cell_of_blk g1]; rfl
    have d2 : w3.cell? ⟨w1.heap.size + 1, 0, none⟩ = some (.slice A2 ly c2) := by rw [cell_of_blk g2]; rfl
    have hlc : ly ≤ c2 := by
      obtain ⟨_, _, e5, h5⟩ := r2.form
      injection e5 with _ _ e5'
      omega
    obtain ⟨ad, had⟩ : ∃ ad, A2 = some ad := by
      rcases r2.2 with ⟨_, h⟩ | ⟨g, cap, cur, h, _⟩
      · omega
      · injection h with h _ _; exact ⟨_, h⟩
    subst had
    have HBEG := Lib.hid hbeg
    have HLA := Lib.hid hla
    have HLY := Lib.hid hly
    have HR1 := Lib.hid r1
    have HR2 := Lib.hid r2
    clear hbeg hla hly r1 r2 g1 g2 hM3 hC3 V2 HW2 HC2 hb02
    by_cases hle : la ≤ ly
    · have hg1 : (la : Int) ≤ (ly : Int) := by omega
      have hcut := (HR2.out.cut (k := la) hle rfl).reads
      rw [← bv_take] at hcut
      have hcap : la ≤ c2 := by omega
      have hcap2 : (la : Int) ≤ (c2 : Int) := by omega
      have hEv : decide (numB a = (numB y).take la) = decide (a = y) := by
        have := HBEG.out
        simp only [hle, true_and] at this
        exact decide_eq_decide.2 this
      have HEQ := Lib.hid (fun c' q => equalBq (decide (a = y)) A1 (some ad) la c1 la c' _ _ (numB a) ((numB y).take la) (w3.drewN q) (show Reads (w3.drewN q) w3.heap.size 1 A1 la _ from HR1.out.reads) (show Reads (w3.drewN q) w3.heap.size 1 (some ad) la _ from hcut) (by omega) (by omega) hEv)
      have hq : ((a : Int) == (y : Int)) = decide (a = y) := by
        by_cases h : a = y
        · subst h; simp
        · have h2 : (a : Int) ≠ (y : Int) := by omega
          simp [h, h2]
      have hi1 : (1 : Int) ≤ (la : Int) := by omega
      have hi2 : (la : Int) ≤ 10 := by omega
      clear hcut hEv HBEG
      generalize decide (a = y) = v at *
      go_wp2_with (fail)
      go_quiet ((go_at_call 19; exact Calls.quiet_of (HEQ.out _ _)))
      cases v
      all_goals
        go_wp2_with (fail)
        go_ret
        exact ⟨by simp, bdrewN HB3.out nq⟩
    · have hne : decide (a = y) = false := decide_eq_false fun h => by
        have := HLA.out
        rw [h, ← HLY.out] at this
        omega
      have hg1 : decide ((la : Int) ≤ (ly : Int)) = false := decide_eq_false (by omega)
      have hq : ((a : Int) == (y : Int)) = false := by
        have h2 : (a : Int) ≠ (y : Int) := fun h => by
          have h3 : a = y := by omega
          simp [h3] at hne
        simpa using h2
      have hi1 : (1 : Int) ≤ (la : Int) := by omega
      have hi2 : (la : Int) ≤ 10 := by omega
      clear HBEG hne
      go_wp2_with (fail)
      go_quiet (fail)
      go_wp2_with (fail)
      go_ret
      exact ⟨by simp, bdrewN HB3.out nq⟩
  | true =>
    simp only [if_true] at hy
    rw [← hy] at hnear
    clear hy
    go_wp2_with (fail)
    have W0 : WrAt ((w1.alloc (.cells #[.slice none 0 0] 35 (0, 0))).alloc (.cells #[.slice none 0 0] 35 (0, 0))) (fun b => b = w1.heap.size) w1.heap.size [] := (wrNew w1).below ((Below.refl _ _).alloc (Nat.le_refl _) _)
    have V0 : WrAt ((w1.alloc (.cells #[.slice none 0 0] 35 (0, 0))).alloc (.cells #[.slice none 0 0] 35 (0, 0))) (fun b => b = w1.heap.size + 1) (w1.heap.size + 1) [] := by
      have := wrNew (w1.alloc (.cells #[.slice none 0 0] 35 (0, 0)))
      rwa [World.size_alloc] at this
    refine (numW _ w1.heap.size a [] _ W0 ha (by simp)).mono ?_
    rintro e w2 ⟨rfl, C2, hW2, hC2, hM2⟩
    rw [List.nil_append] at hW2
    have V2 := V0.mod hM2 (fun b hb h => by omega)
    have hb02 : Below w1.heap.size w1 w2 := (((Below.refl _ _).alloc (Nat.le_refl _) _).alloc (by simp) _).trans (hM2.below (by simp; omega) (fun k hk h => by omega))
    have hz2 := hM2.size
    rw [World.size_alloc, World.size_alloc] at hz2
    have HW2 := Lib.hid hW2
    have HC2 := Lib.hid hC2
    clear hW2 hC2 hM2 W0 V0
    go_wp2_with (fail)
    refine (numW _ (w1.heap.size + 1) y [] w2 V2 hy64 (by simp)).mono ?_
    rintro e w3 ⟨rfl, C3, hV3, hC3, hM3⟩
    rw [List.nil_append] at hV3
    have hW3 := HW2.out.mod hM3 (fun b hb h => by
      have := HC2.out b hb
      rw [World.size_alloc, World.size_alloc] at this
      omega)
    have HB3 := Lib.hid (hb1.trans ((hb02.trans (hM3.below (by omega) (fun k hk h => by omega))).mono hz1))
    obtain ⟨A1, c1, g1, r1, _, _⟩ := hW3
    obtain ⟨A2, c2, g2, r2, _, _⟩ := hV3
    have hx1 := numB_pos a
    have hx2 := numB_len10 ha
    have hx3 := numB_pos y
    have hx4 := numB_len10 hy64
    obtain ⟨la, hla⟩ : ∃ la, la = (numB a).length := ⟨_, rfl⟩
    obtain ⟨ly, hly⟩ : ∃ ly, ly = (numB y).length := ⟨_, rfl⟩
    have hbeg := begins_iff a y
    rw [← hla] at g1 r1 hx1 hx2 hbeg
    rw [← hly] at g2 r2 hx3 hx4 hbeg
    have d1 : w3.cell? ⟨w1.heap.size, 0, none⟩ = some (.slice A1 la c1) := by rw [cell_of_blk g1]; rfl
    have d2 : w3.cell? ⟨w1.heap.size + 1, 0, none⟩ = some (.slice A2 ly c2) := by rw [cell_of_blk g2]; rfl
    have hlc : ly ≤ c2 := by
      obtain ⟨_, _, e5, h5⟩ := r2.form
      injection e5 with _ _ e5'
      omega
    obtain ⟨ad, had⟩ : ∃ ad, A2 = some ad := by
      rcases r2.2 with ⟨_, h⟩ | ⟨g, cap, cur, h, _⟩
      · omega
      · injection h with h _ _; exact ⟨_, h⟩
    subst had
    have HBEG := Lib.hid hbeg
    have HLA := Lib.hid hla
    have HLY := Lib.hid hly
    have HR1 := Lib.hid r1
    have HR2 := Lib.hid r2
    clear hbeg hla hly r1 r2 g1 g2 hM3 hC3 V2 HW2 HC2 hb02
    by_cases hle : la ≤ ly
    · have hg1 : (la : Int) ≤ (ly : Int) := by omega
      have hcut := (HR2.out.cut (k := la) hle rfl).reads
      rw [← bv_take] at hcut
      have hcap : la ≤ c2 := by omega
      have hcap2 : (la : Int) ≤ (c2 : Int) := by omega
      have hEv : decide (numB a = (numB y).take la) = decide (a = y) := by
        have := HBEG.out
        simp only [hle, true_and] at this
        exact decide_eq_decide.2 this
      have HEQ := Lib.hid (fun c' q => equalBq (decide (a = y)) A1 (some ad) la c1 la c' _ _ (numB a) ((numB y).take la) (w3.drewN q) (show Reads (w3.drewN q) w3.heap.size 1 A1 la _ from HR1.out.reads) (show Reads (w3.drewN q) w3.heap.size 1 (some ad) la _ from hcut) (by omega) (by omega) hEv)
      have hq : ((a : Int) == (y : Int)) = decide (a = y) := by
        by_cases h : a = y
        · subst h; simp
        · have h2 : (a : Int) ≠ (y : Int) := by omega
          simp [h, h2]
      have hi1 : (1 : Int) ≤ (la : Int) := by omega
      have hi2 : (la : Int) ≤ 10 := by omega
      clear hcut hEv HBEG
      generalize decide (a = y) = v at *
      go_wp2_with (fail)
      go_quiet ((go_at_call 19; exact Calls.quiet_of (HEQ.out _ _)))
      cases v
      all_goals
        go_wp2_with (fail)
        go_ret
        exact ⟨by simp, bdrewN HB3.out nq⟩
    · have hne : decide (a = y) = false := decide_eq_false fun h => by
        have := HLA.out
        rw [h, ← HLY.out] at this
        omega
      have hg1 : decide ((la : Int) ≤ (ly : Int)) = false := decide_eq_false (by omega)
      have hq : ((a : Int) == (y : Int)) = false := by
        have h2 : (a : Int) ≠ (y : Int) := fun h => by
          have h3 : a = y := by omega
          simp [h3] at hne
        simpa using h2
      have hi1 : (1 : Int) ≤ (la : Int) := by omega
      have hi2 : (la : Int) ≤ 10 := by omega
      clear HBEG hne
      go_wp2_with (fail)
      go_quiet (fail)
      go_wp2_with (fail)
      go_ret
      exact ⟨by simp, bdrewN HB3.out nq⟩
end Go.Proofs.YtgonklbjbgekoaaDoor
