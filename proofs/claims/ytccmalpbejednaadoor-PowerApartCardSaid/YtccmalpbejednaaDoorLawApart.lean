/- PowerApart: the call answers true and leaves what was there as it was. Condition: the package's variable 'none' holds what its text lays. -/
import Derived.Test.YtccmalpbejednaaDoorLawMore
namespace Go.Proofs.YtccmalpbejednaaDoor
open Go Go.Proofs Go.RowKit

theorem add_block (a : Addr) (k : Nat) : (a.add k).block = a.block := by
  unfold Addr.add
  split <;> rfl
/-- One tick under Run, by the method's value. -/
theorem runTick (P : Nat) (l u : Int) (v : Bool) (z : Int) (W : World) (hv : decide (u < l) = v) (hz : min (u + 1) l = z) (hp : PowAt W P l u) (hu0 : 0 ≤ u) (hu1 : u < 1000000) (hl : u ≤ l) :
    Calls Tryd.prog 24 #[.func (.func 26) #[.pointer (some ⟨P, 0, none⟩)] #[]] W fun e w' => e = .returned (.bool v) ∧ PowAt w' P l z ∧ OnlyP W.heap.size P W w' := by
  have eg : ∀ args w, (callFunc 26 args).run Tryd.prog w = .ok (.enter 26 args) w := enters_of Tryd.func26 (by kernel_rfl) rfl
  have hf : fitB l u 1 = v := by
    rw [← hv]
    unfold fitB
    congr 1
    rw [eq_iff_iff]
    omega
  have hu : useF l u 1 = z := by
    unfold useF
    rw [hf]
    subst hv
    by_cases h : u < l
    · rw [decide_eq_true h]
      simp only [if_true]
      omega
    · rw [decide_eq_false h]
      simp only [Bool.false_eq_true, if_false]
      omega
  subst hu
  have h := runTicks 26 #[.pointer (some ⟨P, 0, none⟩)] #[] l u 1 P W hp.lt eg (by
    by_cases h : u < l
    · refine (tickOn P l u _ (hp.alloc _) hu0 (by omega) (.inr h)).mono ?_
      rintro e w' ⟨rfl, h1, h2⟩
      have hb : fitB l u 1 = true := decide_eq_true (by omega)
      exact ⟨by rw [hb]; rfl, by unfold useF; rw [hb]; exact h1, h2⟩
    · refine (tickOff P l u _ (hp.alloc _) (by omega) (by omega)).mono ?_
      rintro e w' ⟨rfl, h1, h2⟩
      have hb : fitB l u 1 = false := decide_eq_false (by omega)
      obtain rfl : u = l := by omega
      exact ⟨by rw [hb]; rfl, by unfold useF; rw [hb]; exact h1, h2⟩)
  rw [hf] at h
  exact h
set_option maxHeartbeats 4000000 in
theorem powerApart_any (a b n c : Nat) (A : Option Addr) (l : List Bool) (w : World) (hn : NoneLaid w) (h1 : a < 256) (h2 : b < 256) (hl : l.length = n)
    (hA : l = [] ∨ ∃ g0 : Addr, A = some g0 ∧ g0.block < w.heap.size ∧ ∀ j x, l[j]? = some x → w.cell? (g0.add j) = some (.bool x)) :
    Calls Tryd.prog 6 #[.int .u8 a, .int .u8 b, .slice A n c] w fun e w' => e = .returned (.bool true) ∧ Below w.heap.size w w' := by
  by_cases hbig : 100 < n
  · have hbig' : (100 : Int) < (n : Int) := by omega
    go_enter Tryd.func6, Tryd.ntmps6
    go_wp2_with (go_at_call 22; refine (awake3_any _ hn).mono ?_; rintro e w1 ⟨rfl, hb1⟩)
    go_ret
    exact ⟨by simp, hb1⟩
  · have hbig' : ¬ (100 : Int) < (n : Int) := by omega
    go_enter Tryd.func6, Tryd.ntmps6
    go_wp2_with (first
      | (go_at_call 22; refine (awake3_any _ hn).mono ?_; rintro e w1 ⟨rfl, hb1⟩; have hz1 := hb1.size)
      | (go_at_call 23; refine (new_any _ _).mono ?_; rintro e w2 ⟨rfl, rfl⟩))
    go_loopw [9, 10, 32] (fun s9 s10 i wr => ∃ (k : Nat) (x y : Int), k ≤ n ∧ i = .int .i64 k ∧ s9 = .int .i64 x ∧ s10 = .int .i64 y ∧ 0 ≤ x ∧ x ≤ a ∧ 0 ≤ y ∧ y ≤ b ∧ PowAt wr w1.heap.size a x ∧ PowAt wr (w1.heap.size + 1) b y ∧ Below w1.heap.size w1 wr) (fun _ _ i _ => n - (intOf i).toNat)
    case atStart => exact ⟨0, 0, 0, Nat.zero_le _, rfl, rfl, rfl, by omega, by omega, by omega, by omega, (powNew a w1).alloc _, powNew2 b _ w1, ((Below.refl _ _).alloc (Nat.le_refl _) _).alloc (by simp) _⟩
    case round =>
      obtain ⟨k, x, y, hk, rfl, rfl, rfl, hx0, hx1, hy0, hy1, hpx, hpy, hb⟩ := hrel
      have hws := hb.size
      have hqlt := hpy.lt
      have HX := Lib.hid hpx
      have HY := Lib.hid hpy
      clear hpx hpy
      by_cases hlt : k < n
      · rcases hA with rfl | ⟨g0, rfl, hg, hcells⟩
        · simp at hl; omega
        obtain ⟨s, hs⟩ : ∃ s, l[k]? = some s := ⟨l[k]'(by omega), List.getElem?_eq_getElem (by omega)⟩
        have hd := cellk hb (p := g0.add k) (by rw [add_block]; exact Nat.lt_of_lt_of_le hg hz1) (cellk hb1 (p := g0.add k) (by rw [add_block]; exact hg) (hcells k s hs))
        have hin0 : (0 : Int) ≤ (k : Int) := by omega
        have hin1 : (k : Int) < (n : Int) := by omega
        clear hcells hs
        cases s
        · by_cases hq : y < b
          · go_wp2_with (go_at_call 24; refine (runTick (w1.heap.size + 1) b y true _ wr (decide_eq_true hq) rfl HY.out (by omega) (by omega) (by omega)).mono ?_; rintro e w4 ⟨rfl, hp4, ho4⟩; have H4 := Lib.hid hp4; clear hp4; have O4 := Lib.hid (ho4.pow HX.out (by omega) (by omega)); have hb4 := (ho4.mono hws).below (by omega))
            refine ⟨⟨k + 1, _, _, by omega, by go_num, rfl, rfl, by omega, by omega, by omega, by omega, O4.out, H4.out, hb.trans hb4⟩, ?_⟩
            simp [intOf]; omega
          · go_wp2_with (go_at_call 24; refine (runTick (w1.heap.size + 1) b y false _ wr (decide_eq_false hq) rfl HY.out (by omega) (by omega) (by omega)).mono ?_; rintro e w4 ⟨rfl, hp4, ho4⟩; have H4 := Lib.hid hp4; clear hp4; have O4 := Lib.hid (ho4.pow HX.out (by omega) (by omega)); have hb4 := (ho4.mono hws).below (by omega))
            refine ⟨⟨k + 1, _, _, by omega, by go_num, rfl, rfl, by omega, by omega, by omega, by omega, O4.out, H4.out, hb.trans hb4⟩, ?_⟩
            simp [intOf]; omega
        · by_cases hq : x < a
          · go_wp2_with (go_at_call 24; refine (runTick w1.heap.size a x true _ wr (decide_eq_true hq) rfl HX.out (by omega) (by omega) (by omega)).mono ?_; rintro e w4 ⟨rfl, hp4, ho4⟩; have H4 := Lib.hid hp4; clear hp4; have O4 := Lib.hid (ho4.pow HY.out (by omega) (by omega)); have hb4 := (ho4.mono hws).below (Nat.le_refl _))
            refine ⟨⟨k + 1, _, _, by omega, by go_num, rfl, rfl, by omega, by omega, by omega, by omega, H4.out, O4.out, hb.trans hb4⟩, ?_⟩
            simp [intOf]; omega
          · go_wp2_with (go_at_call 24; refine (runTick w1.heap.size a x false _ wr (decide_eq_false hq) rfl HX.out (by omega) (by omega) (by omega)).mono ?_; rintro e w4 ⟨rfl, hp4, ho4⟩; have H4 := Lib.hid hp4; clear hp4; have O4 := Lib.hid (ho4.pow HY.out (by omega) (by omega)); have hb4 := (ho4.mono hws).below (Nat.le_refl _))
            refine ⟨⟨k + 1, _, _, by omega, by go_num, rfl, rfl, by omega, by omega, by omega, by omega, H4.out, O4.out, hb.trans hb4⟩, ?_⟩
            simp [intOf]; omega
      · go_wp2_with (go_at_call 27; refine (used_any _ _ _ (by first | exact HX.out.h1 | exact HY.out.h1)).mono ?_; rintro e w5 ⟨rfl, rfl⟩)
        go_ret
        exact ⟨by simp, hb1.trans (hb.mono hz1)⟩
theorem powerApart_i (a b : Int) (n c : Nat) (A : Option Addr) (l : List Bool) (w : World) (hn : NoneLaid w) (h1 : 0 ≤ a ∧ a < 256) (h2 : 0 ≤ b ∧ b < 256) (hl : l.length = n)
    (hA : l = [] ∨ ∃ g0 : Addr, A = some g0 ∧ g0.block < w.heap.size ∧ ∀ j x, l[j]? = some x → w.cell? (g0.add j) = some (.bool x)) :
    Calls Tryd.prog 6 #[.int .u8 a, .int .u8 b, .slice A n c] w fun e w' => e = .returned (.bool true) ∧ Below w.heap.size w w' := by
  obtain ⟨a, rfl⟩ := Int.eq_ofNat_of_zero_le h1.1
  obtain ⟨b, rfl⟩ := Int.eq_ofNat_of_zero_le h2.1
  exact powerApart_any a b n c A l w hn (by omega) (by omega) hl hA
end Go.Proofs.YtccmalpbejednaaDoor
