/- selionlaw03.Awake: the fixed fact of layer 3 answers true. Condition: the package's variable 'none' holds what its text lays. -/
import Derived.Test.YtfccoiofpmhbdaaDoorPower2
namespace Go.Proofs.YtfccoiofpmhbdaaDoor
open Go Go.Proofs Go.RowKit

theorem clo54 (V P : Nat) (W : World) (hv : W.cell? ⟨V, 0, none⟩ = some (.pointer (some ⟨P, 0, none⟩))) (hp : PowAt W P 1 0) (h2 : V ≠ P) :
    Calls Tryd.prog 36 #[.pointer (some ⟨V, 0, none⟩)] W (Ticked 1 0 2 P W) := by
  have hvl : V < W.heap.size := World.block_lt_of_cell? _ _ hv
  have HP := Lib.hid hp
  clear hp
  go_enter Tryd.func36, Tryd.ntmps36
  go_wp2_with (first
    | (go_at_call 37; have HX := HP4; refine (tickOff P 1 1 _ HX.out (by omega) (by omega)).mono ?_; rintro e w5 ⟨rfl, hp5, ho5⟩; have HP5 := Lib.hid hp5; clear hp5)
    | (go_at_call 37; refine (tickOn P 1 0 _ HP.out (by omega) (by omega) (.inr (by omega))).mono ?_; rintro e w4 ⟨rfl, hp4, ho4⟩; have hv4 := ho4.cell (p := ⟨V, 0, none⟩) hvl h2 hv; have HP4 := Lib.hid hp4; clear hp4))
  exact ⟨rfl, rfl, HP5.out, ho4.trans (ho5.mono ho4.size)⟩
theorem clo55 (W : World) : Calls Tryd.prog 38 #[] W fun e w' => e = .returned (.tuple #[]) ∧ w' = W := by
  go_enter Tryd.func38, Tryd.ntmps38
  go_wp2
  go_end0
  exact ⟨rfl, rfl⟩
theorem powNew (l : Int) (w : World) : PowAt (w.alloc (.cells #[.int .i64 l, .int .i64 0] 68)) w.heap.size l 0 := ⟨by simp, by simp, by simp⟩
theorem PowAt.alloc {w : World} {P : Nat} {l u : Int} (h : PowAt w P l u) (o : Obj) : PowAt (w.alloc o) P l u := h.below ((Below.refl _ _).alloc (Nat.le_refl _) o) h.lt
theorem run54 (V P : Nat) (W : World) (hv : W.cell? ⟨V, 0, none⟩ = some (.pointer (some ⟨P, 0, none⟩))) (hp : PowAt W P 1 0) (h2 : V ≠ P) :
    Calls Tryd.prog 13 #[.func (.func 36) #[] #[.pointer (some ⟨V, 0, none⟩)]] W fun e w' => e = .returned (.bool false) ∧ PowAt w' P 1 1 ∧ OnlyP W.heap.size P W w' := by
  have e54 : ∀ args w, (callFunc 36 args).run Tryd.prog w = .ok (.enter 36 args) w := enters_of Tryd.func36 (by kernel_rfl) rfl
  exact runTicks 36 #[] #[.pointer (some ⟨V, 0, none⟩)] 1 0 2 P W hp.lt e54 (clo54 V P _ (calloc hv _) (hp.alloc _) h2)
theorem run55 (W : World) : Calls Tryd.prog 13 #[.func (.func 38) #[] #[]] W fun e w' => e = .returned (.bool true) ∧ Below W.heap.size W w' := by
  have e55 : ∀ args w, (callFunc 38 args).run Tryd.prog w = .ok (.enter 38 args) w := enters_of Tryd.func38 (by kernel_rfl) rfl
  refine (run_on 38 #[] #[] W (fun w2 => w2 = W.alloc (.cells #[.bool false] 4)) e55 ((clo55 _).mono fun e w2 h => ?_)).mono ?_
  · obtain ⟨rfl, rfl⟩ := h
    exact ⟨rfl, by simp, by simp, rfl⟩
  · rintro e w' ⟨rfl, w2, rfl, rfl⟩
    exact ⟨rfl, ((Below.refl _ _).alloc (Nat.le_refl _) _).setCell (p := ⟨W.heap.size, 0, none⟩) (Nat.le_refl _) _⟩
set_option maxHeartbeats 1000000 in
theorem awake3_any (w : World) (hn : NoneLaid w) : Calls Tryd.prog 15 #[] w fun e w' => e = .returned (.bool true) ∧ Below w.heap.size w w' := by
  go_enter Tryd.func15, Tryd.ntmps15
  go_wp2_with (first
    | (go_at_call 35; refine (awake2_any _ hn).mono ?_; rintro e w1 ⟨rfl, hb1⟩; have hz1 := hb1.size)
    | (go_at_call 9; refine (new_any _ _).mono ?_; rintro e w2 ⟨rfl, rfl⟩)
    | (go_at_call 11; refine (used_any _ 1 _ HP3.out.h1).mono ?_; rintro e w5 ⟨rfl, rfl⟩)
    | (go_at_call 13; have HX := HP3; refine (run55 _).mono ?_; rintro e w6 ⟨rfl, hb6⟩)
    | (go_at_call 13; refine (run54 (w1.heap.size + 1) w1.heap.size _ (by simp) ((powNew 1 w1).alloc _) (by omega)).mono ?_; rintro e w3 ⟨rfl, hp3, ho3⟩; have HP3 := Lib.hid hp3; clear hp3; have hv3 : w3.cell? ⟨w1.heap.size + 1, 0, none⟩ = some (.pointer (some ⟨w1.heap.size, 0, none⟩)) := ho3.cell (p := ⟨w1.heap.size + 1, 0, none⟩) (by simp) (by show w1.heap.size + 1 ≠ w1.heap.size; omega) (by simp)))
  go_ret
  refine ⟨by simp, ?_⟩
  have h1 : Below w1.heap.size w1 _ := ((((Below.refl _ _).alloc (Nat.le_refl _) _).alloc (by simp) _)).trans ((ho3.mono (by simp; omega)).below (Nat.le_refl _))
  exact hb1.trans ((h1.trans (hb6.mono h1.size)).mono hz1)
end Go.Proofs.YtfccoiofpmhbdaaDoor
