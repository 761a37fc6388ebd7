/- PowerNests: the call answers true and leaves what was there as it was. Condition: the package's variable 'none' holds what its text lays. -/
import Derived.Test.YtccmalpbejednaaDoorLawMore
import Derived.Deep.RegionHeld3
namespace Go.Proofs.YtccmalpbejednaaDoor
open Go Go.Proofs Go.RowKit

/-- Of the first B blocks, none but perhaps those listed has changed. -/
structure OnlyS (B : Nat) (S : List Nat) (w w' : World) : Prop where
  os : w'.os = w.os
  tape : w'.tape = w.tape
  output : w'.output = w.output
  size : w.heap.size ≤ w'.heap.size
  block : ∀ k, k < B → k ∉ S → w'.heap[k]? = w.heap[k]?
theorem OnlyS.refl (B : Nat) (S : List Nat) (w : World) : OnlyS B S w w := ⟨rfl, rfl, rfl, Nat.le_refl _, fun _ _ _ => rfl⟩
theorem OnlyS.trans {B : Nat} {S : List Nat} {a b c : World} (h : OnlyS B S a b) (k : OnlyS B S b c) : OnlyS B S a c :=
  ⟨k.os.trans h.os, k.tape.trans h.tape, k.output.trans h.output, Nat.le_trans h.size k.size, fun i hi hp => (k.block i hi hp).trans (h.block i hi hp)⟩
theorem OnlyS.mono {B B' : Nat} {S : List Nat} {a b : World} (h : OnlyS B S a b) (hB : B' ≤ B) : OnlyS B' S a b := ⟨h.os, h.tape, h.output, h.size, fun i hi hp => h.block i (by omega) hp⟩
theorem OnlyP.list {B P : Nat} {a b : World} (h : OnlyP B P a b) {S : List Nat} (hP : P ∈ S) : OnlyS B S a b := ⟨h.os, h.tape, h.output, h.size, fun i hi hs => h.block i hi (fun e => hs (e ▸ hP))⟩
theorem OnlyS.below {B : Nat} {S : List Nat} {a b : World} (h : OnlyS B S a b) (hS : ∀ s ∈ S, B ≤ s) : Below B a b := ⟨h.os, h.tape, h.output, h.size, fun i hi => h.block i hi (fun hs => absurd (hS i hs) (by omega))⟩
theorem OnlyS.cell {B : Nat} {S : List Nat} {a b : World} (h : OnlyS B S a b) {p : Addr} {v : Value} (h1 : p.block < B) (h2 : p.block ∉ S) (hc : a.cell? p = some v) : b.cell? p = some v := by
  rw [← hc]
  unfold World.cell?
  rw [h.block _ h1 h2]
theorem OnlyS.frz {B : Nat} {S : List Nat} {a b : World} (h : OnlyS B S a b) {p : Addr} (h1 : p.block < B) (h2 : p.block ∉ S) (hc : a.frozen? p = false) : b.frozen? p = false := by
  rw [← hc]
  unfold World.frozen?
  rw [h.block _ h1 h2]
theorem OnlyS.setCell {B : Nat} {S : List Nat} {a b : World} (h : OnlyS B S a b) {p : Addr} (v : Value) (hp : B ≤ p.block ∨ p.block ∈ S) : OnlyS B S a (b.setCell p v) := by
  refine ⟨h.os, h.tape, h.output, by simpa using h.size, fun k hk hs => ?_⟩
  rw [heap_setCell_other b p k v (fun e => hp.elim (fun h => by omega) (fun h => hs (e ▸ h)))]
  exact h.block k hk hs
theorem OnlyS.alloc {B : Nat} {S : List Nat} {a b : World} (h : OnlyS B S a b) (hB : B ≤ b.heap.size) (o : Obj) : OnlyS B S a (b.alloc o) :=
  h.trans ⟨rfl, rfl, rfl, by simp, fun k hk _ => (((Below.refl B b).alloc hB o).block k hk)⟩
theorem run30 (C V P n : Nat) (l u : Int) (v : Bool) (z : Int) (W : World) (hv1 : fitB l u n = v) (hz1 : useF l u n = z) (hn : n < 256) (hc : W.cell? ⟨C, 0, none⟩ = some (.int .u8 n)) (hv : W.cell? ⟨V, 0, none⟩ = some (.pointer (some ⟨P, 0, none⟩))) (hp : PowAt W P l u)
    (h2 : V ≠ P) (hu0 : 0 ≤ u) (hu1 : u < 1000000) (hl : l < 0 ∨ u ≤ l) :
    Calls Tryd.prog 24 #[.func (.func 30) #[] #[.pointer (some ⟨C, 0, none⟩), .pointer (some ⟨V, 0, none⟩)]] W fun e w' => e = .returned (.bool v) ∧ PowAt w' P l z ∧ OnlyP W.heap.size P W w' := by
  subst hv1
  subst hz1
  have eg : ∀ args w, (callFunc 30 args).run Tryd.prog w = .ok (.enter 30 args) w := enters_of Tryd.func30 (by kernel_rfl) rfl
  exact runTicks 30 #[] #[.pointer (some ⟨C, 0, none⟩), .pointer (some ⟨V, 0, none⟩)] l u n P W hp.lt eg (loopNests C V P n l u _ hn (calloc hc _) (calloc hv _) (hp.alloc _) h2 hu0 hu1 hl)
/-- What the outer closure leaves behind. -/
def Nested (l : Int) (v1 v2 : Bool) (z2 : Int) (P I H : Nat) (w : World) (e : Ending) (w' : World) : Prop :=
  e = (if v2 then .returned (.tuple #[]) else .panicked [{ v := offV, recovered := false }]) ∧ PowAt w' P l z2 ∧ w'.cell? ⟨I, 0, none⟩ = some (.bool v1) ∧ w'.cell? ⟨H, 0, none⟩ = some (.bool true) ∧ OnlyS w.heap.size [P, I, H] w w'
set_option maxHeartbeats 2000000 in
theorem clo29 (CA V I H CB P a b : Nat) (l : Int) (v1 v2 : Bool) (z1 z2 : Int) (W : World) (ha : a < 256) (hb : b < 256) (hv1 : fitB l 0 a = v1) (hz1 : useF l 0 a = z1) (hv2 : fitB l z1 b = v2) (hz2 : useF l z1 b = z2) (h0 : 0 ≤ z1) (h9 : z1 < 1000) (hl : 0 ≤ l) (hzl : z1 ≤ l)
    (hca : W.cell? ⟨CA, 0, none⟩ = some (.int .u8 a)) (hv : W.cell? ⟨V, 0, none⟩ = some (.pointer (some ⟨P, 0, none⟩))) (hi : W.cell? ⟨I, 0, none⟩ = some (.bool true)) (hiz : W.frozen? ⟨I, 0, none⟩ = false) (hh : W.cell? ⟨H, 0, none⟩ = some (.bool false)) (hhz : W.frozen? ⟨H, 0, none⟩ = false)
    (hcb : W.cell? ⟨CB, 0, none⟩ = some (.int .u8 b)) (hp : PowAt W P l 0) (d1 : V ≠ P) (d2 : V ≠ I) (d3 : V ≠ H) (d4 : CB ≠ P) (d5 : CB ≠ I) (d6 : CB ≠ H) (d7 : I ≠ P) (d8 : H ≠ P) (d9 : I ≠ H) :
    Calls Tryd.prog 29 #[.pointer (some ⟨CA, 0, none⟩), .pointer (some ⟨V, 0, none⟩), .pointer (some ⟨I, 0, none⟩), .pointer (some ⟨H, 0, none⟩), .pointer (some ⟨CB, 0, none⟩)] W (Nested l v1 v2 z2 P I H W) := by
  have lV : V < W.heap.size := World.block_lt_of_cell? _ _ hv
  have lI : I < W.heap.size := World.block_lt_of_cell? _ _ hi
  have lH : H < W.heap.size := World.block_lt_of_cell? _ _ hh
  have lB : CB < W.heap.size := World.block_lt_of_cell? _ _ hcb
  have lP := hp.lt
  have HP := Lib.hid hp
  have V1 := Lib.hid hv1
  have Z1 := Lib.hid hz1
  clear hp hv1 hz1
  go_enter Tryd.func29, Tryd.ntmps29
  go_wp2_with (go_at_call 24; refine (run30 CA V P a l 0 _ _ _ V1.out Z1.out ha hca hv HP.out d1 (by omega) (by omega) (.inr (by omega))).mono ?_; rintro e w3 ⟨rfl, hp3, ho3⟩; have HA := Lib.hid hp3; clear hp3; have hs3 := ho3.size; have iv := ho3.cell (p := ⟨V, 0, none⟩) lV d1 hv; have ii := ho3.cell (p := ⟨I, 0, none⟩) lI d7 hi; have iz := ho3.frz (p := ⟨I, 0, none⟩) lI d7 hiz; have ih := ho3.cell (p := ⟨H, 0, none⟩) lH d8 hh; have ihz := ho3.frz (p := ⟨H, 0, none⟩) lH d8 hhz; have ib := ho3.cell (p := ⟨CB, 0, none⟩) lB d4 hcb)
  obtain ⟨W4, hW4⟩ : ∃ x, x = (w3.setCell ⟨I, 0, none⟩ (.bool v1)).setCell ⟨H, 0, none⟩ (.bool true) := ⟨_, rfl⟩
  have d7' : P ≠ I := Ne.symm d7
  have d8' : P ≠ H := Ne.symm d8
  have d9' : H ≠ I := Ne.symm d9
  have o4 : OnlyS W.heap.size [P, I, H] W W4 := by
    rw [hW4]
    exact ((ho3.list (S := [P, I, H]) (by simp)).setCell (p := ⟨I, 0, none⟩) _ (.inr (by simp))).setCell (p := ⟨H, 0, none⟩) _ (.inr (by simp))
  have g0 := HA.out.h0
  have g1 := HA.out.h1
  have g2 := HA.out.hf
  have p4 : PowAt W4 P l z1 := by
    refine ⟨?_, ?_, ?_⟩ <;> (rw [hW4]; go_simp)
  have i4 : W4.cell? ⟨I, 0, none⟩ = some (.bool v1) := by rw [hW4]; go_simp
  have h4 : W4.cell? ⟨H, 0, none⟩ = some (.bool true) := by rw [hW4]; go_simp
  have n4 : V ∉ [P, I, H] := by simp [d1, d2, d3]
  rw [← hW4]
  have P4 := Lib.hid p4
  clear hW4 g0 g1 g2 p4 ii iz ih ihz iv ib ho3 HA hi hiz hh hhz hca hcb
  go_loopw [8] (fun i wr => ∃ k : Nat, k ≤ b ∧ i = .int .u8 k ∧ z1 + k ≤ l ∧ PowAt wr P l (z1 + k) ∧ wr.cell? ⟨I, 0, none⟩ = some (.bool v1) ∧ wr.cell? ⟨H, 0, none⟩ = some (.bool true) ∧ OnlyS W.heap.size [P, I, H] W wr) (fun i _ => b - (intOf i).toNat)
  case atStart => exact ⟨0, Nat.zero_le _, rfl, by simpa using hzl, by simpa using P4.out, i4, h4, o4⟩
  case round =>
    obtain ⟨k, hk, rfl, hlk, hpk, hik, hhk, ho⟩ := hrel
    have hvr := ho.cell (p := ⟨V, 0, none⟩) lV n4 hv
    have hso := ho.size
    have HK := Lib.hid hpk
    clear hpk i4 h4 o4 P4 hv
    by_cases hlt : k < b
    · have hin : (k : Int) < (b : Int) := by omega
      by_cases hon : z1 + k < l
      · go_wp2_with (go_at_call 26; refine (tickOn P l (z1 + k) _ HK.out (by omega) (by omega) (.inr hon)).mono ?_; rintro e w5 ⟨rfl, hp5, ho5⟩; have H5 := Lib.hid hp5; clear hp5)
        refine ⟨⟨k + 1, by omega, by go_num, by omega, ?_, ho5.cell (p := ⟨I, 0, none⟩) (by show I < _; omega) d7 hik, ho5.cell (p := ⟨H, 0, none⟩) (by show H < _; omega) d8 hhk, ho.trans ((ho5.list (S := [P, I, H]) (by simp)).mono hso)⟩, ?_⟩
        · rw [show z1 + ((k + 1 : Nat) : Int) = z1 + k + 1 by omega]
          exact H5.out
        · simp [intOf]; omega
      · have hul : z1 + k = l := by omega
        have hnf : v2 = false := by rw [← hv2]; exact decide_eq_false (by omega)
        have huf : z2 = z1 + k := by
          rw [← hz2]
          unfold useF
          rw [show fitB l z1 b = false from decide_eq_false (by omega), hul]
          rfl
        go_wp2_with (go_at_call 26; refine (tickOff P l (z1 + k) _ HK.out hl (by omega)).mono ?_; rintro e w5 ⟨rfl, hp5, ho5⟩; have H5 := Lib.hid hp5; clear hp5)
        refine ⟨rfl, ?_, ?_, ho5.cell (p := ⟨I, 0, none⟩) (by show I < _; omega) d7 hik, ho5.cell (p := ⟨H, 0, none⟩) (by show H < _; omega) d8 hhk, ho.trans ((ho5.list (S := [P, I, H]) (by simp)).mono hso)⟩
        · rw [hnf]; rfl
        · rw [huf]; exact H5.out
    · obtain rfl : k = b := by omega
      have hf : v2 = true := by rw [← hv2]; exact decide_eq_true (by omega)
      have huf : z2 = z1 + k := by
        rw [← hz2]
        unfold useF
        rw [show fitB l z1 k = true from decide_eq_true (by omega)]
        rfl
      go_wp2_with (fail)
      go_end0
      refine ⟨?_, ?_, hik, hhk, ho⟩
      · rw [hf]; rfl
      · rw [huf]; exact HK.out
end Go.Proofs.YtccmalpbejednaaDoor
