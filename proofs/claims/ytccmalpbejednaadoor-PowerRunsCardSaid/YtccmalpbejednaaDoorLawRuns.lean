/- PowerRuns: the call answers true and leaves what was there as it was. Condition: the package's variable 'none' holds what its text lays. -/
import Derived.Test.YtccmalpbejednaaDoorLawMore
namespace Go.Proofs.YtccmalpbejednaaDoor
open Go Go.Proofs Go.RowKit

/-- Of the first B blocks, none but perhaps P and D has changed. -/
structure Only2 (B P D : Nat) (w w' : World) : Prop where
  os : w'.os = w.os
  tape : w'.tape = w.tape
  output : w'.output = w.output
  size : w.heap.size ≤ w'.heap.size
  block : ∀ k, k < B → k ≠ P → k ≠ D → w'.heap[k]? = w.heap[k]?
theorem Only2.refl (B P D : Nat) (w : World) : Only2 B P D w w := ⟨rfl, rfl, rfl, Nat.le_refl _, fun _ _ _ _ => rfl⟩
theorem Only2.trans {B P D : Nat} {a b c : World} (h : Only2 B P D a b) (k : Only2 B P D b c) : Only2 B P D a c :=
  ⟨k.os.trans h.os, k.tape.trans h.tape, k.output.trans h.output, Nat.le_trans h.size k.size, fun i hi hp hd => (k.block i hi hp hd).trans (h.block i hi hp hd)⟩
theorem Only2.mono {B B' P D : Nat} {a b : World} (h : Only2 B P D a b) (hB : B' ≤ B) : Only2 B' P D a b := ⟨h.os, h.tape, h.output, h.size, fun i hi hp hd => h.block i (by omega) hp hd⟩
theorem OnlyP.two {B P : Nat} {a b : World} (h : OnlyP B P a b) (D : Nat) : Only2 B P D a b := ⟨h.os, h.tape, h.output, h.size, fun i hi hp _ => h.block i hi hp⟩
theorem Only2.below {B P D : Nat} {a b : World} (h : Only2 B P D a b) (hP : B ≤ P) (hD : B ≤ D) : Below B a b := ⟨h.os, h.tape, h.output, h.size, fun i hi => h.block i hi (by omega) (by omega)⟩
theorem Only2.cell {B P D : Nat} {a b : World} (h : Only2 B P D a b) {p : Addr} {v : Value} (h1 : p.block < B) (h2 : p.block ≠ P) (h3 : p.block ≠ D) (hc : a.cell? p = some v) : b.cell? p = some v := by
  rw [← hc]
  unfold World.cell?
  rw [h.block _ h1 h2 h3]
theorem Only2.frz {B P D : Nat} {a b : World} (h : Only2 B P D a b) {p : Addr} (h1 : p.block < B) (h2 : p.block ≠ P) (h3 : p.block ≠ D) (hc : a.frozen? p = false) : b.frozen? p = false := by
  rw [← hc]
  unfold World.frozen?
  rw [h.block _ h1 h2 h3]
theorem Only2.setCell {B P D : Nat} {a b : World} (h : Only2 B P D a b) {p : Addr} (v : Value) (hp : B ≤ p.block ∨ p.block = P ∨ p.block = D) : Only2 B P D a (b.setCell p v) := by
  refine ⟨h.os, h.tape, h.output, by simpa using h.size, fun k hk hkp hkd => ?_⟩
  rw [heap_setCell_other b p k v (by omega)]
  exact h.block k hk hkp hkd
theorem Only2.alloc {B P D : Nat} {a b : World} (h : Only2 B P D a b) (hB : B ≤ b.heap.size) (o : Obj) : Only2 B P D a (b.alloc o) := h.trans (((OnlyP.refl _ _ _).alloc hB o).two D)
/-- Ticked, and counted at D besides. -/
def Counted (l u : Int) (n P D : Nat) (w : World) (e : Ending) (w' : World) : Prop :=
  e = (if fitB l u n then .returned (.tuple #[]) else .panicked [{ v := offV, recovered := false }]) ∧ PowAt w' P l (useF l u n) ∧ w'.cell? ⟨D, 0, none⟩ = some (.int .i64 (useF l u n - u)) ∧ w'.frozen? ⟨D, 0, none⟩ = false ∧ Only2 w.heap.size P D w w'
set_option maxHeartbeats 1000000 in
theorem loopDone (C V D P n : Nat) (l u : Int) (W : World) (hn : n < 256) (hc : W.cell? ⟨C, 0, none⟩ = some (.int .u8 n)) (hv : W.cell? ⟨V, 0, none⟩ = some (.pointer (some ⟨P, 0, none⟩))) (hp : PowAt W P l u)
    (hd : W.cell? ⟨D, 0, none⟩ = some (.int .i64 0)) (hdz : W.frozen? ⟨D, 0, none⟩ = false) (h2 : V ≠ P) (h3 : V ≠ D) (h4 : D ≠ P)
    (hu0 : 0 ≤ u) (hu1 : u < 1000000) (hl : l < 0 ∨ u ≤ l) : Calls Tryd.prog 25 #[.pointer (some ⟨C, 0, none⟩), .pointer (some ⟨V, 0, none⟩), .pointer (some ⟨D, 0, none⟩)] W (Counted l u n P D W) := by
  have hvl : V < W.heap.size := World.block_lt_of_cell? _ _ hv
  have hdl : D < W.heap.size := World.block_lt_of_cell? _ _ hd
  go_enter Tryd.func25, Tryd.ntmps25
  go_wp2_with (fail)
  go_loopw [4] (fun i wr => ∃ k : Nat, k ≤ n ∧ i = .int .u8 k ∧ (l < 0 ∨ u + k ≤ l) ∧ PowAt wr P l (u + k) ∧ wr.cell? ⟨D, 0, none⟩ = some (.int .i64 k) ∧ wr.frozen? ⟨D, 0, none⟩ = false ∧ Only2 W.heap.size P D W wr) (fun i _ => n - (intOf i).toNat)
  case atStart => exact ⟨0, Nat.zero_le _, rfl, by simpa using hl, by simpa using hp, hd, hdz, Only2.refl _ _ _ _⟩
  case round =>
    obtain ⟨k, hk, rfl, hlk, hpk, hdk, hzk, ho⟩ := hrel
    have hvr := ho.cell (p := ⟨V, 0, none⟩) hvl h2 h3 hv
    have hso := ho.size
    have HP := Lib.hid hpk
    have hdr : D < wr.heap.size := by omega
    clear hc hv hp hpk hd hdz
    by_cases hlt : k < n
    · have hin : (k : Int) < (n : Int) := by omega
      by_cases hon : l < 0 ∨ u + k < l
      · have HO := Lib.hid hon
        clear hon hlk hl
        go_wp2_with (go_at_call 26; refine (tickOn P l (u + k) _ HP.out (by omega) (by omega) HO.out).mono ?_; rintro e w4 ⟨rfl, hp4, ho4⟩; have HP4 := Lib.hid hp4; clear hp4; have hd4 := ho4.cell (p := ⟨D, 0, none⟩) hdr h4 hdk; have hz4 := ho4.frz (p := ⟨D, 0, none⟩) hdr h4 hzk)
        have ho5 := (ho.trans ((ho4.two D).mono hso)).setCell (p := ⟨D, 0, none⟩) (.int .i64 ((k : Int) + 1)) (.inr (.inr rfl))
        refine ⟨⟨k + 1, by omega, by go_num, ?_, ?_, ?_, ?_, ho5⟩, ?_⟩
        · have := HO.out
          omega
        · have h7 := HP4.out
          rw [show u + ((k + 1 : Nat) : Int) = u + k + 1 by omega]
          have hne : ¬ P = D := fun h => h4 h.symm
          exact ⟨cset h7.h0 (by simpa using hne), cset h7.h1 (by simpa using hne), by have := h7.hf; go_simp⟩
        · go_simp
        · go_simp
        · simp [intOf]; omega
      · have hl0 : 0 ≤ l := by omega
        have hul : u + k = l := by omega
        have hnf : fitB l u n = false := decide_eq_false (by omega)
        have huf : useF l u n = u + k := by unfold useF; rw [hnf, hul]; rfl
        have hlu : l ≤ u + k := by omega
        clear hon hlk hl
        go_wp2_with (go_at_call 26; refine (tickOff P l (u + k) _ HP.out hl0 hlu).mono ?_; rintro e w4 ⟨rfl, hp4, ho4⟩; have HP4 := Lib.hid hp4; clear hp4; have hd4 := ho4.cell (p := ⟨D, 0, none⟩) hdr h4 hdk; have hz4 := ho4.frz (p := ⟨D, 0, none⟩) hdr h4 hzk)
        have ho5 := ho.trans ((ho4.two D).mono hso)
        refine ⟨rfl, ?_, ?_, ?_, hz4, ho5⟩
        · rw [hnf]; rfl
        · rw [huf]; exact HP4.out
        · rw [huf, show u + (k : Int) - u = k by omega]; exact hd4
    · obtain rfl : k = n := by omega
      have hf : fitB l u k = true := decide_eq_true hlk
      have huf : useF l u k = u + k := by unfold useF; rw [hf]; rfl
      clear hlk hl
      go_wp2_with (fail)
      go_end0
      refine ⟨?_, ?_, ?_, hzk, ho⟩
      · rw [hf]; rfl
      · rw [huf]; exact HP.out
      · rw [huf, show u + (k : Int) - u = k by omega]; exact hdk
set_option maxHeartbeats 2000000 in
theorem runDone (C V D P n : Nat) (l u : Int) (v : Bool) (z : Int) (W : World) (hv1 : fitB l u n = v) (hz1 : useF l u n = z) (hn : n < 256) (hc : W.cell? ⟨C, 0, none⟩ = some (.int .u8 n)) (hv : W.cell? ⟨V, 0, none⟩ = some (.pointer (some ⟨P, 0, none⟩))) (hp : PowAt W P l u)
    (hd : W.cell? ⟨D, 0, none⟩ = some (.int .i64 0)) (hdz : W.frozen? ⟨D, 0, none⟩ = false) (h2 : V ≠ P) (h3 : V ≠ D) (h4 : D ≠ P) (hu0 : 0 ≤ u) (hu1 : u < 1000000) (hl : l < 0 ∨ u ≤ l) :
    Calls Tryd.prog 24 #[.func (.func 25) #[] #[.pointer (some ⟨C, 0, none⟩), .pointer (some ⟨V, 0, none⟩), .pointer (some ⟨D, 0, none⟩)]] W fun e w' =>
      e = .returned (.bool v) ∧ PowAt w' P l z ∧ w'.cell? ⟨D, 0, none⟩ = some (.int .i64 (z - u)) ∧ Only2 W.heap.size P D W w' := by
  subst hz1
  have eg : ∀ args w, (callFunc 25 args).run Tryd.prog w = .ok (.enter 25 args) w := enters_of Tryd.func25 (by kernel_rfl) rfl
  have hPl := hp.lt
  have hDl : D < W.heap.size := World.block_lt_of_cell? _ _ hd
  have hzA : (W.alloc (.cells #[.bool false] 4)).frozen? ⟨D, 0, none⟩ = false := falloc hDl hdz _
  have hf := loopDone C V D P n l u (W.alloc (.cells #[.bool false] 4)) hn (calloc hc _) (calloc hv _) (hp.alloc _) (calloc hd _) hzA h2 h3 h4 hu0 hu1 hl
  have hc0 : (W.alloc (.cells #[.bool false] 4)).cell? ⟨W.heap.size, 0, none⟩ = some (.bool false) := by simp
  have hz0 : (W.alloc (.cells #[.bool false] 4)).frozen? ⟨W.heap.size, 0, none⟩ = false := by simp
  have hA : Only2 W.heap.size P D W (W.alloc (.cells #[.bool false] 4)) := (Only2.refl _ _ _ _).alloc (Nat.le_refl _) _
  cases v
  · have h := run_off 25 #[] #[.pointer (some ⟨C, 0, none⟩), .pointer (some ⟨V, 0, none⟩), .pointer (some ⟨D, 0, none⟩)] W (fun w2 => PowAt w2 P l (useF l u n) ∧ w2.cell? ⟨D, 0, none⟩ = some (.int .i64 (useF l u n - u)) ∧ Only2 (W.heap.size + 1) P D (W.alloc (.cells #[.bool false] 4)) w2) eg (hf.mono fun e w2 h => by
      obtain ⟨rfl, h5, h6, h7, h8⟩ := h
      rw [hv1]
      simp only [World.size_alloc] at h8
      exact ⟨rfl, h8.cell (p := ⟨W.heap.size, 0, none⟩) (by simp) (by show W.heap.size ≠ P; omega) (by show W.heap.size ≠ D; omega) hc0, h8.frz (p := ⟨W.heap.size, 0, none⟩) (by simp) (by show W.heap.size ≠ P; omega) (by show W.heap.size ≠ D; omega) hz0, h5, h6, h8⟩)
    refine h.mono ?_
    rintro e w' ⟨rfl, w2, ⟨h5, h6, h8⟩, rfl⟩
    have hs : W.heap.size < w2.heap.size := by have := h8.size; simp at this; omega
    have hb : Below W.heap.size w2 ((w2.setCell ⟨W.heap.size, 0, none⟩ (.bool false)).alloc (.cells #[] 70)) := ((Below.refl _ w2).setCell (p := ⟨W.heap.size, 0, none⟩) (Nat.le_refl _) _).alloc (by simp; omega) _
    exact ⟨rfl, h5.below hb hPl, cellk hb (p := ⟨D, 0, none⟩) hDl h6, ((hA.trans (h8.mono (by omega))).setCell (p := ⟨W.heap.size, 0, none⟩) _ (.inl (Nat.le_refl _))).alloc (by simp; omega) _⟩
  · have h := run_on 25 #[] #[.pointer (some ⟨C, 0, none⟩), .pointer (some ⟨V, 0, none⟩), .pointer (some ⟨D, 0, none⟩)] W (fun w2 => PowAt w2 P l (useF l u n) ∧ w2.cell? ⟨D, 0, none⟩ = some (.int .i64 (useF l u n - u)) ∧ Only2 (W.heap.size + 1) P D (W.alloc (.cells #[.bool false] 4)) w2) eg (hf.mono fun e w2 h => by
      obtain ⟨rfl, h5, h6, h7, h8⟩ := h
      rw [hv1]
      simp only [World.size_alloc] at h8
      exact ⟨rfl, h8.cell (p := ⟨W.heap.size, 0, none⟩) (by simp) (by show W.heap.size ≠ P; omega) (by show W.heap.size ≠ D; omega) hc0, h8.frz (p := ⟨W.heap.size, 0, none⟩) (by simp) (by show W.heap.size ≠ P; omega) (by show W.heap.size ≠ D; omega) hz0, h5, h6, h8⟩)
    refine h.mono ?_
    rintro e w' ⟨rfl, w2, ⟨h5, h6, h8⟩, rfl⟩
    have hb : Below W.heap.size w2 (w2.setCell ⟨W.heap.size, 0, none⟩ (.bool true)) := (Below.refl _ w2).setCell (p := ⟨W.heap.size, 0, none⟩) (Nat.le_refl _) _
    exact ⟨rfl, h5.below hb hPl, cellk hb (p := ⟨D, 0, none⟩) hDl h6, (hA.trans (h8.mono (by omega))).setCell (p := ⟨W.heap.size, 0, none⟩) _ (.inl (Nat.le_refl _))⟩
theorem run28 (C V P n : Nat) (l u : Int) (v : Bool) (z : Int) (W : World) (hv1 : fitB l u n = v) (hz1 : useF l u n = z) (hn : n < 256) (hc : W.cell? ⟨C, 0, none⟩ = some (.int .u8 n)) (hv : W.cell? ⟨V, 0, none⟩ = some (.pointer (some ⟨P, 0, none⟩))) (hp : PowAt W P l u)
    (h2 : V ≠ P) (hu0 : 0 ≤ u) (hu1 : u < 1000000) (hl : l < 0 ∨ u ≤ l) :
    Calls Tryd.prog 24 #[.func (.func 28) #[] #[.pointer (some ⟨C, 0, none⟩), .pointer (some ⟨V, 0, none⟩)]] W fun e w' => e = .returned (.bool v) ∧ PowAt w' P l z ∧ OnlyP W.heap.size P W w' := by
  subst hv1
  subst hz1
  have eg : ∀ args w, (callFunc 28 args).run Tryd.prog w = .ok (.enter 28 args) w := enters_of Tryd.func28 (by kernel_rfl) rfl
  exact runTicks 28 #[] #[.pointer (some ⟨C, 0, none⟩), .pointer (some ⟨V, 0, none⟩)] l u n P W hp.lt eg (loopRuns C V P n l u _ hn (calloc hc _) (calloc hv _) (hp.alloc _) h2 hu0 hu1 hl)
end Go.Proofs.YtccmalpbejednaaDoor
