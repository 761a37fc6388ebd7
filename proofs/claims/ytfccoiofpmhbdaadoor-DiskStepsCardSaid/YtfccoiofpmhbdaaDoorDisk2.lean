/- Disks: New, Power's step, Used, Read, Kept: their contracts. Condition: not too many bytes. -/
import Derived.Test.YtfccoiofpmhbdaaDoorBytes1
namespace Go.Proofs.YtfccoiofpmhbdaaDoor
open Go Go.Proofs Go.RowKit

def PwAt (w : World) (p : Nat) (l u : Int) : Prop := w.heap[p]? = some (.cells #[.int .i64 l, .int .i64 u] 68 (0, 0))
theorem PwAt.mod {w w' : World} {p : Nat} {l u : Int} {F : Nat → Prop} (h : PwAt w p l u) (hm : Mod F w w') (hn : ¬ F p) : PwAt w' p l u := hm.blk h hn
theorem PwAt.below {w w' : World} {p : Nat} {l u : Int} (h : PwAt w p l u) (hb : Below w.heap.size w w') : PwAt w' p l u := h.mod (F := fun _ => False) (Mod.of_below hb) (fun h => h)
theorem PwAt.lt {w : World} {p : Nat} {l u : Int} (h : PwAt w p l u) : p < w.heap.size := lt_of_heap h
theorem tickP (p : Nat) (l u : Int) (w : World) (h : PwAt w p l u) (hu0 : 0 ≤ u) (hu1 : u < 1000000000) (hl : l < 0 ∨ u < l) :
    Calls Tryd.prog 37 #[.pointer (some ⟨p, 0, none⟩)] w fun e w' => e = .returned (.tuple #[]) ∧ PwAt w' p l (u + 1) ∧ Mod (· = p) w w' ∧ w'.heap.size = w.heap.size := by
  have c0 := cell_of_blk h 0
  have c1 := cell_of_blk h 1
  refine (tick_on p l u w c0 c1 (frozen_of_blk h 1) hu0 (by omega) hl).mono ?_
  rintro e w' ⟨rfl, n, rfl⟩
  refine ⟨rfl, ?_, ((Mod.refl (· = p) w).drewN n).setCell (p := ⟨p, 1, none⟩) (fun _ => rfl) _, by simp⟩
  have h' : (w.drewN n).heap[p]? = some (.cells #[.int .i64 l, .int .i64 u] 68 (0, 0)) := h
  simpa [PwAt] using blk_set h' 1 (.int .i64 (u + 1))
theorem newDisk (pw : Nat) (room : Int) (w : World) :
    Calls Tryd.prog 10 #[.pointer (some ⟨pw, 0, none⟩), .int .i64 room] w fun e w' => e = .returned (.pointer (some ⟨w.heap.size + 1, 0, none⟩)) ∧
      DiskAt w' (fun b => b = w.heap.size ∨ b = w.heap.size + 1) 0 (w.heap.size + 1) pw room (fun _ => none) ∧ Below w.heap.size w w' ∧ w'.heap.size = w.heap.size + 2 := by
  have hmm := @run_makeMap Tryd.prog
  go_enter Tryd.func10, Tryd.ntmps10
  go_wp2_with (fail)
  go_ret
  refine ⟨rfl, ⟨w.heap.size, fun _ => 0, fun _ => .slice none 0 0, ?_⟩, ?_, by simp⟩
  · refine ⟨heap_new_at (by simp), (MapAt.made w).alloc _, (fun k bs kept hk => by cases hk), (fun k k' hk => by cases hk), .inr rfl, .inl rfl, fun b hb => ?_⟩
    simp
    rcases hb with rfl | rfl <;> omega
  · exact ((Below.refl _ _).alloc (Nat.le_refl _) _).alloc (by simp) _
theorem newPower (l : Int) (w : World) : Calls Tryd.prog 9 #[.int .i64 l] w fun e w' => e = .returned (.pointer (some ⟨w.heap.size, 0, none⟩)) ∧ PwAt w' w.heap.size l 0 ∧ Below w.heap.size w w' ∧ w'.heap.size = w.heap.size + 1 :=
  (new_any l w).mono fun _ _ ⟨he, hw⟩ => ⟨he, by rw [hw]; exact heap_alloc_new _ _, by rw [hw]; exact (Below.refl _ _).alloc (Nat.le_refl _) _, by rw [hw]; simp⟩
/-- A new disk with a power without end. -/
def RetDisk (w : World) (room : Int) (e : Ending) (w' : World) : Prop := ∃ C a pw, e = .returned (.pointer (some ⟨a, 0, none⟩)) ∧ DiskAt w' C 0 a pw room (fun _ => none) ∧ PwAt w' pw (-1) 0 ∧ ¬ C pw ∧ w.heap.size ≤ pw ∧ (∀ b, C b → w.heap.size ≤ b) ∧ Below w.heap.size w w'
theorem new4 (room : Int) (w : World) : Calls Tryd.prog 6 #[.int .i64 room] w (RetDisk w room) := by
  go_enter Tryd.func6, Tryd.ntmps6
  go_wp2_with (fail)
  refine (newPower (-1) w).mono ?_
  rintro e w1 ⟨rfl, hp1, hb1, hz1⟩
  have HZ1 := Lib.hid hz1
  clear hz1
  go_wp2_with (fail)
  refine (newDisk w.heap.size room w1).mono ?_
  rintro e w2 ⟨rfl, hd2, hb2, hz2⟩
  have HZ2 := Lib.hid hz2
  clear hz2
  go_wp2_with (fail)
  go_ret
  have e1 := HZ1.out
  exact ⟨_, _, _, rfl, hd2, hp1.below hb2, by (rintro (h | h) <;> omega), Nat.le_refl _, by (rintro b (h | h) <;> omega), hb1.trans (hb2.mono hb1.size)⟩
theorem nilPtr (t : TypeId) (w : World) (h : ∀ w : World, (zeroValue t).run Tryd.prog w = .ok (.pointer none) w) : (zeroValue t).run Tryd.prog w = .ok (.pointer none) w := h w
theorem zeroFile (w : World) : (zeroValue 75).run Tryd.prog w = .ok (.pointer none) w := by kernel_rfl
set_option maxHeartbeats 1000000 in
theorem usedD (C : Nat → Prop) (N a pw t : Nat) (room : Int) (F : Files) (w : World) (h : DiskAt w C N a pw room F) (ht : Total F t) (hb : t ≤ 1000000000) :
    Calls Tryd.prog 32 #[.pointer (some ⟨a, 0, none⟩)] w fun e w' => e = .returned (.int .i64 t) ∧ Below w.heap.size w w' := by
  obtain ⟨mb, P, V, h⟩ := h
  have hm := h.map
  have c1 := cell_of_blk h.disk 1
  have hD := Lib.hid h
  have hM := Lib.hid hm
  have hT := Lib.hid ht
  clear hm ht h
  go_enter Tryd.func32, Tryd.ntmps32
  go_wp2_with (at_range; (refine wpList_range_map rfl _ 69 rfl 75 Tryd.underlying69 mb N _ rfl hM.out ?_; intro w1 cnt hr1 hg1 hz1))
  have hb1 : Below w.heap.size w w1 := (Below.refl _ _).grown hg1 (Nat.le_refl _) (fun j hj => by cases hj)
  have HZ1 := Lib.hid hz1
  clear hz1 hg1
  go_frame
  go_loopw [3, 5, 11] (fun s _ _ wr => ∃ (done : List Txt) (cnt : Nat), s = .int .i64 (sumF F done) ∧ RangeAt wr mb w.heap.size N (fun k => (F k).map fun _ => .pointer (some ⟨P k, 0, none⟩)) done cnt ∧ Below w.heap.size w wr) (fun _ _ _ wr => wr.rangeLeft mb w.heap.size)
  case atStart => exact ⟨[], cnt, rfl, hr1, hb1⟩
  case round =>
    obtain ⟨done, cnt', rfl, hr, hb⟩ := hrel
    have hle := hr.left_eq
    have HLE := Lib.hid hle
    have HR := Lib.hid hr
    clear hle hr hr1 hb1
    go_wp2_with (at_next; (refine wpList_next_map rfl _ rfl mb w.heap.size N _ done cnt' rfl HR.out ?_ ?_))
    · intro hall
      have hdone : sumF F done = t := by
        obtain ⟨_, _, _, _, _, h4, h5⟩ := HR.out
        exact hT.out.of_done h4 (fun k hk => by have := h5 k hk; simpa using this) hall
      have HD := Lib.hid hdone
      clear hdone
      go_wp2_with (fail)
      go_ret
      exact ⟨by rw [← HD.out]; rfl, hb⟩
    · intro k v w' cnt2 bs kept hF hv hnd hkl hr2 hlt hg2 hz2 hen
      subst hv
      have hb2 : Below w.heap.size w w' := hb.grown hg2 hb.size (fun j hj => by injection hj with hj; omega)
      obtain ⟨f1, f2, f3, f4⟩ := hD.out.file k bs kept hF
      obtain ⟨A, c, hV, hc⟩ := f2.form
      have d0 : w'.cell? ⟨P k, 0, none⟩ = some (.slice A bs.length c) := by
        rw [hb2.cell (p := ⟨P k, 0, none⟩) (lt_of_heap f1), cell_of_blk f1]
        exact congrArg some hV
      have hsum : sumF F (k :: done) ≤ t := by
        obtain ⟨_, _, _, _, _, h4, h5⟩ := hr2
        exact hT.out.part h4 (fun k hk => by have := h5 k hk; simpa using this)
      have hsc := sumF_cons F k done
      have hlk : lenF F k = bs.length := by simp [lenF, hF]
      have hsc' : sumF F (k :: done) = sumF F done + bs.length := by rw [hsc, hlk]; omega
      have hbound : sumF F done + bs.length ≤ 1000000000 := by omega
      have HS := Lib.hid hsc'
      have HR2 := Lib.hid hr2
      have HEN := Lib.hid hen
      clear hsc hlk hsc' hr2 f1 f2 f3 f4 hV hF hz2 hnd hsum HR c1
      generalize sumF F done = sd at *
      go_wp2_with (fail)
      refine ⟨⟨k :: done, cnt2, by rw [HS.out]; go_num, HR2.out, hb2⟩, ?_⟩
      rw [HR2.out.left_eq, HLE.out]
      exact hlt
/-- What Read answers of a file that is there. -/
def RetRead (w : World) (bs : List UInt8) (e : Ending) (w' : World) : Prop := ∃ v A c, v = .slice A bs.length c ∧ e = .returned (.tuple #[v, .bool true]) ∧ RowW w' 5 v bs.length (bv bs) ∧ (∀ g, v.ownBlock = some g → w.heap.size ≤ g) ∧ Below w.heap.size w w'
theorem owns_new_block {w : World} {base e n : Nat} {v : Value} {xs : List Value} (h : w.ownsRow base e 1 v n xs) : ∀ g, v.ownBlock = some g → base ≤ g := fun g hg => (h.lt g hg).1
set_option maxHeartbeats 1000000 in
theorem readD (C : Nat → Prop) (N a pw : Nat) (room : Int) (F : Files) (k : Txt) (bs : List UInt8) (kept : Nat) (w : World) (h : DiskAt w C N a pw room F) (hk : k.length ≤ maxLen) (hF : F k = some (bs, kept)) (hb : bs.length ≤ 1000000000) :
    Calls Tryd.prog 19 #[.pointer (some ⟨a, 0, none⟩), txt k] w (RetRead w bs) := by
  obtain ⟨mb, P, V, h⟩ := h
  have hM := Lib.hid h.map
  have c1 := cell_of_blk h.disk 1
  obtain ⟨f1, f2, f3, f4⟩ := h.file k bs kept hF
  obtain ⟨A, c, hV, hc⟩ := f2.form
  have d0 : w.cell? ⟨P k, 0, none⟩ = some (.slice A bs.length c) := by rw [cell_of_blk f1]; exact congrArg some hV
  have hr : (Option.map (fun _ => Value.pointer (some ⟨P k, 0, none⟩)) (F k)) = some (.pointer (some ⟨P k, 0, none⟩)) := by rw [hF]; rfl
  have HR := Lib.hid hr
  have HC := cloneB A bs.length c w.heap.size (bv bs) w (by rw [hV] at f2; exact f2.reads) (Nat.le_refl _) (bv_one bs) hb
  clear h f1 f2 f3 f4 hV hF hr
  go_enter Tryd.func19, Tryd.ntmps19
  go_wp2_with (first
    | (at_lookup; (refine wpList_look rfl _ _ 69 rfl 75 Tryd.underlying69 (zeroFile _) mb N _ rfl hM.out k rfl hk _ HR.out ?_))
    | (go_at_call 25; refine HC.mono ?_; rintro e w1 ⟨v, rfl, hown, hb1⟩))
  go_ret2
  have hrow := RowW.of_owns hown
  obtain ⟨A', c', hv, _⟩ := hrow.form
  exact ⟨v, A', c', hv, rfl, hrow, owns_new_block hown, hb1⟩
set_option maxHeartbeats 1000000 in
theorem readD_none (C : Nat → Prop) (N a pw : Nat) (room : Int) (F : Files) (k : Txt) (w : World) (h : DiskAt w C N a pw room F) (hk : k.length ≤ maxLen) (hF : F k = none) :
    Calls Tryd.prog 19 #[.pointer (some ⟨a, 0, none⟩), txt k] w fun e w' => e = .returned (.tuple #[.slice none 0 0, .bool false]) ∧ w' = w := by
  obtain ⟨mb, P, V, h⟩ := h
  have hM := Lib.hid h.map
  have c1 := cell_of_blk h.disk 1
  have hr : (Option.map (fun _ => Value.pointer (some ⟨P k, 0, none⟩)) (F k)) = none := by rw [hF]; rfl
  have HR := Lib.hid hr
  clear h hF hr
  go_enter Tryd.func19, Tryd.ntmps19
  go_wp2_with (at_lookup; (refine wpList_look rfl _ _ 69 rfl 75 Tryd.underlying69 (zeroFile _) mb N _ rfl hM.out k rfl hk _ HR.out ?_))
  go_ret2
  exact ⟨rfl, rfl⟩
def keptF (F : Files) (k : FName) : Nat := match F k with
  | some x => x.2
  | none => 0
set_option maxHeartbeats 1000000 in
theorem keptD (C : Nat → Prop) (N a pw : Nat) (room : Int) (F : Files) (k : Txt) (w : World) (h : DiskAt w C N a pw room F) (hk : k.length ≤ maxLen) :
    Calls Tryd.prog 20 #[.pointer (some ⟨a, 0, none⟩), txt k] w fun e w' => e = .returned (.int .i64 (keptF F k)) ∧ w' = w := by
  obtain ⟨mb, P, V, h⟩ := h
  have hM := Lib.hid h.map
  have c1 := cell_of_blk h.disk 1
  cases hF : F k with
  | none =>
    have hr : (Option.map (fun _ => Value.pointer (some ⟨P k, 0, none⟩)) (F k)) = none := by rw [hF]; rfl
    have HR := Lib.hid hr
    have e0 : keptF F k = 0 := by simp [keptF, hF]
    rw [e0]
    clear h hF hr e0
    go_enter Tryd.func20, Tryd.ntmps20
    go_wp2_with (at_lookup; (refine wpList_look rfl _ _ 69 rfl 75 Tryd.underlying69 (zeroFile _) mb N _ rfl hM.out k rfl hk _ HR.out ?_))
    go_ret
    exact ⟨rfl, rfl⟩
  | some x =>
    obtain ⟨bs, kept⟩ := x
    have hr : (Option.map (fun _ => Value.pointer (some ⟨P k, 0, none⟩)) (F k)) = some (.pointer (some ⟨P k, 0, none⟩)) := by rw [hF]; rfl
    have HR := Lib.hid hr
    have e0 : keptF F k = kept := by simp [keptF, hF]
    rw [e0]
    have d1 : w.cell? ⟨P k, 1, none⟩ = some (.int .i64 kept) := by rw [cell_of_blk (h.file k bs kept hF).1]; rfl
    clear h hF hr e0
    go_enter Tryd.func20, Tryd.ntmps20
    go_wp2_with (at_lookup; (refine wpList_look rfl _ _ 69 rfl 75 Tryd.underlying69 (zeroFile _) mb N _ rfl hM.out k rfl hk _ HR.out ?_))
    go_ret
    exact ⟨rfl, rfl⟩
end Go.Proofs.YtfccoiofpmhbdaaDoor
