/- Choice: how many loose bytes are kept, by bits; a cut out of a file's range. No condition; not too many bytes. -/
import Derived.Test.YtfccoiofpmhbdaaDoorCrash
namespace Go.Proofs.YtfccoiofpmhbdaaDoor
open Go Go.Proofs Go.RowKit

theorem choice4 (b : Nat) (w : World) : Calls Tryd.prog 27 #[.int .u64 b] w fun e w' => e = .returned (.func (.func 39) #[] #[.pointer (some ⟨w.heap.size, 0, none⟩)]) ∧ w'.cell? ⟨w.heap.size, 0, none⟩ = some (.int .u64 b) ∧ Below w.heap.size w w' ∧ w'.heap.size = w.heap.size + 1 := by
  go_enter Tryd.func27, Tryd.ntmps27
  go_wp2_with (fail)
  go_ret
  exact ⟨rfl, by simp, (Below.refl _ _).alloc (Nat.le_refl _) _, by simp⟩
set_option maxHeartbeats 1000000 in
theorem choiceClo (p b n : Nat) (k : Txt) (w : World) (hc : w.cell? ⟨p, 0, none⟩ = some (.int .u64 b)) (hb : b < 2 ^ 64) (hn : n ≤ 1000000000) :
    Calls Tryd.prog 39 #[txt k, .int .i64 n, .pointer (some ⟨p, 0, none⟩)] w fun e w' => e = .returned (.int .i64 (b % (n + 1) : Nat)) ∧ w' = w := by
  obtain ⟨r, hr⟩ : ∃ r : Nat, r = b % (n + 1) := ⟨_, rfl⟩
  have h1 : r ≤ n := by rw [hr]; have := Nat.mod_lt b (show 0 < n + 1 by omega); omega
  have h2 : (b : Int) % ((n : Int) + 1) = (r : Int) := by rw [hr]; push_cast; rfl
  rw [← hr]
  clear hr
  go_enter Tryd.func39, Tryd.ntmps39
  go_wp2_with (fail)
  go_ret
  exact ⟨rfl, rfl⟩
/-- What Choice(b) answers, of n loose bytes. -/
def chB (b : Nat) (_ : Txt) (n : Nat) : Nat := b % (n + 1)
theorem asksChoice (p b : Nat) (C : Nat → Prop) (F : Files) (w : World) (hc : w.cell? ⟨p, 0, none⟩ = some (.int .u64 b)) (hb : b < 2 ^ 64) (hp : ¬ C p) :
    Asks 39 #[.pointer (some ⟨p, 0, none⟩)] C (fun _ => False) F (chB b) (fun _ _ W => W.cell? ⟨p, 0, none⟩ = some (.int .u64 b)) w where
  eg := enters_of Tryd.func39 (by kernel_rfl) rfl
  jc := fun _ h => h.elim
  jlt := fun _ h => h.elim
  start := fun W R hB _ => cellk hB (p := ⟨p, 0, none⟩) (World.block_lt_of_cell? _ _ hc) hc
  stab := fun R done W W' h hm => hm.cellv h hp
  call := fun R done W k bs kept hI hF hk hl hx _ => by
    have := choiceClo p b (bs.length - kept) k W hI hb (by omega)
    rw [show ((bs.length - kept : Nat) : Int) = (bs.length : Int) - (kept : Int) by omega] at this
    refine this.mono ?_
    rintro e w' ⟨rfl, rfl⟩
    exact ⟨rfl, hI, Mod.refl _ _⟩
theorem chB_le (b : Nat) : ∀ (k : Txt) (n : Nat), n ≤ 1000000000 → chB b k n ≤ 1000000000000000000 := fun k n hn => by
  unfold chB
  have := Nat.mod_lt b (show 0 < n + 1 by omega)
  omega
theorem three (k : Txt) (n : Int) (w : World) :
    Calls Tryd.prog 18 #[txt k, .int .i64 n] w fun e w' => e = .returned (.int .i64 3) ∧ w' = w := by
  go_enter Tryd.func18, Tryd.ntmps18
  go_wp2_with (fail)
  go_ret
  exact ⟨rfl, rfl⟩
theorem asksThree (C : Nat → Prop) (F : Files) (w : World) :
    Asks 18 #[] C (fun _ => False) F (fun _ _ => 3) (fun _ _ _ => True) w where
  eg := enters_of Tryd.func18 (by kernel_rfl) rfl
  jc := fun _ h => h.elim
  jlt := fun _ h => h.elim
  start := fun W R hB _ => trivial
  stab := fun R done W W' h hm => trivial
  call := fun R done W k bs kept hI hF hk hl hx _ => by
    refine (three k _ W).mono ?_
    rintro e w' ⟨rfl, rfl⟩
    exact ⟨rfl, trivial, Mod.refl _ _⟩
set_option maxHeartbeats 1000000 in
theorem cutRange (C : Nat → Prop) (N a pw : Nat) (room m : Int) (F : Files) (k : Txt) (bs : List UInt8) (kept : Nat) (w : World) (h : DiskAt w C N a pw room F) (hk : k.length ≤ maxLen) (hF : F k = some (bs, kept)) (hm : m < 0 ∨ (bs.length : Int) < m) :
    Calls Tryd.prog 24 #[.pointer (some ⟨a, 0, none⟩), txt k, .int .i64 m] w fun e w' => e = .returned (.int .i64 1) ∧ w' = w := by
  obtain ⟨mb, P, V, h⟩ := h
  have hM := Lib.hid h.map
  have c1 : w.cell? ⟨a, 1, none⟩ = some (.map (some mb)) := by rw [cell_of_blk h.disk 1]; rfl
  have HR : Hid ((Option.map (fun _ => Value.pointer (some ⟨P k, 0, none⟩)) (F k)) = some (.pointer (some ⟨P k, 0, none⟩))) := Lib.hid (by rw [hF]; rfl)
  obtain ⟨g1, g2, _, _⟩ := h.file k bs kept hF
  obtain ⟨A', c', hV, hc⟩ := g2.form
  have d0 : w.cell? ⟨P k, 0, none⟩ = some (.slice A' bs.length c') := by rw [cell_of_blk g1]; exact congrArg some hV
  clear h hF g1 g2 hV
  by_cases h0 : m < 0
  · have hg : decide (m < 0) = true := decide_eq_true h0
    clear hm
    go_enter Tryd.func24, Tryd.ntmps24
    go_wp2_with (at_lookup; (refine wpList_look rfl _ _ 69 rfl 75 Tryd.underlying69 (zeroFile _) mb N _ rfl hM.out k rfl hk _ HR.out ?_))
    go_ret
    exact ⟨rfl, rfl⟩
  · have hg : decide (m < 0) = false := decide_eq_false h0
    have hg2 : decide ((bs.length : Int) < m) = true := decide_eq_true (hm.resolve_left h0)
    clear hm
    go_enter Tryd.func24, Tryd.ntmps24
    go_wp2_with (at_lookup; (refine wpList_look rfl _ _ 69 rfl 75 Tryd.underlying69 (zeroFile _) mb N _ rfl hM.out k rfl hk _ HR.out ?_))
    go_ret
    exact ⟨rfl, rfl⟩
end Go.Proofs.YtfccoiofpmhbdaaDoor
