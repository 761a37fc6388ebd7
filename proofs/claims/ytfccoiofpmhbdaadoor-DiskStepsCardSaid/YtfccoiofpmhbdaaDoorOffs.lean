/- A disk's steps, the power being gone. Condition: the disk is as told. -/
import Derived.Test.YtfccoiofpmhbdaaDoorDS
namespace Go.Proofs.YtfccoiofpmhbdaaDoor
open Go Go.Proofs Go.RowKit

theorem tickX (p : Nat) (l u : Int) (w : World) (h : PwAt w p l u) (hl : 0 ≤ l) (hu : l ≤ u) :
    Calls Tryd.prog 37 #[.pointer (some ⟨p, 0, none⟩)] w fun e w' => e = .panicked [{ v := offV, recovered := false }] ∧ Below w.heap.size w w' := by
  have c0 : w.cell? ⟨p, 0, none⟩ = some (.int .i64 l) := by rw [cell_of_blk h]; rfl
  have c1 : w.cell? ⟨p, 1, none⟩ = some (.int .i64 u) := by rw [cell_of_blk h]; rfl
  refine (tick_off p l u w c0 c1 hl hu).mono ?_
  rintro e w' ⟨rfl, n, rfl⟩
  exact ⟨rfl, bdrewN (Below.refl _ _) n⟩
set_option maxHeartbeats 2000000 in
set_option maxRecDepth 100000 in
theorem dsAppendOff (B : Nat) (C : Nat → Prop) (nb a pw t : Nat) (l u room : Int) (F : Files) (k : Txt) (A : Option Addr) (n c : Nat) (w : World) (hd : DS B w C nb a pw l u room F t) (hl : 0 ≤ l) (hu : l ≤ u) (hn : n ≤ 1000000) (hroom : (t : Int) + n ≤ room) :
    Calls Tryd.prog 16 #[.pointer (some ⟨a, 0, none⟩), txt k, .slice A n c] w fun e w' => e = .panicked [{ v := offV, recovered := false }] ∧ Below w.heap.size w w' := by
  obtain ⟨N, hN, h⟩ := hd.disk
  have hr1 := hd.r1
  have ht := hd.tot
  have hp := hd.pow
  have hb : t ≤ 1000000000 := by have := hd.t1; omega
  have hD := Lib.hid h
  have hT := Lib.hid ht
  obtain ⟨mb, P, V, h⟩ := h
  have c2 : w.cell? ⟨a, 2, none⟩ = some (.int .i64 room) := by rw [cell_of_blk h.disk 2]; rfl
  have ha := lt_of_heap h.disk
  have hg : decide (room - (t : Int) < (n : Int)) = false := decide_eq_false (by omega)
  have hw : IntKind.i64.wrap (room - (t : Int)) = room - (t : Int) := IntWalk.i64_in _ (by have := hd.r0; omega)
  have hDI := Lib.hid h
  have hPw := Lib.hid hp
  clear h ht hp hd
  go_enter Tryd.func16, Tryd.ntmps16
  go_wp2_with (fail)
  go_region_with (go_at_call 32; refine (usedD C N a pw t room F _ hD.out.drew hT.out hb).mono ?_; rintro e w1 ⟨rfl, hb1⟩; have c3 := cellk hb1 (p := ⟨a, 2, none⟩) ha c2)
  all_goals
    replace hb1 := bundrew hb1
    clear hw hg c3
    have hD1 : DiskIn w1 C N a pw mb room F P V := hDI.out.mod (G := fun _ => False) (Mod.of_below hb1) (fun _ _ h => h)
    have hp1 := hPw.out.below hb1
    have e0 : w1.cell? ⟨a, 0, none⟩ = some (.pointer (some ⟨pw, 0, none⟩)) := by rw [cell_of_blk hD1.disk 0]; rfl
    clear hD1
    go_wp2_with (fail)
    refine (tickX pw l u _ hp1 hl hu).mono ?_
    rintro e w2 ⟨rfl, hb2⟩
    go_wp2_with (fail)
    exact ⟨rfl, rfl, hb1.trans (hb2.mono hb1.size)⟩
set_option maxHeartbeats 2000000 in
set_option maxRecDepth 100000 in
theorem dsSyncOff (B : Nat) (C : Nat → Prop) (nb a pw t : Nat) (l u room : Int) (F : Files) (k : Txt) (bs : List UInt8) (kept : Nat) (w : World) (hd : DS B w C nb a pw l u room F t) (hl : 0 ≤ l) (hu : l ≤ u) (hk : k.length ≤ maxLen) (hF : F k = some (bs, kept)) :
    Calls Tryd.prog 21 #[.pointer (some ⟨a, 0, none⟩), txt k] w fun e w' => e = .panicked [{ v := offV, recovered := false }] ∧ Below w.heap.size w w' := by
  obtain ⟨N, hN, mb, P, V, h⟩ := hd.disk
  have hp := hd.pow
  have hM := Lib.hid h.map
  have c0 : w.cell? ⟨a, 0, none⟩ = some (.pointer (some ⟨pw, 0, none⟩)) := by rw [cell_of_blk h.disk 0]; rfl
  have c1 : w.cell? ⟨a, 1, none⟩ = some (.map (some mb)) := by rw [cell_of_blk h.disk 1]; rfl
  have HR : Hid ((Option.map (fun _ => Value.pointer (some ⟨P k, 0, none⟩)) (F k)) = some (.pointer (some ⟨P k, 0, none⟩))) := Lib.hid (by rw [hF]; rfl)
  have HP := Lib.hid hp
  clear h hF hp hd
  go_enter Tryd.func21, Tryd.ntmps21
  go_wp2_with (at_lookup; (refine wpList_look rfl _ _ 69 rfl 75 Tryd.underlying69 (zeroFile _) mb N _ rfl hM.out k rfl hk _ HR.out ?_))
  refine (tickX pw l u _ HP.out hl hu).mono ?_
  rintro e w2 ⟨rfl, hb2⟩
  go_wp2_with (fail)
  exact ⟨rfl, rfl, hb2⟩
set_option maxHeartbeats 2000000 in
set_option maxRecDepth 100000 in
theorem dsCutOff (B : Nat) (C : Nat → Prop) (nb a pw t m : Nat) (l u room : Int) (F : Files) (k : Txt) (bs : List UInt8) (kept : Nat) (w : World) (hd : DS B w C nb a pw l u room F t) (hl : 0 ≤ l) (hu : l ≤ u) (hk : k.length ≤ maxLen) (hF : F k = some (bs, kept)) (hm : m ≤ bs.length) :
    Calls Tryd.prog 24 #[.pointer (some ⟨a, 0, none⟩), txt k, .int .i64 m] w fun e w' => e = .panicked [{ v := offV, recovered := false }] ∧ Below w.heap.size w w' := by
  obtain ⟨N, hN, mb, P, V, h⟩ := hd.disk
  have hp := hd.pow
  have hM := Lib.hid h.map
  have c0 : w.cell? ⟨a, 0, none⟩ = some (.pointer (some ⟨pw, 0, none⟩)) := by rw [cell_of_blk h.disk 0]; rfl
  have c1 : w.cell? ⟨a, 1, none⟩ = some (.map (some mb)) := by rw [cell_of_blk h.disk 1]; rfl
  have HR : Hid ((Option.map (fun _ => Value.pointer (some ⟨P k, 0, none⟩)) (F k)) = some (.pointer (some ⟨P k, 0, none⟩))) := Lib.hid (by rw [hF]; rfl)
  obtain ⟨g1, g2, _, _⟩ := h.file k bs kept hF
  obtain ⟨A', c', hV, hc⟩ := g2.form
  have d0 : w.cell? ⟨P k, 0, none⟩ = some (.slice A' bs.length c') := by rw [cell_of_blk g1]; exact congrArg some hV
  have HP := Lib.hid hp
  have hm0 : (0 : Int) ≤ (m : Int) := by omega
  have hm1 : decide ((bs.length : Int) < (m : Int)) = false := by simp; omega
  clear h hF hp g1 g2 hV hd
  go_enter Tryd.func24, Tryd.ntmps24
  go_wp2_with (at_lookup; (refine wpList_look rfl _ _ 69 rfl 75 Tryd.underlying69 (zeroFile _) mb N _ rfl hM.out k rfl hk _ HR.out ?_))
  refine (tickX pw l u _ HP.out hl hu).mono ?_
  rintro e w2 ⟨rfl, hb2⟩
  go_wp2_with (fail)
  exact ⟨rfl, rfl, hb2⟩
set_option maxHeartbeats 2000000 in
set_option maxRecDepth 100000 in
theorem dsMoveOff (B : Nat) (C : Nat → Prop) (nb a pw t : Nat) (l u room : Int) (F : Files) (k k' : Txt) (bs : List UInt8) (kept : Nat) (w : World) (hd : DS B w C nb a pw l u room F t) (hl : 0 ≤ l) (hu : l ≤ u) (hk : k.length ≤ maxLen) (hF : F k = some (bs, kept)) :
    Calls Tryd.prog 22 #[.pointer (some ⟨a, 0, none⟩), txt k, txt k'] w fun e w' => e = .panicked [{ v := offV, recovered := false }] ∧ Below w.heap.size w w' := by
  obtain ⟨N, hN, mb, P, V, h⟩ := hd.disk
  have hp := hd.pow
  have hM := Lib.hid h.map
  have c0 : w.cell? ⟨a, 0, none⟩ = some (.pointer (some ⟨pw, 0, none⟩)) := by rw [cell_of_blk h.disk 0]; rfl
  have c1 : w.cell? ⟨a, 1, none⟩ = some (.map (some mb)) := by rw [cell_of_blk h.disk 1]; rfl
  have HR : Hid ((Option.map (fun _ => Value.pointer (some ⟨P k, 0, none⟩)) (F k)) = some (.pointer (some ⟨P k, 0, none⟩))) := Lib.hid (by rw [hF]; rfl)
  have HP := Lib.hid hp
  clear h hF hp hd
  go_enter Tryd.func22, Tryd.ntmps22
  go_wp2_with (at_lookup; (refine wpList_look rfl _ _ 69 rfl 75 Tryd.underlying69 (zeroFile _) mb N _ rfl hM.out k rfl hk _ HR.out ?_))
  refine (tickX pw l u _ HP.out hl hu).mono ?_
  rintro e w2 ⟨rfl, hb2⟩
  go_wp2_with (fail)
  exact ⟨rfl, rfl, hb2⟩
set_option maxHeartbeats 2000000 in
set_option maxRecDepth 100000 in
theorem dsRemoveOff (B : Nat) (C : Nat → Prop) (nb a pw t : Nat) (l u room : Int) (F : Files) (k : Txt) (bs : List UInt8) (kept : Nat) (w : World) (hd : DS B w C nb a pw l u room F t) (hl : 0 ≤ l) (hu : l ≤ u) (hk : k.length ≤ maxLen) (hF : F k = some (bs, kept)) :
    Calls Tryd.prog 23 #[.pointer (some ⟨a, 0, none⟩), txt k] w fun e w' => e = .panicked [{ v := offV, recovered := false }] ∧ Below w.heap.size w w' := by
  obtain ⟨N, hN, mb, P, V, h⟩ := hd.disk
  have hp := hd.pow
  have hM := Lib.hid h.map
  have c0 : w.cell? ⟨a, 0, none⟩ = some (.pointer (some ⟨pw, 0, none⟩)) := by rw [cell_of_blk h.disk 0]; rfl
  have c1 : w.cell? ⟨a, 1, none⟩ = some (.map (some mb)) := by rw [cell_of_blk h.disk 1]; rfl
  have HR : Hid ((Option.map (fun _ => Value.pointer (some ⟨P k, 0, none⟩)) (F k)) = some (.pointer (some ⟨P k, 0, none⟩))) := Lib.hid (by rw [hF]; rfl)
  have HP := Lib.hid hp
  clear h hF hp hd
  go_enter Tryd.func23, Tryd.ntmps23
  go_wp2_with (at_lookup; (refine wpList_look rfl _ _ 69 rfl 75 Tryd.underlying69 (zeroFile _) mb N _ rfl hM.out k rfl hk _ HR.out ?_))
  refine (tickX pw l u _ HP.out hl hu).mono ?_
  rintro e w2 ⟨rfl, hb2⟩
  go_wp2_with (fail)
  exact ⟨rfl, rfl, hb2⟩
end Go.Proofs.YtfccoiofpmhbdaaDoor
