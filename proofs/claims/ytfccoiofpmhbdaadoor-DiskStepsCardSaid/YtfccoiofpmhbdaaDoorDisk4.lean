/- Disks: Sync, Move, Remove, Cut: their contracts. Condition: not too many bytes; the power stays. -/
import Derived.Test.YtfccoiofpmhbdaaDoorDisk3
namespace Go.Proofs.YtfccoiofpmhbdaaDoor
open Go Go.Proofs Go.RowKit

/-- Behind a step of the power alone, and a turn of the disk's own blocks. -/
theorem step_end {w w2 w3 : World} {C : Nat → Prop} {N' a pw : Nat} {room l u : Int} {F' : Files} (hD : DiskAt w3 C N' a pw room F') (hpC : ¬ C pw) (hp : PwAt w2 pw l (u + 1)) (hm2 : Mod (· = pw) w w2) (hm3 : Mod C w2 w3) : RetStep w C N' a pw l u room F' (.returned (.int .i64 0)) w3 :=
  ⟨C, rfl, hD, fun _ hb => .inl hb, hp.mod hm3 hpC, hpC, (hm2.mono fun _ _ h => .inr h).trans hm3 fun _ _ h => .inl h⟩
set_option maxHeartbeats 2000000 in
theorem syncD (C : Nat → Prop) (N a pw : Nat) (l u room : Int) (F : Files) (k : Txt) (bs : List UInt8) (kept : Nat) (w : World) (h : DiskAt w C N a pw room F) (hp : PwAt w pw l u) (hpC : ¬ C pw) (hu0 : 0 ≤ u) (hu1 : u < 1000000000) (hl : l < 0 ∨ u < l) (hk : k.length ≤ maxLen) (hF : F k = some (bs, kept)) :
    Calls Tryd.prog 21 #[.pointer (some ⟨a, 0, none⟩), txt k] w (RetStep w C N a pw l u room (putF F k (bs, bs.length))) := by
  obtain ⟨mb, P, V, h⟩ := h
  have hM := Lib.hid h.map
  have c0 : w.cell? ⟨a, 0, none⟩ = some (.pointer (some ⟨pw, 0, none⟩)) := by rw [cell_of_blk h.disk 0]; rfl
  have c1 : w.cell? ⟨a, 1, none⟩ = some (.map (some mb)) := by rw [cell_of_blk h.disk 1]; rfl
  have HR : Hid ((Option.map (fun _ => Value.pointer (some ⟨P k, 0, none⟩)) (F k)) = some (.pointer (some ⟨P k, 0, none⟩))) := Lib.hid (by rw [hF]; rfl)
  have HD := Lib.hid h
  have HF := Lib.hid hF
  have HP := Lib.hid hp
  clear h hF hp
  go_enter Tryd.func21, Tryd.ntmps21
  go_wp2_with (at_lookup; (refine wpList_look rfl _ _ 69 rfl 75 Tryd.underlying69 (zeroFile _) mb N _ rfl hM.out k rfl hk _ HR.out ?_))
  refine (tickP pw l u _ HP.out hu0 hu1 hl).mono ?_
  rintro e w2 ⟨rfl, hp2, hm2, hz2⟩
  have hD2 : DiskIn w2 C N a pw mb room F P V := HD.out.mod hm2 (fun b hb e => hpC (e ▸ hb))
  obtain ⟨f1, f2, f3, f4⟩ := hD2.file k bs kept HF.out
  obtain ⟨A', c', hV, hc⟩ := f2.form
  have d0 : w2.cell? ⟨P k, 0, none⟩ = some (.slice A' bs.length c') := by rw [cell_of_blk f1]; exact congrArg some hV
  have d1 : w2.cell? ⟨P k, 1, none⟩ = some (.int .i64 kept) := by rw [cell_of_blk f1]; rfl
  have q1 := frozen_of_blk f1 1
  have HD2 := Lib.hid hD2
  have HP2 := Lib.hid hp2
  clear hz2 hD2 f1 f2 hV c0 c1 hp2
  go_wp2_with (fail)
  go_ret
  exact step_end ⟨mb, P, V, HD2.out.setKept HF.out bs.length⟩ hpC HP2.out hm2 ((Mod.refl _ _).setCell (p := ⟨P k, 1, none⟩) (fun _ => f3) _)
set_option maxHeartbeats 2000000 in
theorem removeD (C : Nat → Prop) (N a pw : Nat) (l u room : Int) (F : Files) (k : Txt) (x : List UInt8 × Nat) (w : World) (h : DiskAt w C N a pw room F) (hp : PwAt w pw l u) (hpC : ¬ C pw) (hu0 : 0 ≤ u) (hu1 : u < 1000000000) (hl : l < 0 ∨ u < l) (hk : k.length ≤ maxLen) (hF : F k = some x) :
    Calls Tryd.prog 23 #[.pointer (some ⟨a, 0, none⟩), txt k] w (RetStep w C N a pw l u room (delF_ F k)) := by
  obtain ⟨mb, P, V, h⟩ := h
  have hM := Lib.hid h.map
  have c0 : w.cell? ⟨a, 0, none⟩ = some (.pointer (some ⟨pw, 0, none⟩)) := by rw [cell_of_blk h.disk 0]; rfl
  have c1 : w.cell? ⟨a, 1, none⟩ = some (.map (some mb)) := by rw [cell_of_blk h.disk 1]; rfl
  have HR : Hid ((Option.map (fun _ => Value.pointer (some ⟨P k, 0, none⟩)) (F k)) = some (.pointer (some ⟨P k, 0, none⟩))) := Lib.hid (by rw [hF]; rfl)
  have HD := Lib.hid h
  have HP := Lib.hid hp
  clear h hF hp
  go_enter Tryd.func23, Tryd.ntmps23
  go_wp2_with (at_lookup; (refine wpList_look rfl _ _ 69 rfl 75 Tryd.underlying69 (zeroFile _) mb N _ rfl hM.out k rfl hk _ HR.out ?_))
  refine (tickP pw l u _ HP.out hu0 hu1 hl).mono ?_
  rintro e w2 ⟨rfl, hp2, hm2, hz2⟩
  have hD2 : DiskIn w2 C N a pw mb room F P V := HD.out.mod hm2 (fun b hb e => hpC (e ▸ hb))
  have c1' : w2.cell? ⟨a, 1, none⟩ = some (.map (some mb)) := by rw [cell_of_blk hD2.disk 1]; rfl
  have HD2 := Lib.hid hD2
  have HP2 := Lib.hid hp2
  have HM2 := Lib.hid hD2.map
  have hcm := hD2.cm
  clear hz2 hD2 c0 c1 hp2
  go_wp2_with (at_delete; (refine wpList_drop rfl _ _ 69 rfl 75 Tryd.underlying69 mb N _ rfl HM2.out k rfl hk ?_; intro w3 hM3 hg3 hz3))
  go_ret
  exact step_end ⟨mb, P, V, HD2.out.drop k hM3 hg3⟩ hpC HP2.out hm2 ((Mod.refl _ _).grown hg3 (fun g hg _ => by injection hg with hg; exact hg ▸ hcm))
set_option maxHeartbeats 2000000 in
theorem moveD (C : Nat → Prop) (N a pw : Nat) (l u room : Int) (F : Files) (k k' : Txt) (bs : List UInt8) (kept : Nat) (w : World) (h : DiskAt w C N a pw room F) (hp : PwAt w pw l u) (hpC : ¬ C pw) (hu0 : 0 ≤ u) (hu1 : u < 1000000000) (hl : l < 0 ∨ u < l) (hk : k.length ≤ maxLen) (hk' : k'.length ≤ maxLen) (hN : N ≤ 1000000000) (hF : F k = some (bs, kept)) :
    Calls Tryd.prog 22 #[.pointer (some ⟨a, 0, none⟩), txt k, txt k'] w (RetStep w C (N + 1) a pw l u room (putF (delF_ F k) k' (bs, kept))) := by
  obtain ⟨mb, P, V, h⟩ := h
  have hM := Lib.hid h.map
  have c0 : w.cell? ⟨a, 0, none⟩ = some (.pointer (some ⟨pw, 0, none⟩)) := by rw [cell_of_blk h.disk 0]; rfl
  have c1 : w.cell? ⟨a, 1, none⟩ = some (.map (some mb)) := by rw [cell_of_blk h.disk 1]; rfl
  have HR : Hid ((Option.map (fun _ => Value.pointer (some ⟨P k, 0, none⟩)) (F k)) = some (.pointer (some ⟨P k, 0, none⟩))) := Lib.hid (by rw [hF]; rfl)
  have HD := Lib.hid h
  have HF := Lib.hid hF
  have HP := Lib.hid hp
  clear h hF hp
  go_enter Tryd.func22, Tryd.ntmps22
  go_wp2_with (at_lookup; (refine wpList_look rfl _ _ 69 rfl 75 Tryd.underlying69 (zeroFile _) mb N _ rfl hM.out k rfl hk _ HR.out ?_))
  refine (tickP pw l u _ HP.out hu0 hu1 hl).mono ?_
  rintro e w2 ⟨rfl, hp2, hm2, hz2⟩
  have hD2 : DiskIn w2 C N a pw mb room F P V := HD.out.mod hm2 (fun b hb e => hpC (e ▸ hb))
  have c1' : w2.cell? ⟨a, 1, none⟩ = some (.map (some mb)) := by rw [cell_of_blk hD2.disk 1]; rfl
  have HD2 := Lib.hid hD2
  have HP2 := Lib.hid hp2
  have HM2 := Lib.hid hD2.map
  have hcm := hD2.cm
  have ham : a ≠ mb := (hD2.kinds HF.out).2.2.1
  have hal : a < w2.heap.size := lt_of_heap hD2.disk
  have hne : some a ≠ some mb := fun e => ham (by injection e)
  clear hz2 hD2 c0 c1 hp2
  go_wp2_with (first
    | (at_delete; (refine wpList_drop rfl _ _ 69 rfl 75 Tryd.underlying69 mb N _ rfl HM2.out k rfl hk ?_; intro w3 hM3 hg3 hz3; have HM3 := Lib.hid hM3; have HZ3 := Lib.hid hz3; have c1'' := (hg3.cell_far ⟨a, 1, none⟩ hal hne).trans c1'; clear hM3 hz3))
    | (at_mapUpdate; (refine wpList_store rfl _ _ _ 69 rfl 75 Tryd.underlying69 mb N _ rfl HM3.out (by unfold maxLen; omega) k' (.pointer (some ⟨P k, 0, none⟩)) rfl hk' rfl ?_; intro w4 hM4 hg4 hz4)))
  go_ret
  have hm23 : Mod (· = mb) w2 w3 := (Mod.refl _ _).grown hg3 (fun g hg _ => by injection hg with hg; exact hg.symm)
  have hD3 := HD2.out.drop k HM3.out hg3
  obtain ⟨f1, f2, f3, f4⟩ := HD2.out.file k bs kept HF.out
  obtain ⟨k1, k2, _, k4⟩ := HD2.out.kinds HF.out
  have hM4' : MapAt w4 mb (N + 1) (putM (fun y => (delF_ F k y).map fun _ => Value.pointer (some ⟨P y, 0, none⟩)) k' (.pointer (some ⟨P k, 0, none⟩))) := hM4.congr fun y => by
    unfold putM delM delF_
    by_cases h1 : y = k'
    · rw [if_pos h1, if_pos h1]
    · rw [if_neg h1, if_neg h1]
      by_cases h2 : y = k
      · simp [h2]
      · simp [h2]
  have hD4 := hD3.back (hm23.blk f1 k2) (f2.mod hm23 fun g hg => (k4 g hg).2.1) f3 f4 (fun y hy hyk => by
    have hyk' : y ≠ k := fun e => by rw [e, delF_same] at hy; cases hy
    rw [delF_other F hyk'] at hy
    have := HD2.out.apart y k hy (by rw [HF.out]; rfl) hyk'
    exact this) hM4' hg4
  exact step_end ⟨mb, _, _, hD4⟩ hpC HP2.out hm2 (((Mod.refl _ _).grown hg3 (fun g hg _ => by injection hg with hg; exact hg ▸ hcm)).grown hg4 (fun g hg _ => by injection hg with hg; exact hg ▸ hcm))
theorem cut_end {w2 : World} {C : Nat → Prop} {N a pw mb : Nat} {room : Int} {F : Files} {P : FName → Nat} {V : FName → Value} {k : FName} {bs : List UInt8} {kept m c : Nat} {A : Option Addr} (hD2 : DiskIn w2 C N a pw mb room F P V) (hF : F k = some (bs, kept)) (hV : V k = .slice A bs.length c) (hm : m ≤ bs.length) :
    ∃ C', DiskAt ((w2.setCell ⟨P k, 0, none⟩ (.slice A m m)).setCell ⟨P k, 1, none⟩ (.int .i64 m)) C' N a pw room (putF F k (bs.take m, m)) ∧ ∀ b, C' b → C b := by
  obtain ⟨f1, f2, f3, f4⟩ := hD2.file k bs kept hF
  have hlen : (bs.take m).length = m := by rw [List.length_take]; omega
  have hrow : RowW w2 5 (.slice A m m) (bs.take m).length (bv (bs.take m)) := by
    rw [hlen, bv_take]
    exact f2.cut hm hV
  have hown : ∀ g, (Value.slice A m m).ownBlock = some g → (V k).ownBlock = some g := fun g hg => by
    rw [hV]
    cases A with
    | none => cases hg
    | some ad => exact hg
  have h1 := hD2.setData hF (Mod.refl _ w2) hrow (fun g hg => .inl (hown g hg))
  have h2 := h1.setKept (putF_same F k _) m
  have eF : putF (putF F k (bs.take m, kept)) k (bs.take m, m) = putF F k (bs.take m, m) := funext fun y => by unfold putF; split <;> rfl
  rw [eF] at h2
  exact ⟨_, ⟨mb, P, _, h2⟩, fun b hb => by
    rcases hb with h | h
    · exact h
    · exact f4 b (hown b h)⟩
set_option maxHeartbeats 2000000 in
theorem cutD (C : Nat → Prop) (N a pw m : Nat) (l u room : Int) (F : Files) (k : Txt) (bs : List UInt8) (kept : Nat) (w : World) (h : DiskAt w C N a pw room F) (hp : PwAt w pw l u) (hpC : ¬ C pw) (hu0 : 0 ≤ u) (hu1 : u < 1000000000) (hl : l < 0 ∨ u < l) (hk : k.length ≤ maxLen) (hF : F k = some (bs, kept)) (hm : m ≤ bs.length) (hbs : bs.length ≤ 1000000000) :
    Calls Tryd.prog 24 #[.pointer (some ⟨a, 0, none⟩), txt k, .int .i64 m] w (RetStep w C N a pw l u room (putF F k (bs.take m, m))) := by
  obtain ⟨mb, P, V, h⟩ := h
  have hM := Lib.hid h.map
  have c0 : w.cell? ⟨a, 0, none⟩ = some (.pointer (some ⟨pw, 0, none⟩)) := by rw [cell_of_blk h.disk 0]; rfl
  have c1 : w.cell? ⟨a, 1, none⟩ = some (.map (some mb)) := by rw [cell_of_blk h.disk 1]; rfl
  have HR : Hid ((Option.map (fun _ => Value.pointer (some ⟨P k, 0, none⟩)) (F k)) = some (.pointer (some ⟨P k, 0, none⟩))) := Lib.hid (by rw [hF]; rfl)
  obtain ⟨g1, g2, _, _⟩ := h.file k bs kept hF
  obtain ⟨A', c', hV, hc⟩ := g2.form
  have d0 : w.cell? ⟨P k, 0, none⟩ = some (.slice A' bs.length c') := by rw [cell_of_blk g1]; exact congrArg some hV
  have HD := Lib.hid h
  have HF := Lib.hid hF
  have HP := Lib.hid hp
  have hm0 : (0 : Int) ≤ (m : Int) := by omega
  have hm1 : decide ((bs.length : Int) < (m : Int)) = false := by simp; omega
  have hm2 : (m : Int) ≤ (bs.length : Int) := by omega
  have hm3 : m ≤ c' := by omega
  have hm4 : (m : Int) ≤ (c' : Int) := by omega
  clear h hF hp g1 g2
  go_enter Tryd.func24, Tryd.ntmps24
  go_wp2_with (at_lookup; (refine wpList_look rfl _ _ 69 rfl 75 Tryd.underlying69 (zeroFile _) mb N _ rfl hM.out k rfl hk _ HR.out ?_))
  refine (tickP pw l u _ HP.out hu0 hu1 hl).mono ?_
  rintro e w2 ⟨rfl, hp2, hmm2, hz2⟩
  have hD2 : DiskIn w2 C N a pw mb room F P V := HD.out.mod hmm2 (fun b hb e => hpC (e ▸ hb))
  obtain ⟨f1, f2, f3, f4⟩ := hD2.file k bs kept HF.out
  have d0' : w2.cell? ⟨P k, 0, none⟩ = some (.slice A' bs.length c') := by rw [cell_of_blk f1]; exact congrArg some hV
  have d1' : w2.cell? ⟨P k, 1, none⟩ = some (.int .i64 kept) := by rw [cell_of_blk f1]; rfl
  have q0 := frozen_of_blk f1 0
  have q1 := frozen_of_blk f1 1
  have HV := Lib.hid hV
  have HD2 := Lib.hid hD2
  have HP2 := Lib.hid hp2
  clear hz2 hD2 f1 hV c0 c1 hp2 d0
  cases A' with
  | none =>
    have hb0 : bs = [] := by
      rcases f2.2 with ⟨_, h⟩ | ⟨g, cap, cur, h, _⟩
      · exact List.length_eq_zero_iff.1 h
      · rw [HV.out] at h; cases h
    subst hb0
    obtain rfl : m = 0 := by simpa using hm
    have HE := Lib.hid (cut_end HD2.out HF.out HV.out hm)
    clear f2
    go_wp2_with (fail)
    go_ret
    obtain ⟨C', h1, h2⟩ := HE.out
    exact ⟨C', rfl, h1, fun b hb => .inl (h2 b hb), blk_set_far (blk_set_far HP2.out (fun e => hpC (by simp at e; exact e ▸ f3)) _) (fun e => hpC (by simp at e; exact e ▸ f3)) _, fun h => hpC (h2 _ h), (((hmm2.mono fun _ _ h => .inr h).setCell (p := ⟨P k, 0, none⟩) (fun _ => .inl f3) _).setCell (p := ⟨P k, 1, none⟩) (fun _ => .inl f3) _)⟩
  | some ad =>
    have HE := Lib.hid (cut_end HD2.out HF.out HV.out hm)
    clear f2
    go_wp2_with (fail)
    go_ret
    obtain ⟨C', h1, h2⟩ := HE.out
    exact ⟨C', rfl, h1, fun b hb => .inl (h2 b hb), blk_set_far (blk_set_far HP2.out (fun e => hpC (by simp at e; exact e ▸ f3)) _) (fun e => hpC (by simp at e; exact e ▸ f3)) _, fun h => hpC (h2 _ h), (((hmm2.mono fun _ _ h => .inr h).setCell (p := ⟨P k, 0, none⟩) (fun _ => .inl f3) _).setCell (p := ⟨P k, 1, none⟩) (fun _ => .inl f3) _)⟩
/-- Nothing was there, or nothing could be done. -/
theorem lookNone {C : Nat → Prop} {N a pw : Nat} {room : Int} {F : Files} {k : Txt} {w : World} (h : DiskAt w C N a pw room F) (hF : F k = none) :
    ∃ (mb : Nat) (P : Txt → Nat), MapAt w mb N (fun k => (F k).map fun _ => Value.pointer (some ⟨P k, 0, none⟩)) ∧ w.cell? ⟨a, 1, none⟩ = some (.map (some mb)) ∧ (Option.map (fun _ => Value.pointer (some ⟨P k, 0, none⟩)) (F k)) = none := by
  obtain ⟨mb, P, V, h⟩ := h
  exact ⟨mb, P, h.map, by rw [cell_of_blk h.disk 1]; rfl, by rw [hF]; rfl⟩
set_option maxHeartbeats 1000000 in
theorem syncNone (C : Nat → Prop) (N a pw : Nat) (room : Int) (F : Files) (k : Txt) (w : World) (h : DiskAt w C N a pw room F) (hk : k.length ≤ maxLen) (hF : F k = none) :
    Calls Tryd.prog 21 #[.pointer (some ⟨a, 0, none⟩), txt k] w fun e w' => e = .returned (.int .i64 4) ∧ w' = w := by
  obtain ⟨mb, P, hm, c1, hr⟩ := lookNone h hF
  have hM := Lib.hid hm
  have HR := Lib.hid hr
  clear h hF hm hr
  go_enter Tryd.func21, Tryd.ntmps21
  go_wp2_with (at_lookup; (refine wpList_look rfl _ _ 69 rfl 75 Tryd.underlying69 (zeroFile _) mb N _ rfl hM.out k rfl hk _ HR.out ?_))
  go_ret
  exact ⟨rfl, rfl⟩
set_option maxHeartbeats 1000000 in
theorem removeNone (C : Nat → Prop) (N a pw : Nat) (room : Int) (F : Files) (k : Txt) (w : World) (h : DiskAt w C N a pw room F) (hk : k.length ≤ maxLen) (hF : F k = none) :
    Calls Tryd.prog 23 #[.pointer (some ⟨a, 0, none⟩), txt k] w fun e w' => e = .returned (.int .i64 4) ∧ w' = w := by
  obtain ⟨mb, P, hm, c1, hr⟩ := lookNone h hF
  have hM := Lib.hid hm
  have HR := Lib.hid hr
  clear h hF hm hr
  go_enter Tryd.func23, Tryd.ntmps23
  go_wp2_with (at_lookup; (refine wpList_look rfl _ _ 69 rfl 75 Tryd.underlying69 (zeroFile _) mb N _ rfl hM.out k rfl hk _ HR.out ?_))
  go_ret
  exact ⟨rfl, rfl⟩
set_option maxHeartbeats 1000000 in
theorem moveNone (C : Nat → Prop) (N a pw : Nat) (room : Int) (F : Files) (k : Txt) (k' : Txt) (w : World) (h : DiskAt w C N a pw room F) (hk : k.length ≤ maxLen) (hF : F k = none) :
    Calls Tryd.prog 22 #[.pointer (some ⟨a, 0, none⟩), txt k, txt k'] w fun e w' => e = .returned (.int .i64 4) ∧ w' = w := by
  obtain ⟨mb, P, hm, c1, hr⟩ := lookNone h hF
  have hM := Lib.hid hm
  have HR := Lib.hid hr
  clear h hF hm hr
  go_enter Tryd.func22, Tryd.ntmps22
  go_wp2_with (at_lookup; (refine wpList_look rfl _ _ 69 rfl 75 Tryd.underlying69 (zeroFile _) mb N _ rfl hM.out k rfl hk _ HR.out ?_))
  go_ret
  exact ⟨rfl, rfl⟩
set_option maxHeartbeats 1000000 in
theorem cutNone (C : Nat → Prop) (N a pw : Nat) (room : Int) (F : Files) (k : Txt) (m : Int) (w : World) (h : DiskAt w C N a pw room F) (hk : k.length ≤ maxLen) (hF : F k = none) :
    Calls Tryd.prog 24 #[.pointer (some ⟨a, 0, none⟩), txt k, .int .i64 m] w fun e w' => e = .returned (.int .i64 4) ∧ w' = w := by
  obtain ⟨mb, P, hm, c1, hr⟩ := lookNone h hF
  have hM := Lib.hid hm
  have HR := Lib.hid hr
  clear h hF hm hr
  go_enter Tryd.func24, Tryd.ntmps24
  go_wp2_with (at_lookup; (refine wpList_look rfl _ _ 69 rfl 75 Tryd.underlying69 (zeroFile _) mb N _ rfl hM.out k rfl hk _ HR.out ?_))
  go_ret
  exact ⟨rfl, rfl⟩
end Go.Proofs.YtfccoiofpmhbdaaDoor
