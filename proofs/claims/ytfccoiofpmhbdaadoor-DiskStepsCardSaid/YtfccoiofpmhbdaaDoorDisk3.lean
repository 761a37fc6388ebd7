/- Disks: Append, Sync, Move, Remove, Cut: their contracts. Condition: not too many bytes; the power stays. -/
import Derived.Test.YtfccoiofpmhbdaaDoorDisk2
import Derived.IntWalk
namespace Go.Proofs.YtfccoiofpmhbdaaDoor
open Go Go.Proofs Go.RowKit

theorem DiskAt.drew {w : World} {C : Nat → Prop} {N a pw : Nat} {room : Int} {F : Files} (h : DiskAt w C N a pw room F) : DiskAt w.drew C N a pw room F := h.below ((Below.refl _ w).drew)
/-- A step is done. -/
def RetStep (w : World) (C : Nat → Prop) (N a pw : Nat) (l u room : Int) (F' : Files) (e : Ending) (w' : World) : Prop :=
  ∃ C', e = .returned (.int .i64 0) ∧ DiskAt w' C' N a pw room F' ∧ (∀ b, C' b → C b ∨ w.heap.size ≤ b) ∧ PwAt w' pw l (u + 1) ∧ ¬ C' pw ∧ Mod (fun b => C b ∨ b = pw) w w'
set_option maxHeartbeats 1000000 in
set_option maxRecDepth 100000 in
theorem appendFail (C : Nat → Prop) (N a pw t : Nat) (room : Int) (F : Files) (k : Txt) (A : Option Addr) (n c : Nat) (w : World) (h : DiskAt w C N a pw room F) (ht : Total F t) (hb : t ≤ 1000000000) (hr0 : -1000000000 ≤ room) (hr1 : room ≤ 1000000000) (hn : n ≤ 1000000000) (hroom : room - t < n) :
    Calls Tryd.prog 16 #[.pointer (some ⟨a, 0, none⟩), txt k, .slice A n c] w fun e w' => e = .returned (.int .i64 9) ∧ Below w.heap.size w w' := by
  have hD := Lib.hid h
  have hT := Lib.hid ht
  obtain ⟨mb, P, V, h⟩ := h
  have c2 : w.cell? ⟨a, 2, none⟩ = some (.int .i64 room) := by rw [cell_of_blk h.disk 2]; rfl
  have ha := lt_of_heap h.disk
  have hg : decide (room - (t : Int) < (n : Int)) = true := decide_eq_true hroom
  have hw : IntKind.i64.wrap (room - (t : Int)) = room - (t : Int) := IntWalk.i64_in _ (by omega)
  clear h ht
  go_enter Tryd.func16, Tryd.ntmps16
  go_wp2_with (fail)
  go_region_with (go_at_call 32; refine (usedD C N a pw t room F _ hD.out.drew hT.out hb).mono ?_; rintro e w1 ⟨rfl, hb1⟩; have c3 := cellk hb1 (p := ⟨a, 2, none⟩) ha c2)
  all_goals
    go_wp2_with (fail)
    go_ret
    exact ⟨rfl, bundrew hb1⟩
theorem append_end {w w2 w5 : World} {C C0 : Nat → Prop} {N a pw mb : Nat} {room l u : Int} {F : Files} {P : FName → Nat} {V : FName → Value} {k : FName} {bs bs' : List UInt8} {kept : Nat} {v5 : Value}
    (hD2 : DiskIn w2 C N a pw mb room F P V) (hF : F k = some (bs, kept)) (hgr : w2.grownBy w5 (V k).ownBlock) (hrow : RowW w5 5 v5 bs'.length (bv bs')) (hat : v5.ownBlock = (V k).ownBlock ∨ v5.ownBlock = some w2.heap.size)
    (hp : PwAt w2 pw l u) (hpC : ¬ C pw) (hm : Mod (fun b => C0 b ∨ b = pw) w w2) (hC : ∀ b, C b → C0 b ∨ w.heap.size ≤ b) :
    ∃ C', DiskAt (w5.setCell ⟨P k, 0, none⟩ v5) C' N a pw room (putF F k (bs', kept)) ∧ (∀ b, C' b → C0 b ∨ w.heap.size ≤ b) ∧ PwAt (w5.setCell ⟨P k, 0, none⟩ v5) pw l u ∧ ¬ C' pw ∧ Mod (fun b => C0 b ∨ b = pw) w (w5.setCell ⟨P k, 0, none⟩ v5) := by
  obtain ⟨f1, f2, f3, f4⟩ := hD2.file k bs kept hF
  have hm25 : Mod (fun b => (V k).ownBlock = some b) w2 w5 := (Mod.refl _ _).grown hgr (fun g hg _ => hg)
  have hown : ∀ b, v5.ownBlock = some b → C b ∨ b = w2.heap.size := fun b hb => by
    rcases hat with h | h
    · exact .inl (f4 b (h ▸ hb))
    · rw [h] at hb; injection hb with hb; exact .inr hb.symm
  refine ⟨_, ⟨mb, P, _, hD2.setData hF hm25 hrow fun g hg => ?_⟩, fun b hb => ?_, ?_, fun h => ?_, ?_⟩
  · rcases hat with h | h
    · exact .inl (h ▸ hg)
    · refine .inr fun y bs'' kept'' hy hg' => ?_
      have := hD2.lt g ((hD2.file y bs'' kept'' hy).2.2.2 g hg')
      rw [h] at hg
      injection hg with hg
      omega
  · rcases hb with hb | hb
    · exact hC b hb
    · rcases hown b hb with h | h
      · exact hC b h
      · have := hm.size
        exact .inr (by omega)
  · exact blk_set_far (hm25.blk hp (fun e => hpC (f4 pw e))) (fun e => hpC (by simp at e; exact e ▸ f3)) _
  · rcases h with h | h
    · exact hpC h
    · rcases hown pw h with h | h
      · exact hpC h
      · have := hp.lt
        omega
  · refine (hm.trans hm25 fun b hb hg => ?_).setCell (fun hb => ?_) _
    · rcases hC b (f4 b hg) with h | h
      · exact .inl h
      · omega
    · rcases hC (P k) f3 with h | h
      · exact .inl h
      · simp at hb; omega
set_option maxHeartbeats 2000000 in
set_option maxRecDepth 100000 in
theorem appendOld (C : Nat → Prop) (N a pw t B : Nat) (l u room : Int) (F : Files) (k : Txt) (bs news : List UInt8) (kept : Nat) (A : Option Addr) (n c : Nat) (w : World) (h : DiskAt w C N a pw room F) (ht : Total F t) (hb : t ≤ 500000000) (hr0 : 0 ≤ room) (hr1 : room ≤ 500000000) (hn : n ≤ 500000000) (hroom : (n : Int) ≤ room - t)
    (hp : PwAt w pw l u) (hpC : ¬ C pw) (hu0 : 0 ≤ u) (hu1 : u < 1000000000) (hl : l < 0 ∨ u < l) (hk : k.length ≤ maxLen) (hF : F k = some (bs, kept)) (hrd : Reads w B 1 A n (bv news)) (hB : B ≤ w.heap.size) (hsep : ∀ g, A.map (·.block) = some g → 0 < n → ¬ C g ∧ g ≠ pw) :
    Calls Tryd.prog 16 #[.pointer (some ⟨a, 0, none⟩), txt k, .slice A n c] w (RetStep w C N a pw l u room (putF F k (bs ++ news, kept))) := by
  have hD := Lib.hid h
  have hT := Lib.hid ht
  obtain ⟨i0, hi, hz0, hz1, hz2⟩ := info_parts info_u8
  obtain ⟨mb, P, V, h⟩ := h
  have c2 : w.cell? ⟨a, 2, none⟩ = some (.int .i64 room) := by rw [cell_of_blk h.disk 2]; rfl
  have ha := lt_of_heap h.disk
  have hg : decide (room - (t : Int) < (n : Int)) = false := decide_eq_false (by omega)
  have hw : IntKind.i64.wrap (room - (t : Int)) = room - (t : Int) := IntWalk.i64_in _ (by omega)
  have hDI := Lib.hid h
  have hlen : bs.length ≤ t := by have := ht.one k; simpa [lenF, hF] using this
  have hPw := Lib.hid hp
  have hFF := Lib.hid hF
  have hRD := Lib.hid hrd
  clear h ht hp hF hrd
  go_enter Tryd.func16, Tryd.ntmps16
  go_wp2_with (fail)
  go_region_with (go_at_call 32; refine (usedD C N a pw t room F _ hD.out.drew hT.out (by omega)).mono ?_; rintro e w1 ⟨rfl, hb1⟩; have c3 := cellk hb1 (p := ⟨a, 2, none⟩) ha c2)
  all_goals
    replace hb1 := bundrew hb1
    clear hw hg c3
    have hD1 : DiskIn w1 C N a pw mb room F P V := hDI.out.mod (G := fun _ => False) (Mod.of_below hb1) (fun _ _ h => h)
    have hp1 := hPw.out.below hb1
    have e0 : w1.cell? ⟨a, 0, none⟩ = some (.pointer (some ⟨pw, 0, none⟩)) := by rw [cell_of_blk hD1.disk 0]; rfl
    have HD1 := Lib.hid hD1
    clear hD1
    go_wp2_with (fail)
    refine (tickP pw l u _ hp1 hu0 hu1 hl).mono ?_
    rintro e w2 ⟨rfl, hp2, hm2, hz2⟩
    have HZ2 := Lib.hid hz2
    clear hz2 hp1
    have hD2 : DiskIn w2 C N a pw mb room F P V := HD1.out.mod hm2 (fun b hb e => hpC (e ▸ hb))
    have c1 : w2.cell? ⟨a, 1, none⟩ = some (.map (some mb)) := by rw [cell_of_blk hD2.disk 1]; rfl
    have hM := Lib.hid hD2.map
    have hr : (Option.map (fun _ => Value.pointer (some ⟨P k, 0, none⟩)) (F k)) = some (.pointer (some ⟨P k, 0, none⟩)) := by rw [hFF.out]; rfl
    have HR := Lib.hid hr
    obtain ⟨f1, f2, f3, f4⟩ := hD2.file k bs kept hFF.out
    obtain ⟨k1, k2, k3, k4⟩ := hD2.kinds hFF.out
    obtain ⟨A', c', hV, hc⟩ := f2.form
    have d0 : w2.cell? ⟨P k, 0, none⟩ = some (.slice A' bs.length c') := by rw [cell_of_blk f1]; exact congrArg some hV
    have hrow := Lib.hid f2
    have HB := Lib.hid f1
    have HD2 := Lib.hid hD2
    have HV := Lib.hid hV
    have hm12 : Mod (fun b => C b ∨ b = pw) w w2 := (Mod.of_below hb1).trans hm2 (fun b _ e => .inr e)
    have hRD2 := Lib.hid (hRD.out.mod hm12 hB (fun g hg hn => by (have := hsep g hg hn); rintro (h | h); exact this.1 h; exact this.2 h))
    have hPl : P k < w2.heap.size := lt_of_heap f1
    have hPne : some (P k) ≠ (Value.slice A' bs.length c').ownBlock := by rw [← hV]; exact fun e => (k4 _ e.symm).2.2 rfl
    clear hr f1 f2 hV hD2 e0 c2
    go_wp2_with (first
      | (at_lookup; (refine wpList_look rfl _ _ 69 rfl 75 Tryd.underlying69 (zeroFile _) mb N _ rfl hM.out k rfl hk _ HR.out ?_))
      | (at_builtin; (refine wpList_append_rowW _ rfl (.tmp 47) (.tmp 48) 30 rfl 5 i0 (.int .u8 0) 1 Tryd.underlying30 hi hz0 hz1 hz2 rfl (.slice A' bs.length c') bs.length (bv bs) rfl (HV.out ▸ hrow.out) B A n c (bv news) rfl hRD2.out (bv_one news) (by unfold maxLen; omega) (by omega) ?_; intro v5 w5 hrow5 hgr5 hat5; obtain ⟨A5, c5, rfl, hc5⟩ := hrow5.form; have q0 := (hgr5.cell_far ⟨P k, 0, none⟩ hPl hPne).trans d0; have q1 := (hgr5.frozen_far ⟨P k, 0, none⟩ hPl hPne).trans (frozen_of_blk HB.out 0))))
    go_ret
    have hnl : news.length = n := by have := hRD2.out.1; rw [bv_length] at this; omega
    have hrow6 : RowW w5 5 (.slice A5 (bs.length + n) c5) (bs ++ news).length (bv (bs ++ news)) := by rw [List.length_append, hnl, bv_append]; exact hrow5
    obtain ⟨C', r1, r2, r3, r4, r5⟩ := append_end (w := w) (C0 := C) HD2.out hFF.out (HV.out ▸ hgr5) hrow6 (HV.out ▸ hat5) hp2 hpC hm12 (fun b hb => .inl hb)
    exact ⟨C', rfl, r1, r2, r3, r4, r5⟩
set_option maxHeartbeats 2000000 in
set_option maxRecDepth 100000 in
theorem appendNew (C : Nat → Prop) (N a pw t B : Nat) (l u room : Int) (F : Files) (k : Txt) (news : List UInt8) (A : Option Addr) (n c : Nat) (w : World) (h : DiskAt w C N a pw room F) (ht : Total F t) (hb : t ≤ 500000000) (hr0 : 0 ≤ room) (hr1 : room ≤ 500000000) (hn : n ≤ 500000000) (hroom : (n : Int) ≤ room - t)
    (hp : PwAt w pw l u) (hpC : ¬ C pw) (hu0 : 0 ≤ u) (hu1 : u < 1000000000) (hl : l < 0 ∨ u < l) (hk : k.length ≤ maxLen) (hF : F k = none) (hN : N ≤ 1000000000) (hrd : Reads w B 1 A n (bv news)) (hB : B ≤ w.heap.size) (hsep : ∀ g, A.map (·.block) = some g → 0 < n → ¬ C g ∧ g ≠ pw) :
    Calls Tryd.prog 16 #[.pointer (some ⟨a, 0, none⟩), txt k, .slice A n c] w (RetStep w C (N + 1) a pw l u room (putF F k (news, 0))) := by
  have hD := Lib.hid h
  have hT := Lib.hid ht
  obtain ⟨i0, hi, hz0, hz1, hz2⟩ := info_parts info_u8
  obtain ⟨mb, P, V, h⟩ := h
  have c2 : w.cell? ⟨a, 2, none⟩ = some (.int .i64 room) := by rw [cell_of_blk h.disk 2]; rfl
  have ha := lt_of_heap h.disk
  have hg : decide (room - (t : Int) < (n : Int)) = false := decide_eq_false (by omega)
  have hw : IntKind.i64.wrap (room - (t : Int)) = room - (t : Int) := IntWalk.i64_in _ (by omega)
  have hDI := Lib.hid h
  have hPw := Lib.hid hp
  have hFF := Lib.hid hF
  have hRD := Lib.hid hrd
  clear h ht hp hF hrd
  go_enter Tryd.func16, Tryd.ntmps16
  go_wp2_with (fail)
  go_region_with (go_at_call 32; refine (usedD C N a pw t room F _ hD.out.drew hT.out (by omega)).mono ?_; rintro e w1 ⟨rfl, hb1⟩; have c3 := cellk hb1 (p := ⟨a, 2, none⟩) ha c2)
  all_goals
    replace hb1 := bundrew hb1
    clear hw hg c3
    have hD1 : DiskIn w1 C N a pw mb room F P V := hDI.out.mod (G := fun _ => False) (Mod.of_below hb1) (fun _ _ h => h)
    have hp1 := hPw.out.below hb1
    have e0 : w1.cell? ⟨a, 0, none⟩ = some (.pointer (some ⟨pw, 0, none⟩)) := by rw [cell_of_blk hD1.disk 0]; rfl
    have HD1 := Lib.hid hD1
    clear hD1
    go_wp2_with (fail)
    refine (tickP pw l u _ hp1 hu0 hu1 hl).mono ?_
    rintro e w2 ⟨rfl, hp2, hm2, hz2⟩
    have HZ2 := Lib.hid hz2
    clear hz2 hp1
    have hD2 : DiskIn w2 C N a pw mb room F P V := HD1.out.mod hm2 (fun b hb e => hpC (e ▸ hb))
    have c1 : w2.cell? ⟨a, 1, none⟩ = some (.map (some mb)) := by rw [cell_of_blk hD2.disk 1]; rfl
    have hM := Lib.hid hD2.map
    have hr : (Option.map (fun _ => Value.pointer (some ⟨P k, 0, none⟩)) (F k)) = none := by rw [hFF.out]; rfl
    have HR := Lib.hid hr
    have HD2 := Lib.hid hD2
    have hmb : mb < w2.heap.size := hD2.lt mb hD2.cm
    have hma : w2.heap.size ≠ mb := by omega
    have hcm := hD2.cm
    have hm12 : Mod (fun b => C b ∨ b = pw) w w2 := (Mod.of_below hb1).trans hm2 (fun b _ e => .inr e)
    have hRD2 := Lib.hid (hRD.out.mod hm12 hB (fun g hg hn => by (have := hsep g hg hn); rintro (h | h); exact this.1 h; exact this.2 h))
    have hB2 : B ≤ w2.heap.size := by (have := hm12.size; omega)
    have c1' := calloc c1 (.cells #[.slice none 0 0, .int .i64 0] 78)
    clear hr hD2 e0 c2
    go_wp2_with (first
      | (at_lookup; (refine wpList_look rfl _ _ 69 rfl 75 Tryd.underlying69 (zeroFile _) mb N _ rfl hM.out k rfl hk _ HR.out ?_))
      | (at_mapUpdate; (refine wpList_store rfl _ _ _ 69 rfl 75 Tryd.underlying69 mb N _ rfl (hM.out.alloc _) (by unfold maxLen; omega) k (.pointer (some ⟨w2.heap.size, 0, none⟩)) rfl hk rfl ?_; intro w4 hM4 hg4 hz4; have HM4 := Lib.hid hM4; have HZ4 := Lib.hid hz4; clear hM4 hz4; have q0 := (hg4.cell_far ⟨w2.heap.size, 0, none⟩ (by simp) (by simpa using hma)).trans (cell_of_blk (heap_alloc_new w2 (.cells #[.slice none 0 0, .int .i64 0] 78)) 0); have q1 := (hg4.frozen_far ⟨w2.heap.size, 0, none⟩ (by simp) (by simpa using hma)).trans (frozen_of_blk (heap_alloc_new w2 (.cells #[.slice none 0 0, .int .i64 0] 78)) 0); have hs4 : w2.heap.size < w4.heap.size := (by have := hg4.size; simp at this; omega); have hRD4 := Lib.hid (Reads.mod (hRD2.out.alloc hB2 (.cells #[.slice none 0 0, .int .i64 0] 78)) ((Mod.refl (· = mb) _).grown hg4 (fun g hg _ => by (injection hg with hg; exact hg.symm))) (by simp; omega) (fun g hg hn e => (hsep g hg hn).1 (e ▸ hcm)))))
      | (at_builtin; (refine wpList_append_rowW _ rfl (.tmp 47) (.tmp 48) 30 rfl 5 i0 (.int .u8 0) 1 Tryd.underlying30 hi hz0 hz1 hz2 rfl (.slice none 0 0) 0 [] rfl (RowW.nil _ _) B A n c (bv news) rfl hRD4.out (bv_one news) (by unfold maxLen; omega) (by omega) ?_; intro v5 w5 hrow5 hgr5 hat5; obtain ⟨A5, c5, rfl, hc5⟩ := hrow5.form; have q2 := (hgr5.cell_far ⟨w2.heap.size, 0, none⟩ hs4 (by simp [Value.ownBlock])).trans q0; have q3 := (hgr5.frozen_far ⟨w2.heap.size, 0, none⟩ hs4 (by simp [Value.ownBlock])).trans q1)))
    go_ret
    have hnl : news.length = n := by have := hRD2.out.1; rw [bv_length] at this; omega
    have hD3 : DiskIn (w2.alloc (.cells #[.slice none 0 0, .int .i64 0] 78)) C N a pw mb room F P V := HD2.out.mod (G := fun _ => False) (Mod.of_below ((Below.refl _ _).alloc (Nat.le_refl _) _)) (fun _ _ h => h)
    have hD4 := hD3.fresh hFF.out w2.heap.size (heap_alloc_new w2 _) (fun h => by have := HD2.out.lt _ h; omega) HM4.out hg4
    have ePk : updP P k w2.heap.size k = w2.heap.size := if_pos rfl
    have eVk : updV V k (.slice none 0 0) k = .slice none 0 0 := if_pos rfl
    have hp4 : PwAt w4 pw l (u + 1) := (heap_alloc_keep hp2 _ |> fun h => (hg4.block pw (by have := hp2.lt; simp; omega) (fun e => hpC (by injection e with e; exact e ▸ hcm))).trans h)
    have hm14 : Mod (fun b => C b ∨ b = pw) w w4 := (hm12.alloc _).grown hg4 (fun g hg _ => by injection hg with hg; exact .inl (hg ▸ hcm))
    have hw2 : w.heap.size ≤ w2.heap.size := hm12.size
    have hrow6 : RowW w5 5 (.slice A5 (0 + n) c5) news.length (bv news) := by rw [hnl]; simpa using hrow5
    obtain ⟨C', r1, r2, r3, r4, r5⟩ := append_end (w := w) (C0 := C) hD4 (putF_same F k _) (by rw [eVk]; exact hgr5) hrow6 (by rw [eVk]; exact hat5) hp4 (by rintro (h | h); exact hpC h; have := hp2.lt; omega) hm14 (fun b hb => by rcases hb with h | h; exact .inl h; exact .inr (by omega))
    rw [ePk] at r1 r3 r5
    have eF : putF (putF F k ([], 0)) k (news, 0) = putF F k (news, 0) := funext fun y => by unfold putF; split <;> rfl
    rw [eF] at r1
    rw [Nat.zero_add] at r1 r3 r5
    exact ⟨C', rfl, r1, r2, r3, r4, r5⟩
end Go.Proofs.YtfccoiofpmhbdaaDoor
