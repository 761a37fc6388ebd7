/- selionlaw04.M.Do's closure, that Crash asks: what it answers, what it notes. Condition: the model is as told. -/
import Derived.Test.YtfccoiofpmhbdaaDoorM4b
namespace Go.Proofs.YtfccoiofpmhbdaaDoor
open Go Go.Proofs Go.RowKit

/-- What the closure keeps, from one asking to the next: those that were asked for, in a row of its own; the model, the step. -/
structure AskI (base qa qm qr qs : Nat) (D : Nat → Prop) (N mp mb : Nat) (room : Int) (F : Files) (V : FName → Value) (cs : Array Value) (R : Nat → Prop) (done : List Txt) (W : World) : Prop where
  asked : ∃ A c, W.heap[qa]? = some (.cells #[.slice A done.length c] 45 (0, 0)) ∧ W.ownsRow base 9 1 (.slice A done.length c) done.length (done.map txt) ∧ ∀ g, (Value.slice A done.length c).ownBlock = some g → ¬ R g
  right : W.heap[qr]? = some (.cells #[.bool true] 4 (0, 0))
  m : W.heap[qm]? = some (.cells #[.pointer (some ⟨mp, 0, none⟩)] 26 (0, 0))
  s : W.heap[qs]? = some (.cells cs 34 (0, 0))
  md : ModIn W D N mp mb room F V
  rl : ∀ b, R b → b < W.heap.size
  few : done.length ≤ 1000000000
  bw : base ≤ W.heap.size
theorem info_string : (Tryd.prog.info? 9).map (fun i => (i.zero, i.size, i.bytes)) = some (some (.string ⟨#[]⟩), 1, 16) := by kernel_rfl
set_option maxHeartbeats 4000000 in
set_option maxRecDepth 100000 in
theorem askClo (base qa qm qr qs N mp mb bits kept : Nat) (D : Nat → Prop) (room : Int) (F : Files) (V : FName → Value) (cs : Array Value) (R : Nat → Prop) (done : List Txt) (k : Txt) (bs : List UInt8) (W : World) (h : AskI base qa qm qr qs D N mp mb room F V cs R done W) (hb : cs[5]? = some (.int .u64 bits)) (hbits : bits < 2 ^ 64) (hF : F k = some (bs, kept)) (hkl : k.length ≤ maxLen) (hk : kept ≤ bs.length) (hn : bs.length ≤ 1000000000)
    (hqa : qa < base) (hqr : qr < base) (hne : qa ≠ qr) (hqm : qm < base) (hqs : qs < base) (hqam : qa ≠ qm) (hqas : qa ≠ qs) (hqrm : qr ≠ qm) (hqrs : qr ≠ qs) (hDa : ¬ D qa) (hDr : ¬ D qr) (hDl : ∀ g, D g → g < base) (hfew : done.length < 1000000000) :
    Calls Tryd.prog 26 #[.string ⟨k.toArray⟩, .int .i64 ((bs.length : Int) - (kept : Int)), .pointer (some ⟨qa, 0, none⟩), .pointer (some ⟨qm, 0, none⟩), .pointer (some ⟨qr, 0, none⟩), .pointer (some ⟨qs, 0, none⟩)] W fun e W' => e = .returned (.int .i64 (chB bits k (bs.length - kept) : Nat)) ∧ AskI base qa qm qr qs D N mp mb room F V cs R (done ++ [k]) W' ∧ Mod (fun b => (b = qa ∨ b = qr) ∨ (base ≤ b ∧ ¬ R b)) W W' := by
  obtain ⟨A, c, ha, ho, hR⟩ := h.asked
  have a0 : W.cell? ⟨qa, 0, none⟩ = some (.slice A done.length c) := by rw [cell_of_blk ha]; rfl
  have af : W.frozen? ⟨qa, 0, none⟩ = false := frozen_of_blk ha 0
  have hbw := h.bw
  obtain ⟨nd, hnd⟩ : ∃ nd, nd = done.length := ⟨_, rfl⟩
  rw [← hnd] at ha ho hR a0 hfew
  have H := Lib.hid h
  have HO := Lib.hid ho
  have HA := Lib.hid ha
  have HRR := Lib.hid hR
  have HND := Lib.hid hnd
  have HF := Lib.hid hF
  have HB := Lib.hid hb
  clear h ho ha hR hnd hF hb
  obtain ⟨i0, hi, hz0, hz1, hz2⟩ := info_parts info_string
  go_enter Tryd.func26, Tryd.ntmps26
  have hxm := H.out.md.dm
  have hxl := hDl mp hxm
  have hqmp : qa ≠ mp := fun e => hDa (e ▸ hxm)
  have hmbl := hDl mb H.out.md.db
  have hqmb : mb ≠ qa := fun e => hDa (e ▸ H.out.md.db)
  obtain ⟨hrow, hown⟩ := H.out.md.file k bs kept HF.out
  obtain ⟨Af, cf, hVf, hcf⟩ := hrow.form
  have HR := Lib.hid (show ((F k).map fun x => fileV (V k) x.2) = some (.agg #[.slice Af bs.length cf, .int .i64 kept]) by rw [HF.out]; simp [fileV, hVf])
  clear hrow hown hVf
  have hbz : ∀ g, (Value.slice A nd c).ownBlock = some g → base ≤ g := fun g hg => (HO.out.lt g hg).1
  go_wp2_with (first
    | (at_lookup; (refine wpList_look1 rfl _ _ 27 rfl 43 Tryd.underlying27 (zeroF' _) mb N _ rfl (HP8.out.set_far hqmb _) k rfl hkl _ HR.out ?_); have r9 : ((w8.setCell ⟨qa, 0, none⟩ (.slice A8 (nd + 1) c8)).alloc (.cells #[.slice Af bs.length cf, .int .i64 kept] 43 (0, 0))).cell? ⟨qr, 0, none⟩ = some (.bool true) := calloc (cset r8 (Ne.symm hne)) _; have s9 : ((w8.setCell ⟨qa, 0, none⟩ (.slice A8 (nd + 1) c8)).alloc (.cells #[.slice Af bs.length cf, .int .i64 kept] 43 (0, 0))).cell? ⟨qs, 5, none⟩ = some (.int .u64 bits) := calloc (cset s8 (Ne.symm hqas)) _; have rf9 : ((w8.setCell ⟨qa, 0, none⟩ (.slice A8 (nd + 1) c8)).alloc (.cells #[.slice Af bs.length cf, .int .i64 kept] 43 (0, 0))).frozen? ⟨qr, 0, none⟩ = false := frozen_of_blk (heap_alloc_keep (blk_set_far HR8.out (Ne.symm hne) _) _) 0)
    | (at_builtin; (refine wpList_append_any _ rfl (.tmp 10) (.tmp 12) 45 rfl base 9 i0 (.string ⟨#[]⟩) 1 16 Tryd.underlying45 hi hz0 hz1 hz2 rfl (by decide) (.slice A nd c) nd (done.map txt) rfl (HO.out.alloc _) _ (some ⟨W.heap.size, 0, none⟩) 1 1 [.string ⟨k.toArray⟩] rfl (reads_blk (heap_alloc_new _ _) rfl) (fun u hu => by obtain rfl := List.mem_singleton.1 hu; rfl) (by unfold maxLen; omega) (by omega) (by rw [World.size_alloc]; omega) ?_; intro v8 w8 hown8 hgr8 hor8; obtain ⟨A8, c8, rfl, hc8⟩ := owns_form hown8; have HA8 := Lib.hid (blk_grown4 (heap_alloc_keep HA.out _) hgr8 (fun e => Nat.not_lt.2 (hbz qa e) hqa)); have HM8 := Lib.hid (blk_grown4 (heap_alloc_keep H.out.m _) hgr8 (fun e => Nat.not_lt.2 (hbz qm e) hqm)); have HT8 := Lib.hid (blk_grown4 (heap_alloc_keep H.out.md.top _) hgr8 (fun e => Nat.not_lt.2 (hbz mp e) hxl)); have a8 : w8.cell? ⟨qa, 0, none⟩ = some (.slice A nd c) := cell_of_blk HA8.out 0; have af8 : w8.frozen? ⟨qa, 0, none⟩ = false := frozen_of_blk HA8.out 0; have m8 : w8.cell? ⟨qm, 0, none⟩ = some (.pointer (some ⟨mp, 0, none⟩)) := cell_of_blk HM8.out 0; have c8' : w8.cell? ⟨mp, 0, none⟩ = some (.map (some mb)) := cell_of_blk HT8.out 0; have HP8 := Lib.hid ((H.out.md.map.alloc (.cells #[.string ⟨k.toArray⟩] 9 (0, 0))).kept hgr8 (fun e => Nat.not_lt.2 (hbz mb e.symm) hmbl)); have HR8 := Lib.hid (blk_grown4 (heap_alloc_keep H.out.right _) hgr8 (fun e => Nat.not_lt.2 (hbz qr e) hqr)); have HS8 := Lib.hid (blk_grown4 (heap_alloc_keep H.out.s _) hgr8 (fun e => Nat.not_lt.2 (hbz qs e) hqs)); have r8 : w8.cell? ⟨qr, 0, none⟩ = some (.bool true) := cell_of_blk HR8.out 0; have rf8 : w8.frozen? ⟨qr, 0, none⟩ = false := frozen_of_blk HR8.out 0; have s8 : w8.cell? ⟨qs, 5, none⟩ = some (.int .u64 bits) := (cell_of_blk HS8.out 5).trans HB.out)))
  have hx8 := hgr8.size
  rw [World.size_alloc] at hx8
  have hmx : Mod (fun b => (b = qa ∨ b = qr) ∨ (base ≤ b ∧ ¬ R b)) W (((w8.setCell ⟨qa, 0, none⟩ (.slice A8 (nd + 1) c8)).alloc (.cells #[.slice Af bs.length cf, .int .i64 kept] 43 (0, 0))).setCell ⟨qr, 0, none⟩ (.bool true)) :=
    Mod.setCell (((Mod.setCell ((((Mod.refl _ W).alloc (.cells #[.string ⟨k.toArray⟩] 9 (0, 0))).grown hgr8 (fun g hg _ => .inr ⟨hbz g hg, HRR.out g hg⟩))) (p := ⟨qa, 0, none⟩) (fun _ => .inl (.inl rfl)) _)).alloc _) (p := ⟨qr, 0, none⟩) (fun _ => .inl (.inr rfl)) _
  have hmo : Mod (fun b => (b = qa ∨ b = qr)) w8 (((w8.setCell ⟨qa, 0, none⟩ (.slice A8 (nd + 1) c8)).alloc (.cells #[.slice Af bs.length cf, .int .i64 kept] 43 (0, 0))).setCell ⟨qr, 0, none⟩ (.bool true)) :=
    Mod.setCell (((Mod.setCell (Mod.refl (fun b => (b = qa ∨ b = qr)) w8) (p := ⟨qa, 0, none⟩) (fun _ => .inl rfl) _)).alloc _) (p := ⟨qr, 0, none⟩) (fun _ => .inr rfl) _
  have ha9 : (((w8.setCell ⟨qa, 0, none⟩ (.slice A8 (nd + 1) c8)).alloc (.cells #[.slice Af bs.length cf, .int .i64 kept] 43 (0, 0))).setCell ⟨qr, 0, none⟩ (.bool true)).heap[qa]? = some (.cells #[.slice A8 (nd + 1) c8] 45 (0, 0)) := blk_set_far (heap_alloc_keep (blk_set HA8.out 0 _) _) hne _
  have hr9 : (((w8.setCell ⟨qa, 0, none⟩ (.slice A8 (nd + 1) c8)).alloc (.cells #[.slice Af bs.length cf, .int .i64 kept] 43 (0, 0))).setCell ⟨qr, 0, none⟩ (.bool true)).heap[qr]? = some (.cells #[.bool true] 4 (0, 0)) := blk_set (heap_alloc_keep (blk_set_far HR8.out (Ne.symm hne) _) _) 0 _
  have hbz8 : ∀ g, (Value.slice A8 (nd + 1) c8).ownBlock = some g → base ≤ g ∧ g < w8.heap.size ∧ ¬ R g := fun g hg => by
    refine ⟨(hown8.lt g hg).1, (hown8.lt g hg).2, ?_⟩
    rcases hor8 with h | h
    · rw [h] at hg; exact HRR.out g hg
    · rw [h] at hg
      injection hg with hg
      rw [World.size_alloc] at hg
      intro hR
      have := H.out.rl g hR
      omega
  have ho9 := owns_modv4 hown8 hmo (fun g hg e => by have := (hbz8 g hg).1; omega)
  have HM9 := Lib.hid hmx
  have HA9 := Lib.hid ha9
  have HR9 := Lib.hid hr9
  have HO9 := Lib.hid ho9
  have HZ8 := Lib.hid hbz8
  have hz9 := hmx.size
  clear hmx hmo ha9 hr9 hown8 hgr8 hor8 hbz8 ho9 a8 af8 m8 c8' r8 rf8 s8 r9 s9 rf9 a0 af HA8 HM8 HT8 HP8 HR8 HS8
  generalize ((w8.setCell ⟨qa, 0, none⟩ (.slice A8 (nd + 1) c8)).alloc (.cells #[.slice Af bs.length cf, .int .i64 kept] 43 (0, 0))).setCell ⟨qr, 0, none⟩ (.bool true) = w9 at *
  refine (choice4 bits w9).mono ?_
  rintro e w10 ⟨rfl, hcell, hb10, hz10⟩
  have heg : ∀ args w, (callFunc 39 args).run Tryd.prog w = .ok (.enter 39 args) w := enters_of Tryd.func39 (by kernel_rfl) rfl
  have HB10 := Lib.hid hb10
  clear hb10 hz10
  go_wp2_with (fail)
  rw [show (bs.length : Int) - (kept : Int) = ((bs.length - kept : Nat) : Int) by omega]
  refine (choiceClo w9.heap.size bits (bs.length - kept) k w10 hcell hbits (by omega)).mono ?_
  rintro e w11 ⟨rfl, rfl⟩
  go_wp2_with (fail)
  go_ret
  have hz10 := HB10.out.size
  have hlen : (done ++ [k]).length = nd + 1 := by rw [List.length_append, ← HND.out]; rfl
  refine ⟨rfl, ⟨⟨A8, c8, ?_, ?_, ?_⟩, (HB10.out.block _ (lt_of_heap HR9.out)).trans HR9.out, ?_, ?_, ?_, fun b hb => ?_, by rw [hlen]; omega, by omega⟩, HM9.out.trans (Mod.of_below (F := fun _ => False) HB10.out) (fun _ _ h => h.elim)⟩
  · rw [hlen]; exact (HB10.out.block _ (lt_of_heap HA9.out)).trans HA9.out
  · rw [hlen, List.map_append]
    exact owns_modv4 HO9.out (Mod.of_below (F := fun _ => False) HB10.out) (fun _ _ h => h)
  · rw [hlen]; exact fun g hg => (HZ8.out g hg).2.2
  · exact (HB10.out.block _ (by have := lt_of_heap H.out.m; omega)).trans (HM9.out.blk H.out.m (fun h => by
      rcases h with (h | h) | h
      · exact hqam h.symm
      · exact hqrm h.symm
      · omega))
  · exact (HB10.out.block _ (by have := lt_of_heap H.out.s; omega)).trans (HM9.out.blk H.out.s (fun h => by
      rcases h with (h | h) | h
      · exact hqas h.symm
      · exact hqrs h.symm
      · omega))
  · exact (H.out.md.mod HM9.out (fun g hg h => by
      rcases h with (h | h) | h
      · exact hDa (h ▸ hg)
      · exact hDr (h ▸ hg)
      · have := hDl g hg; omega)).below HB10.out
  · have := H.out.rl b hb; omega
end Go.Proofs.YtfccoiofpmhbdaaDoor
