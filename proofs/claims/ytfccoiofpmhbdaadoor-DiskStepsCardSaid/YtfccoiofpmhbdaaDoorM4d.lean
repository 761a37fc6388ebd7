/- selionlaw04.M.Do: a crash, on a disk and on the law's own. Condition: both are as told. -/
import Derived.Test.YtfccoiofpmhbdaaDoorM4c
import Derived.Test.YtfccoiofpmhbdaaDoorNames
namespace Go.Proofs.YtfccoiofpmhbdaaDoor
open Go Go.Proofs Go.RowKit Go.Maps Go.WideElems Go.Sort

set_option maxRecDepth 100000 in
/-- The sorted keys of the model's map, behind maps.Keys. -/
theorem sortM (mb N : Nat) (f : Txt → Option Value) (w : World) (h : MapAt w mb N f) (hN : N ≤ 1000000000) :
    Calls Tryd.prog 29 #[.func (.func 42) #[] #[.pointer (some ⟨w.heap.size, 0, none⟩)]] (w.alloc (.cells #[.map (some mb)] 27 (0, 0))) fun e w' => ∃ L A c, NamesAre (fun k => (f k).isSome) L ∧ L.length ≤ 1000000000 ∧ e = .returned (.slice A L.length c) ∧ w'.ownsRow w.heap.size 9 1 (.slice A L.length c) L.length (L.map txt) ∧ Below w.heap.size w w' := by
  obtain ⟨D, h1, h2⟩ := h
  have hsz := h1.size_le
  refine (callsIn_wide.1 (Tryd.slices_Sorted_keys_29_30 mb N D heldR w h1 (by unfold maxLen; omega) (by omega))).mono ?_
  rintro e w2 ⟨v, ss, rfl, hS, hrow, hnil, hb⟩
  obtain ⟨k1, k2⟩ := strKeys_mem h1
  have hlen : ss.length = (ss.mergeSort leB).length := by rw [List.length_mergeSort]
  have hrow : w2.ownsRow w.heap.size 9 1 v (ss.mergeSort leB).length ((ss.mergeSort leB).map txt) := owns_lower (by rw [← hlen]; exact hrow) (by simp)
  obtain ⟨A, c, rfl, _⟩ := owns_form hrow
  refine ⟨ss.mergeSort leB, A, c, ⟨ss, hS.nodup_iff.2 k1, fun k => ?_, rfl⟩, ?_, rfl, hrow, ((Below.refl _ _).alloc (Nat.le_refl _) _).trans (hb.mono (by simp))⟩
  · rw [hS.mem_iff, k2, h2]
  · rw [← hlen, hS.length_eq]
    have e : (strKeys D).length = Maps.size D := by
      obtain ⟨es, he, _⟩ := h1.entries strK
      rw [he]
      simp [strKeys, Maps.size]
    omega
/-- Crash asks the law's closure. -/
theorem asksM (qa qm qr qs N mp mb bits : Nat) (C D : Nat → Prop) (room : Int) (F : Files) (V : FName → Value) (cs : Array Value) (w : World) (ha : w.heap[qa]? = some (.cells #[.slice none 0 0] 45 (0, 0))) (hr : w.heap[qr]? = some (.cells #[.bool true] 4 (0, 0))) (hm : w.heap[qm]? = some (.cells #[.pointer (some ⟨mp, 0, none⟩)] 26 (0, 0))) (hs : w.heap[qs]? = some (.cells cs 34 (0, 0))) (hd : ModIn w D N mp mb room F V)
    (hb : cs[5]? = some (.int .u64 bits)) (hbits : bits < 2 ^ 64) (hC : ∀ g, C g → g < w.heap.size) (hCD : ∀ g, C g → ¬ D g) (hCa : ¬ C qa) (hCm : ¬ C qm) (hCr : ¬ C qr) (hCs : ¬ C qs) (hne : qa ≠ qr) (hqam : qa ≠ qm) (hqas : qa ≠ qs) (hqrm : qr ≠ qm) (hqrs : qr ≠ qs) (hDa : ¬ D qa) (hDr : ¬ D qr) :
    Asks 26 #[.pointer (some ⟨qa, 0, none⟩), .pointer (some ⟨qm, 0, none⟩), .pointer (some ⟨qr, 0, none⟩), .pointer (some ⟨qs, 0, none⟩)] C (fun b => b = qa ∨ b = qr) F (chB bits) (AskI w.heap.size qa qm qr qs D N mp mb room F V cs) w where
  eg := enters_of Tryd.func26 (by kernel_rfl) rfl
  jc := fun b h => by
    rcases h with rfl | rfl
    · exact hCa
    · exact hCr
  jlt := fun b h => by
    rcases h with rfl | rfl
    · exact lt_of_heap ha
    · exact lt_of_heap hr
  start := fun W R hB hR =>
    ⟨⟨none, 0, (hB.block _ (lt_of_heap ha)).trans ha, World.ownsRow_nil _ _ _ _, fun g h => by cases h⟩, (hB.block _ (lt_of_heap hr)).trans hr, (hB.block _ (lt_of_heap hm)).trans hm, (hB.block _ (lt_of_heap hs)).trans hs, hd.below hB, fun b h => (hR b h).2, by simp, hB.size⟩
  stab := fun R done W W' h hmo => by
    obtain ⟨⟨A, c, h1, h2, h3⟩, h4, h5, h6, h7, h8, h9, h10⟩ := h
    exact ⟨⟨A, c, hmo.blk h1 hCa, owns_modv4 h2 hmo (fun g hg hc => by have := (h2.lt g hg).1; have := hC g hc; omega), h3⟩, hmo.blk h4 hCr, hmo.blk h5 hCm, hmo.blk h6 hCs, h7.mod hmo (fun g hg hc => hCD g hc hg), fun b hb => Nat.lt_of_lt_of_le (h8 b hb) hmo.size, h9, Nat.le_trans h10 hmo.size⟩
  call := fun R done W k bs kept hI hF hk hl hx hdl =>
    askClo w.heap.size qa qm qr qs N mp mb bits kept D room F V cs R done k bs W hI hb hbits hF hx hk hl (lt_of_heap ha) (lt_of_heap hr) hne (lt_of_heap hm) (lt_of_heap hs) hqam hqas hqrm hqrs hDa hDr hd.lt hdl
theorem RangeAt.congr {w : World} {b r n cnt : Nat} {f f' : Txt → Option Value} {done : List Txt} (h : RangeAt w b r n f done cnt) (hf : ∀ k, f k = f' k) : RangeAt w b r n f' done cnt := by
  obtain ⟨D, left, h1, h2, h3, h4, h5⟩ := h
  exact ⟨D, left, h1, fun k => (h2 k).trans (hf k), fun k => by rw [h3 k, hf k], h4, fun k hk => by rw [← hf k]; exact h5 k hk⟩
theorem RangeAt.mod {w w' : World} {b r n cnt : Nat} {f : Txt → Option Value} {done : List Txt} {F : Nat → Prop} (h : RangeAt w b r n f done cnt) (hm : Mod F w w') (hb : ¬ F b) (hr : ¬ F r) : RangeAt w' b r n f done cnt := by
  obtain ⟨D, left, ⟨es, clock, since, seen, c0, h1, h2, h3, h4, h5, h6⟩, h7⟩ := h
  exact ⟨D, left, ⟨es, clock, since, seen, c0, hm.blk h1 hb, h2, h3, h4, hm.blk h5 hr, h6⟩, h7⟩
set_option maxRecDepth 100000 in
/-- The store of a file's value in the round of a range over the map. -/
theorem put_runR {w8 w9 : World} {D : Nat → Prop} {N mp mb r cnt qm qx : Nat} {room : Int} {F : Files} {V : FName → Value} {done : List Txt} {cx : Array Value} (hm : ModIn w8 D N mp mb room F V) (hr : RangeAt w8 mb r N (fun k => (F k).map fun x => fileV (V k) x.2) done cnt) (hb : Below w8.heap.size w8 w9) (hqm : w8.heap[qm]? = some (.cells #[.pointer (some ⟨mp, 0, none⟩)] 26 (0, 0))) (hqx : w8.heap[qx]? = some (.cells cx 43 (0, 0))) (h1 : mb ≠ qm) (h3 : mb ≠ qx) {k : Txt} (hk : k.length ≤ maxLen) (hF : (F k).isSome = true) (v : Value) :
    ∃ w6, (Instr.mapUpdate 27 (.map (some mb)) (txt k) v).run Tryd.prog w9 = .ok () w6 ∧ Hid (RangeAt w6 mb r N (putM (fun k => (F k).map fun x => fileV (V k) x.2) k v) done cnt) ∧ Hid (w9.grownBy w6 (some mb)) ∧
      (w9.cell? ⟨qm, 0, none⟩ = some (.pointer (some ⟨mp, 0, none⟩)) ∧ w9.cell? ⟨mp, 0, none⟩ = some (.map (some mb)) ∧ w9.cell? ⟨qx, 0, none⟩ = cx[0]?) ∧
      (w6.cell? ⟨qm, 0, none⟩ = some (.pointer (some ⟨mp, 0, none⟩)) ∧ w6.cell? ⟨mp, 0, none⟩ = some (.map (some mb)) ∧ w6.cell? ⟨qx, 0, none⟩ = cx[0]?) := by
  have hm5 := hm.below hb
  have hqm5 := (hb.block _ (lt_of_heap hqm)).trans hqm
  have hqx5 := (hb.block _ (lt_of_heap hqx)).trans hqx
  obtain ⟨w6, hrun, r1, r2, _⟩ := RangeAt.store (hr.mod (F := fun _ => False) (Mod.of_below hb) (fun h => h) (fun h => h)) (t := 27) (e := 43) Tryd.underlying27 hk (by rw [Option.isSome_map]; exact hF) v
  obtain ⟨hk1, _⟩ := hm5.kinds
  have hqm6 := blk_grown4 hqm5 r2 (fun e => h1 (by injection e))
  have hqx6 := blk_grown4 hqx5 r2 (fun e => h3 (by injection e))
  have htop6 := blk_grown4 hm5.top r2 (fun e => hk1 (by injection e with e; exact e.symm))
  exact ⟨w6, hrun, Lib.hid r1, Lib.hid r2, ⟨by rw [cell_of_blk hqm5]; rfl, hm5.c0, cell_of_blk hqx5 0⟩, ⟨by rw [cell_of_blk hqm6]; rfl, by rw [cell_of_blk htop6]; rfl, cell_of_blk hqx6 0⟩⟩
theorem crashP_cons (F : Files) (ch) (done : List Txt) (k : Txt) (x) (hk : F k = some x) : crashP F ch (k :: done) = putF (crashP F ch done) k (crash1 ch k x) := by
  funext y
  unfold crashP putF
  by_cases hy : y = k
  · subst hy
    simp [hk]
  · simp [hy]
theorem crash1_chB (b : Nat) (k : Txt) (bs : List UInt8) (kept : Nat) : crash1 (chB b) k (bs, kept) = (bs.take (kept + chB b k (bs.length - kept)), kept + chB b k (bs.length - kept)) := by
  unfold crash1 chB
  simp only [Nat.mod_mod]
theorem ModIn.kept {w w' : World} {D : Nat → Prop} {N mp mb : Nat} {room : Int} {F : Files} {V : FName → Value} {row : Option Nat} (h : ModIn w D N mp mb room F V) (hg : w.grownBy w' row) (hr : ∀ g, row = some g → ¬ D g) : ModIn w' D N mp mb room F V :=
  h.mod (G := fun b => row = some b) ((Mod.refl _ w).grown hg (fun _ hg _ => hg)) (fun g hg e => hr g e hg)
set_option maxHeartbeats 8000000 in
set_option maxRecDepth 100000 in
theorem doCrash (B B' nb a pw t N mp mb dO A8 B8 bits ns cs : Nat) (As : Option Addr) (C D : Nat → Prop) (l u room nn : Int) (F : Files) (w : World) (h : Both B w C D nb N a pw mp mb l u room F t) (hn : NamesLaid w B') (hB' : B' ≤ w.heap.size) (hd8 : dO < 256) (hA8 : A8 < 256) (hB8 : B8 < 256) (hnb : nb < 1000000) (hN : N < 1000000) (hdo : dO % 8 = 7) (hbits : bits < 2 ^ 64) (htm : t ≤ 1000000) (hBB : B' ≤ B) :
    Calls Tryd.prog 7 #[.pointer (some ⟨mp, 0, none⟩), .pointer (some ⟨a, 0, none⟩), stepV dO A8 B8 (.slice As ns cs) nn bits] w (RetB w B C D (nb + 1) (N + 1) a pw mp mb l u room) := by
  obtain ⟨na, nc, hn1, hn2, hn3⟩ := hn.at_
  have hnA := hn3 A8
  have hnB := hn3 B8
  obtain ⟨kA, hkA⟩ : ∃ kA, kA = nameAt A8 := ⟨_, rfl⟩
  obtain ⟨kB, hkB⟩ : ∃ kB, kB = nameAt B8 := ⟨_, rfl⟩
  obtain ⟨iA, hiA⟩ : ∃ iA, iA = A8 % 4 := ⟨_, rfl⟩
  obtain ⟨iB, hiB⟩ : ∃ iB, iB = B8 % 4 := ⟨_, rfl⟩
  rw [← hkA, ← hiA] at hnA
  rw [← hkB, ← hiB] at hnB
  have hA1 : (A8 : Int) % 4 = (iA : Int) := by omega
  have hA2 : (A8 : Int).tmod 4 = (iA : Int) := by rw [Int.tmod_eq_emod_of_nonneg (by omega)]; exact hA1
  have hA3 : IntKind.u8.wrap (iA : Int) = (iA : Int) := IntWalk.u8_in _ (by omega)
  have hB1 : (B8 : Int) % 4 = (iB : Int) := by omega
  have hB2 : (B8 : Int).tmod 4 = (iB : Int) := by rw [Int.tmod_eq_emod_of_nonneg (by omega)]; exact hB1
  have hB3 : IntKind.u8.wrap (iB : Int) = (iB : Int) := IntWalk.u8_in _ (by omega)
  have hiA4 : iA < 4 := by omega
  have hiB4 : iB < 4 := by omega
  have hO1 : (dO : Int) % 8 = 7 := by omega
  have hO2 : (dO : Int).tmod 8 = 7 := by rw [Int.tmod_eq_emod_of_nonneg (by omega)]; exact hO1
  have hO3 : IntKind.u8.wrap 7 = 7 := IntWalk.u8_in _ (by omega)
  clear hiA hiB hn3
  have HD := Lib.hid h.ds
  have HM := Lib.hid h.md
  have hcd := h.cd
  have hdp := h.dp
  have hdb := h.db
  have hkl : kA.length ≤ maxLen := by rw [hkA]; exact nameAt_len _
  have hkl2 : kB.length ≤ maxLen := by rw [hkB]; exact nameAt_len _
  have hBw := HD.out.size
  clear h hkA hkB
  unfold stepV
  go_enter Tryd.func7, Tryd.ntmps7
  go_wp2_with (fail)
  have hb2 := ((Below.refl w.heap.size w).alloc (Nat.le_refl _) (.cells #[.pointer (some ⟨mp, 0, none⟩)] 26 (0, 0))).alloc (by rw [World.size_alloc]; omega) (.cells #[.int .u8 dO, .int .u8 A8, .int .u8 B8, .slice As ns cs, .int .i8 nn, .int .u64 bits] 34 (0, 0))
  have hs2 : ((w.alloc (.cells #[.pointer (some ⟨mp, 0, none⟩)] 26 (0, 0))).alloc (.cells #[.int .u8 dO, .int .u8 A8, .int .u8 B8, .slice As ns cs, .int .i8 nn, .int .u64 bits] 34 (0, 0))).heap.size = w.heap.size + 2 := by rw [World.size_alloc, World.size_alloc]
  have hq1 : ((w.alloc (.cells #[.pointer (some ⟨mp, 0, none⟩)] 26 (0, 0))).alloc (.cells #[.int .u8 dO, .int .u8 A8, .int .u8 B8, .slice As ns cs, .int .i8 nn, .int .u64 bits] 34 (0, 0))).heap[w.heap.size]? = some (.cells #[.pointer (some ⟨mp, 0, none⟩)] 26 (0, 0)) := heap_alloc_keep (heap_alloc_new _ _) _
  have hq2 : ((w.alloc (.cells #[.pointer (some ⟨mp, 0, none⟩)] 26 (0, 0))).alloc (.cells #[.int .u8 dO, .int .u8 A8, .int .u8 B8, .slice As ns cs, .int .i8 nn, .int .u64 bits] 34 (0, 0))).heap[w.heap.size + 1]? = some (.cells #[.int .u8 dO, .int .u8 A8, .int .u8 B8, .slice As ns cs, .int .i8 nn, .int .u64 bits] 34 (0, 0)) := by
    have := heap_alloc_new (w.alloc (.cells #[.pointer (some ⟨mp, 0, none⟩)] 26 (0, 0))) (.cells #[.int .u8 dO, .int .u8 A8, .int .u8 B8, .slice As ns cs, .int .i8 nn, .int .u64 bits] 34 (0, 0))
    rw [World.size_alloc] at this
    exact this
  generalize (w.alloc (.cells #[.pointer (some ⟨mp, 0, none⟩)] 26 (0, 0))).alloc (.cells #[.int .u8 dO, .int .u8 A8, .int .u8 B8, .slice As ns cs, .int .i8 nn, .int .u64 bits] 34 (0, 0)) = w2 at *
  obtain ⟨qm, hqm⟩ : ∃ qm, qm = w.heap.size := ⟨_, rfl⟩
  rw [← hqm] at hq1 hq2 ⊢
  obtain ⟨qs, hqs⟩ : ∃ qs, qs = qm + 1 := ⟨_, rfl⟩
  rw [← hqs] at hq2 ⊢
  have hqm1 : w.heap.size ≤ qm := by omega
  have hqm2 : qm < qs := by omega
  have hqs2 : qs < w2.heap.size := by omega
  clear hqm hqs hs2
  have HQ1 := Lib.hid hq1
  have HQ2 := Lib.hid hq2
  have m1 : w2.cell? ⟨qm, 0, none⟩ = some (.pointer (some ⟨mp, 0, none⟩)) := by rw [cell_of_blk hq1]; rfl
  have s0 : w2.cell? ⟨qs, 0, none⟩ = some (.int .u8 dO) := by rw [cell_of_blk hq2]; rfl
  have s1 : w2.cell? ⟨qs, 1, none⟩ = some (.int .u8 A8) := by rw [cell_of_blk hq2]; rfl
  have s2 : w2.cell? ⟨qs, 2, none⟩ = some (.int .u8 B8) := by rw [cell_of_blk hq2]; rfl
  have s3 : w2.cell? ⟨qs, 3, none⟩ = some (.slice As ns cs) := by rw [cell_of_blk hq2]; rfl
  have s4 : w2.cell? ⟨qs, 4, none⟩ = some (.int .i8 nn) := by rw [cell_of_blk hq2]; rfl
  have n0 : w2.cell? ⟨0, 0, none⟩ = some (.slice (some na) 4 nc) := cellk hb2 (by show 0 < w.heap.size; have := hn.lt; omega) hn1
  have n1 : w2.cell? (na.add iA) = some (txt kA) := cellk hb2 (by rw [block_of_add]; omega) hnA
  have n2 : w2.cell? (na.add iB) = some (txt kB) := cellk hb2 (by rw [block_of_add]; omega) hnB
  have i0 : (0 : Int) ≤ (iA : Int) := by omega
  have i1 : (iA : Int) < 4 := by omega
  have i2 : (0 : Int) ≤ (iB : Int) := by omega
  have i3 : (iB : Int) < 4 := by omega
  clear hq1 hq2 hnA hnB hn1 hn
  go_region_held3 (fun w' => w'.cell? ⟨qs, 1, none⟩ = some (.int .u8 A8) ∧ w'.cell? ⟨qs, 2, none⟩ = some (.int .u8 B8) ∧ w'.cell? ⟨0, 0, none⟩ = some (.slice (some na) 4 nc) ∧ w'.cell? (na.add iA) = some (txt kA) ∧ w'.cell? (na.add iB) = some (txt kB)) (first | exact ⟨s1, s2, n0, n1, n2⟩ | go_keep) (fail)
  clear s1 s2 n0 n1 n2 i0 i1 i2 i3
  obtain ⟨V, hm⟩ := HM.out
  have hm2 := hm.below hb2
  have HMap := Lib.hid hm2.map
  have hmt := hm2.lt
  have c0 : w2.cell? ⟨mp, 0, none⟩ = some (.map (some mb)) := hm2.c0
  obtain ⟨rf, hrf⟩ : ∃ rf, rf = (F kA).map fun x => fileV (V kA) x.2 := ⟨_, rfl⟩
  obtain ⟨Af, nf, cf, kf, hfv⟩ : ∃ (Af : Option Addr) (nf cf kf : Nat), rf.getD (.agg #[.slice none 0 0, .int .i64 0]) = .agg #[.slice Af nf cf, .int .i64 kf] := by
    cases hF : F kA with
    | none => exact ⟨none, 0, 0, 0, by rw [hrf, hF]; rfl⟩
    | some x =>
      obtain ⟨hrow, _⟩ := hm2.file kA x.1 x.2 hF
      obtain ⟨Af, cf, hVf, _⟩ := hrow.form
      exact ⟨Af, x.1.length, cf, x.2, by rw [hrf, hF]; simp [fileV, hVf]⟩
  obtain ⟨okf, hok⟩ : ∃ okf, okf = rf.isSome := ⟨_, rfl⟩
  have HR := Lib.hid hrf.symm
  have HFV := Lib.hid hfv
  have HOK := Lib.hid hok
  clear hrf hfv hok
  have HM2 := Lib.hid hm2
  clear hm hm2
  go_wp2_with (at_lookup; (refine wpList_look rfl _ _ 27 rfl 43 Tryd.underlying27 (zeroF' _) mb N _ rfl HMap.out kA rfl hkl rf HR.out ?_); rw [HFV.out, ← HOK.out])
  have hltD := HD.out.lt
  have hltM : ∀ g, D g → g < w.heap.size := fun g hg => HM.out.lt hg
  have hz2 := hb2.size
  have hsz : (((w2.alloc (.cells #[.slice Af nf cf, .int .i64 kf] 43 (0, 0))).alloc (.cells #[.slice none 0 0] 45 (0, 0))).alloc (.cells #[.bool true] 4 (0, 0))).drew.heap.size = w2.heap.size + 3 := by show ((((w2.alloc (.cells #[.slice Af nf cf, .int .i64 kf] 43 (0, 0))).alloc (.cells #[.slice none 0 0] 45 (0, 0)))).alloc _).heap.size = _; rw [World.size_alloc, World.size_alloc, World.size_alloc]
  have hbc : Below w2.heap.size w2 (((w2.alloc (.cells #[.slice Af nf cf, .int .i64 kf] 43 (0, 0))).alloc (.cells #[.slice none 0 0] 45 (0, 0))).alloc (.cells #[.bool true] 4 (0, 0))).drew := ((((Below.refl w2.heap.size w2).alloc (Nat.le_refl _) _).alloc (by rw [World.size_alloc]; omega) _).alloc (by rw [World.size_alloc, World.size_alloc]; omega) _).drew
  have hqa : (((w2.alloc (.cells #[.slice Af nf cf, .int .i64 kf] 43 (0, 0))).alloc (.cells #[.slice none 0 0] 45 (0, 0))).alloc (.cells #[.bool true] 4 (0, 0))).drew.heap[w2.heap.size + 1]? = some (.cells #[.slice none 0 0] 45 (0, 0)) := by
    have := heap_alloc_new (w2.alloc (.cells #[.slice Af nf cf, .int .i64 kf] 43 (0, 0))) (.cells #[.slice none 0 0] 45 (0, 0))
    rw [World.size_alloc] at this
    exact heap_alloc_keep this _
  have hqr : (((w2.alloc (.cells #[.slice Af nf cf, .int .i64 kf] 43 (0, 0))).alloc (.cells #[.slice none 0 0] 45 (0, 0))).alloc (.cells #[.bool true] 4 (0, 0))).drew.heap[w2.heap.size + 1 + 1]? = some (.cells #[.bool true] 4 (0, 0)) := by
    have := heap_alloc_new ((w2.alloc (.cells #[.slice Af nf cf, .int .i64 kf] 43 (0, 0))).alloc (.cells #[.slice none 0 0] 45 (0, 0))) (.cells #[.bool true] 4 (0, 0))
    rw [World.size_alloc, World.size_alloc] at this
    exact this
  have HB3 := Lib.hid (hb2.trans (hbc.mono (by omega)))
  have HQ13 := Lib.hid ((hbc.block _ (by omega)).trans HQ1.out)
  have HQ23 := Lib.hid ((hbc.block _ (by omega)).trans HQ2.out)
  have HM3 := Lib.hid (HM2.out.below hbc)
  have HD3 := Lib.hid ((HD.out.below hb2).below hbc)
  generalize (((w2.alloc (.cells #[.slice Af nf cf, .int .i64 kf] 43 (0, 0))).alloc (.cells #[.slice none 0 0] 45 (0, 0))).alloc (.cells #[.bool true] 4 (0, 0))).drew = w3 at *
  obtain ⟨qa, hqae⟩ : ∃ qa, qa = w2.heap.size + 1 := ⟨_, rfl⟩
  rw [← hqae] at hqa hqr ⊢
  obtain ⟨qr, hqre⟩ : ∃ qr, qr = qa + 1 := ⟨_, rfl⟩
  rw [← hqre] at hqr ⊢
  have hqa1 : w.heap.size ≤ qa := by omega
  have hqsa : qs < qa := by omega
  have hqar : qa < qr := by omega
  have hqr3 : qr < w3.heap.size := by omega
  have HQA := Lib.hid hqa
  have HQR := Lib.hid hqr
  have hnc : ∀ g, w.heap.size ≤ g → ¬ C g := fun g hg h => by have := hltD g (.inl h); omega
  have hqd : ∀ g, w.heap.size ≤ g → ¬ D g := fun g hg h => by have := hltM g h; omega
  have HNC := Lib.hid hnc
  have HQD := Lib.hid hqd
  clear hbc hqa hqr hqae hqre hsz HQ1 HQ2 HMap HM2 m1 s0 s3 s4 c0 hmt hqd hnc hz2
  have hA := asksM qa qm qr qs N mp mb bits C D room F V _ w3 HQA.out HQR.out HQ13.out HQ23.out HM3.out rfl hbits (fun g hg => by have := hltD g (.inl hg); omega) hcd (HNC.out _ hqa1) (HNC.out _ hqm1) (HNC.out _ (by omega)) (HNC.out _ (by omega)) (by omega) (by omega) (by omega) (by omega) (by omega) (HQD.out _ hqa1) (HQD.out _ (by omega))
  have hpJ : ¬ (fun b => b = qa ∨ b = qr) pw := fun h => by
    have := hltD pw (.inr rfl)
    rcases h with h | h <;> omega
  refine (dsCrash _ _ B C (fun b => b = qa ∨ b = qr) nb a pw t l u room F (chB bits) _ w3 HD3.out hA hpJ (chB_le bits)).mono ?_
  rintro e w4 ⟨rfl, ⟨t4, ht4, hd4⟩, ⟨R, L, hL, hI⟩, hm4⟩
  have hz4 := hm4.size
  have HD4 := Lib.hid hd4
  have HL := Lib.hid hL
  have HI := Lib.hid hI
  have HM4 := Lib.hid hm4
  have HMD := Lib.hid hI.md
  have HQM4 := Lib.hid hI.m
  have HQS4 := Lib.hid hI.s
  have m4 : w4.cell? ⟨qm, 0, none⟩ = some (.pointer (some ⟨mp, 0, none⟩)) := by rw [cell_of_blk hI.m]; rfl
  have c4 : w4.cell? ⟨mp, 0, none⟩ = some (.map (some mb)) := hI.md.c0
  have HMp4 := Lib.hid hI.md.map
  clear hA hpJ hd4 hL hI hm4 HD3 HM3 HQ13 HQ23 HQA HQR
  go_wp2_with (at_range; (refine wpList_range_map rfl _ 27 rfl 43 Tryd.underlying27 mb N _ rfl HMp4.out ?_; intro w5 cnt hr5 hg5 hz5))
  go_frame
  have hb45 : Below w4.heap.size w4 w5 := (Below.refl _ _).grown hg5 (Nat.le_refl _) (fun j hj => by cases hj)
  have HMD5 := Lib.hid (HMD.out.below hb45)
  have HQM5 := Lib.hid ((hb45.block _ (lt_of_heap HQM4.out)).trans HQM4.out)
  have HQS5 := Lib.hid ((hb45.block _ (lt_of_heap HQS4.out)).trans HQS4.out)
  have HZ5 := Lib.hid hz5
  have hr4 : w.heap.size ≤ w4.heap.size := by have := HB3.out.size; omega
  have HB45 := Lib.hid hb45
  have hr51 : w4.heap.size < w5.heap.size := by omega
  have hD5 : ∀ g, D g → g < w4.heap.size := fun g hg => by have := hltM g hg; omega
  obtain ⟨r, hre⟩ : ∃ r, r = w4.heap.size := ⟨_, rfl⟩
  rw [← hre] at hr5 hr51 ⊢
  have hr4' : w.heap.size ≤ r := by omega
  have hr44 : w4.heap.size ≤ r := by omega
  have hqrr : qr < r := by omega
  have hqsr : qs < r := by omega
  have hqmr : qm < r := by omega
  have hD5' : ∀ g, D g → g < r := fun g hg => by have := hD5 g hg; omega
  have HR5 := Lib.hid (hr5.congr (f' := fun k => (crashP F (chB bits) [] k).map fun x => fileV (V k) x.2) (fun k => by rw [crashP_nil]))
  have hmbd := hltM mb HMD5.out.db
  have hmpd := hltM mp HMD5.out.dm
  have hkinds := HMD5.out.kinds.1
  clear hb45 hz5 hg5 hre hr5 m4 c4 HMp4 hD5
  have heg : ∀ args w, (callFunc 39 args).run Tryd.prog w = .ok (.enter 39 args) w := enters_of Tryd.func39 (by kernel_rfl) rfl
  go_loopw [19, 18, 165] (fun _ _ _ wr => ∃ (done : List Txt) (cnt : Nat) (V' : FName → Value) (D' : Nat → Prop), Hid (RangeAt wr mb r N (fun k => (crashP F (chB bits) done k).map fun x => fileV (V' k) x.2) done cnt) ∧ Hid (ModIn wr D' N mp mb room (crashP F (chB bits) done) V') ∧ Hid (∀ g, D' g → D g ∨ w5.heap.size ≤ g) ∧ Hid (Mod (fun g => D g ∨ g = r) w5 wr)) (fun _ _ _ wr => wr.rangeLeft mb r)
  case atStart => exact ⟨[], cnt, V, D, HR5, by rw [crashP_nil]; exact HMD5, Lib.hid (fun g hg => .inl hg), Lib.hid (Mod.refl _ _)⟩
  case round =>
    obtain ⟨done, cnt', V', D', HRG, HMR, HDR, HMO⟩ := hrel
    have HLE := Lib.hid HRG.out.left_eq
    have hzr := HMO.out.size
    go_wp2_with (at_next; (refine wpList_next_map rfl _ rfl mb r N _ done cnt' rfl HRG.out ?_ ?_))
    · intro hall
      have hcf : crashP F (chB bits) done = crashF F (chB bits) := crashP_all F (chB bits) (fun k hk => hall k (by
        unfold crashP
        split
        · simpa using hk
        · exact hk))
      have HCF := Lib.hid hcf
      clear hall hcf
      go_wp2_with (fail)
      obtain ⟨⟨Aa, ca, g1, g2, _⟩, g4, g5, _, _, _, g9, _⟩ := HI.out
      have hmw : Mod (fun g => D g ∨ g = r) w4 wr := (Mod.of_below (F := fun g => D g ∨ g = r) HB45.out).trans HMO.out (fun _ _ h => h)
      have hmw' : Mod (fun g => D g ∨ False) w4 wr := (Mod.of_below (F := fun g => D g ∨ False) HB45.out).trans HMO.out (fun g hg h => by rcases h with h | h; exact .inl h; exfalso; omega)
      have hlt4 := lt_of_heap g1
      have hga := hmw.blk g1 (fun h => by rcases h with h | h; exact HQD.out _ hqa1 h; omega)
      have hgr := hmw.blk g4 (fun h => by rcases h with h | h; exact HQD.out _ (by omega) h; omega)
      have hgm := hmw.blk g5 (fun h => by rcases h with h | h; exact HQD.out _ hqm1 h; omega)
      have hgo := owns_modv4 g2 hmw (fun g hg h => by
        obtain ⟨e1, e2⟩ := g2.lt g hg
        rcases h with h | h
        · have := hltM g h; have := HB3.out.size; omega
        · omega)
      have HRA := Lib.hid (Reads.of_own hgo)
      have HMW := Lib.hid hmw'
      have SR : wr.cell? ⟨qr, 0, none⟩ = some (.bool true) ∧ wr.cell? ⟨qa, 0, none⟩ = some (.slice Aa L.length ca) ∧ wr.cell? ⟨qm, 0, none⟩ = some (.pointer (some ⟨mp, 0, none⟩)) ∧ wr.cell? ⟨mp, 0, none⟩ = some (.map (some mb)) := ⟨by rw [cell_of_blk hgr]; rfl, by rw [cell_of_blk hga]; rfl, by rw [cell_of_blk hgm]; rfl, HMR.out.c0⟩
      obtain ⟨l1, l2, l3, l4⟩ := SR
      have SK : (wr.drew.alloc (.cells #[.map (some mb)] 27 (0, 0))).cell? ⟨qr, 0, none⟩ = some (.bool true) ∧ (wr.drew.alloc (.cells #[.map (some mb)] 27 (0, 0))).cell? ⟨qa, 0, none⟩ = some (.slice Aa L.length ca) ∧ (wr.drew.alloc (.cells #[.map (some mb)] 27 (0, 0))).cell? ⟨qm, 0, none⟩ = some (.pointer (some ⟨mp, 0, none⟩)) ∧ (wr.drew.alloc (.cells #[.map (some mb)] 27 (0, 0))).cell? ⟨mp, 0, none⟩ = some (.map (some mb)) := ⟨calloc (w := wr.drew) l1 _, calloc (w := wr.drew) l2 _, calloc (w := wr.drew) l3 _, calloc (w := wr.drew) l4 _⟩
      have q1 := World.block_lt_of_cell? _ _ l1
      have q2 := World.block_lt_of_cell? _ _ l2
      have q3 := World.block_lt_of_cell? _ _ l3
      have q4 := World.block_lt_of_cell? _ _ l4
      have hll := g9
      clear g1 g2 g4 g5 g9 hga hgr hgm hgo hmw hmw'
      go_region_held3 (fun w' => w'.cell? ⟨qr, 0, none⟩ = some (.bool true) ∧ w'.cell? ⟨qa, 0, none⟩ = some (.slice Aa L.length ca) ∧ w'.cell? ⟨qm, 0, none⟩ = some (.pointer (some ⟨mp, 0, none⟩)) ∧ w'.cell? ⟨mp, 0, none⟩ = some (.map (some mb))) (first | exact ⟨cellk HB8.out q1 l1, cellk HB8.out q2 l2, cellk HB8.out q3 l3, cellk HB8.out q4 l4⟩ | exact ⟨cellk HB7.out q1 l1, cellk HB7.out q2 l2, cellk HB7.out q3 l3, cellk HB7.out q4 l4⟩ | exact SK | exact ⟨l1, l2, l3, l4⟩ | go_keep) ((first
        | (go_at_call 30; refine (callsIn_wide.1 (Tryd.maps_Keys_30 _ _)).mono ?_; rintro e wk ⟨rfl, rfl⟩)
        | (go_at_call 29; refine (sortM mb N _ wr.drew HMR.out.map (by omega)).mono ?_; rintro e w7 ⟨L7, A7, c7, hna7, hll7, rfl, hown7, hb7⟩; have HB7 := Lib.hid (((Below.refl wr.heap.size wr).drew).trans hb7); have HRS := Lib.hid (Reads.of_own hown7); have HEQ := Lib.hid (HL.out.unique hna7 (fun k => by rw [HCF.out]; unfold crashF; simp [Option.isSome_map])); clear hown7 hb7 hna7)
        | (go_at_call 28; refine (equalS true Aa A7 L.length ca L7.length c7 wr.heap.size w7.heap.size L L7 w7 (HRA.out.below HB7.out) HRS.out (by omega) (by omega) (decide_eq_true HEQ.out)).mono ?_; rintro e w8 ⟨rfl, hb8⟩; have HB8 := Lib.hid (HB7.out.trans (hb8.mono HB7.out.size)); clear hb8)))
      go_wp2_with (fail)
      go_ret
      have hzw := HMW.out.size
      have hz3 := HB3.out.size
      have hmd8 := HMR.out.below HB8.out
      rw [HCF.out] at hmd8
      refine retB_of (w1 := w4) (E := fun _ => False) (HD4.out.more (Nat.le_succ _) hnb) (ModAt.more ⟨_, hmd8⟩) (fun _ hg => .inl hg) (fun g hg => ?_) ((Mod.of_below (F := TouchD C pw) HB3.out).trans HM4.out (fun g hg h => ?_)) (HMW.out.trans (Mod.of_below (F := fun _ => False) HB8.out) (fun _ _ h => h.elim)) (fun _ h => h.elim) (hltD pw (.inr rfl)) hcd hdp hdb hltM hBw
      · rcases HDR.out g hg with h | h
        · exact .inl h
        · have := HB45.out.size; exact .inr (by omega)
      · rcases h with h | h | h
        · exact .inl h
        · omega
        · omega
    · intro k v w' cnt2 bs kept hF hv hnd hkl3 hr2 hlt hg2 hz2 hen
      subst hv
      have hFk : F k = some (bs, kept) := by unfold crashP at hF; rw [if_neg hnd] at hF; exact hF
      have hnr : ∀ g, some r = some g → ¬ D' g := fun g hg h => by
        injection hg with hg
        rcases HDR.out g h with h | h
        · have := hD5' g h; omega
        · omega
      have hM2 := HMR.out.kept hg2 hnr
      have hmo2 := HMO.out.grown hg2 (fun g hg _ => by injection hg with hg; exact .inr hg.symm)
      obtain ⟨hrow, hown⟩ := hM2.file k bs kept hF
      obtain ⟨Ax, cx, hVx, hcx⟩ := hrow.form
      simp only [hVx, fileV] at hen
      have hkp : kept ≤ bs.length := HD.out.kept k bs kept hFk
      have hbl : bs.length ≤ t := by have := HD.out.tot.one k; have h2 : lenF F k = bs.length := by simp [lenF, hFk]
                                     omega
      obtain ⟨cc, hcc⟩ : ∃ cc, cc = chB bits k (bs.length - kept) := ⟨_, rfl⟩
      have hcc1 : cc ≤ bs.length - kept := by rw [hcc]; unfold chB; have := Nat.mod_lt bits (show 0 < bs.length - kept + 1 by omega); omega
      obtain ⟨nx, hnx⟩ : ∃ nx, nx = bs.length := ⟨_, rfl⟩
      rw [← hnx] at hen hcx hkp hbl hcc hcc1
      have hz2' : w'.heap.size = wr.heap.size := hz2
      have hq51 : w5.heap.size ≤ w'.heap.size := by omega
      have hrd := (show RowW w' 5 (.slice Ax nx cx) nx (bv bs) by rw [hnx, ← hVx]; exact hrow).reads
      have HRD := Lib.hid hrd
      have HR2 := Lib.hid hr2
      have HM2 := Lib.hid hM2
      have HMO2 := Lib.hid hmo2
      have HFK := Lib.hid hFk
      have HCC := Lib.hid hcc
      have HNX := Lib.hid hnx
      have HND := Lib.hid hnd
      have HEN := Lib.hid hen
      have HMX : Hid (Mod (fun g => D g ∨ g = r) w5 w') := HMO2
      have m2 : w'.cell? ⟨qm, 0, none⟩ = some (.pointer (some ⟨mp, 0, none⟩)) := by rw [cell_of_blk (HMX.out.blk HQM5.out (fun h => by rcases h with h | h; exact HQD.out _ hqm1 h; omega))]; rfl
      have c2 : w'.cell? ⟨mp, 0, none⟩ = some (.map (some mb)) := hM2.c0
      have s2 : w'.cell? ⟨qs, 5, none⟩ = some (.int .u64 bits) := by rw [cell_of_blk (HMX.out.blk HQS5.out (fun h => by rcases h with h | h; exact HQD.out _ (by omega) h; omega))]; rfl
      have w1' : IntKind.i64.wrap ((nx : Int) - (kept : Int)) = (nx : Int) - (kept : Int) := IntWalk.i64_in _ (by omega)
      have w2' : IntKind.i64.wrap ((kept : Int) + (cc : Int)) = (kept : Int) + (cc : Int) := IntWalk.i64_in _ (by omega)
      clear hrow hown hVx hrd hr2 hM2 hmo2 hFk hcc hnx hnd hF hnr hg2 hz2 hz2'
      go_wp2_with (fail)
      have hbx : Below w'.heap.size w' (w'.alloc (.cells #[.slice Ax nx cx, .int .i64 kept] 43 (0, 0))) := (Below.refl w'.heap.size w').alloc (Nat.le_refl _) _
      have hqx : (w'.alloc (.cells #[.slice Ax nx cx, .int .i64 kept] 43 (0, 0))).heap[w'.heap.size]? = some (.cells #[.slice Ax nx cx, .int .i64 kept] 43 (0, 0)) := heap_alloc_new _ _
      have hzx : (w'.alloc (.cells #[.slice Ax nx cx, .int .i64 kept] 43 (0, 0))).heap.size = w'.heap.size + 1 := World.size_alloc _ _
      obtain ⟨qx, hqxe⟩ : ∃ qx, qx = w'.heap.size := ⟨_, rfl⟩
      rw [← hqxe] at hqx ⊢
      have m6 : (w'.alloc (.cells #[.slice Ax nx cx, .int .i64 kept] 43 (0, 0))).cell? ⟨qm, 0, none⟩ = some (.pointer (some ⟨mp, 0, none⟩)) := calloc m2 _
      have c6 : (w'.alloc (.cells #[.slice Ax nx cx, .int .i64 kept] 43 (0, 0))).cell? ⟨mp, 0, none⟩ = some (.map (some mb)) := calloc c2 _
      have s6 : (w'.alloc (.cells #[.slice Ax nx cx, .int .i64 kept] 43 (0, 0))).cell? ⟨qs, 5, none⟩ = some (.int .u64 bits) := calloc s2 _
      have x0 : (w'.alloc (.cells #[.slice Ax nx cx, .int .i64 kept] 43 (0, 0))).cell? ⟨qx, 0, none⟩ = some (.slice Ax nx cx) := by rw [cell_of_blk hqx]; rfl
      have x1 : (w'.alloc (.cells #[.slice Ax nx cx, .int .i64 kept] 43 (0, 0))).cell? ⟨qx, 1, none⟩ = some (.int .i64 kept) := by rw [cell_of_blk hqx]; rfl
      have HR6 := Lib.hid (HR2.out.kept (World.grownBy_alloc w' (.cells #[.slice Ax nx cx, .int .i64 kept] 43 (0, 0)) none) (by simp) (by simp))
      have HM6 := Lib.hid (HM2.out.below hbx)
      have HMO6 := Lib.hid (HMX.out.trans (Mod.of_below (F := fun _ => False) hbx) (fun _ _ h => h.elim))
      have HRD6 := Lib.hid (HRD.out.below hbx)
      have HQX := Lib.hid hqx
      clear hbx hqx m2 c2 s2 HR2 HM2 HMX HMO2 HRD HEN
      generalize (w'.alloc (.cells #[.slice Ax nx cx, .int .i64 kept] 43 (0, 0))) = w6 at *
      have hqx6 : qx < w6.heap.size := by omega
      have hqx5 : w'.heap.size ≤ qx := by omega
      have hqx7 : w6.heap.size ≤ qx + 1 := by omega
      clear hqxe hzx
      have hcx1 : kept + cc ≤ nx := by omega
      have lm6 := World.block_lt_of_cell? _ _ m6
      have lc6 := World.block_lt_of_cell? _ _ c6
      have ls6 := World.block_lt_of_cell? _ _ s6
      go_region_held3 (fun w' => w'.cell? ⟨qs, 5, none⟩ = some (.int .u64 bits) ∧ w'.cell? ⟨qx, 0, none⟩ = some (.slice Ax nx cx) ∧ w'.cell? ⟨qx, 1, none⟩ = some (.int .i64 kept)) (first | exact ⟨cellk HB7.out ls6 s6, cellk HB7.out hqx6 x0, cellk HB7.out hqx6 x1⟩ | exact ⟨s6, x0, x1⟩ | go_keep) ((first
        | (go_at_call 27; refine (choice4 bits _).mono ?_; rintro e w7 ⟨rfl, hcell, hb7, hz7⟩; have HB7 := Lib.hid (((Below.refl w6.heap.size w6).drew).trans hb7); have HCL := Lib.hid hcell; clear hb7 hz7 hcell)
        | (go_at_call 39; rw [show (nx : Int) - (kept : Int) = ((nx - kept : Nat) : Int) by omega]; refine (choiceClo w6.heap.size bits (nx - kept) k w7 HCL.out hbits (by omega)).mono ?_; rintro e w8 ⟨he, rfl⟩; rw [← (show cc = bits % (nx - kept + 1) from HCC.out)] at he; subst he)))
      go_wp2_with (fail)
      obtain ⟨nz, hnz⟩ : ∃ nz, nz = kept + cc := ⟨_, rfl⟩
      rw [show (kept : Int) + (cc : Int) = (nz : Int) by omega]
      have hz68 := HB7.out.size
      have HM8 := Lib.hid (HM6.out.below HB7.out)
      have HR8 := Lib.hid (HR6.out.mod (F := fun _ => False) (Mod.of_below HB7.out) (fun h => h) (fun h => h))
      have HMO8 := Lib.hid (HMO6.out.trans (Mod.of_below (F := fun _ => False) HB7.out) (fun _ _ h => h.elim))
      have HRD8 := Lib.hid (reads_pre4 (HRD6.out.below (HB7.out.mono (by omega))) (show nz ≤ nx by omega))
      have HQX8 := Lib.hid ((HB7.out.block _ hqx6).trans HQX.out)
      have HQM8 := Lib.hid (HMO8.out.blk HQM5.out (fun h => by rcases h with h | h; exact HQD.out _ hqm1 h; omega))
      have S8 : w8.cell? ⟨qm, 0, none⟩ = some (.pointer (some ⟨mp, 0, none⟩)) ∧ w8.cell? ⟨mp, 0, none⟩ = some (.map (some mb)) ∧ w8.cell? ⟨qx, 0, none⟩ = some (.slice Ax nx cx) := ⟨by rw [cell_of_blk HQM8.out]; rfl, HM8.out.c0, by rw [cell_of_blk HQX8.out]; rfl⟩
      have j0 : (0 : Int) ≤ (nz : Int) := by omega
      have j1 : (nz : Int) ≤ (cx : Int) := by omega
      have j2 : nz ≤ cx := by omega
      have hnz1 : nz ≤ nx := by omega
      have hn1 : mb ≠ qm := by omega
      have hn3 : mb ≠ qx := by omega
      have hFs : (crashP F (chB bits) done k).isSome = true := by unfold crashP; rw [if_neg HND.out, HFK.out]; rfl
      have HNZ := Lib.hid hnz
      have HCC1 := Lib.hid hcc1
      have hq58 : w5.heap.size ≤ w8.heap.size := by omega
      clear HR6 HM6 HMO6 HRD6 HQX m6 c6 s6 x0 x1 lm6 lc6 ls6 hnz w1' w2' hcc1 hcx1 HCL
      go_region_held3 (fun w' => w'.cell? ⟨qm, 0, none⟩ = some (.pointer (some ⟨mp, 0, none⟩)) ∧ w'.cell? ⟨mp, 0, none⟩ = some (.map (some mb)) ∧ w'.cell? ⟨qx, 0, none⟩ = some (.slice Ax nx cx)) (first | exact S10 | exact S9 | exact S8 | go_keep) ((go_at_call 25; refine (cloneB Ax nz cx _ (bv (bs.take nz)) _ (show Reads w8.drew _ 1 Ax nz _ from HRD8.out) (by show _ ≤ w8.heap.size; omega) (bv_one _) (by omega)).mono ?_; rintro e w9 ⟨v9, rfl, hown9, hb9⟩; obtain ⟨A9, c9, rfl, hc9⟩ := owns_form hown9; have HB9 := Lib.hid (((Below.refl w8.heap.size w8).drew).trans hb9); obtain ⟨w10, hrun10, HR10, HG10, S9, S10⟩ := put_runR HM8.out HR8.out HB9.out HQM8.out HQX8.out hn1 hn3 hkl3 hFs (.agg #[.slice A9 nz c9, .int .i64 (nz : Int)]); have HO9 := Lib.hid hown9; clear hown9 hb9))
      go_wp2_with (fail)
      have hcb := crash1_chB bits k bs kept
      rw [← HNX.out, ← HCC.out, ← HNZ.out] at hcb
      have hcons := crashP_cons F (chB bits) done k (bs, kept) HFK.out
      rw [hcb] at hcons
      have hlt9 : (bs.take nz).length = nz := by rw [List.length_take]; have := HNX.out; omega
      have hrow9 : RowW w9 5 (.slice A9 nz c9) (bs.take nz).length (bv (bs.take nz)) := by rw [hlt9]; exact RowW.of_owns HO9.out
      have hm10 := (HM8.out.below HB9.out).put (k := k) (bs := bs.take nz) (kept := nz) (v := .slice A9 nz c9) hrow9 (fun g hg => hrow9.lt hg) HR10.out.map HG10.out
      have hr10 := HR10.out.congr (f' := fun y => (putF (crashP F (chB bits) done) k (bs.take nz, nz) y).map fun x => fileV (if y = k then .slice A9 nz c9 else V' y) x.2) (fun y => by
        unfold putM putF
        by_cases hy : y = k
        · simp [hy, fileV]
        · simp [hy])
      have hmo10 := (HMO8.out.trans (Mod.of_below (F := fun _ => False) HB9.out) (fun _ _ h => h.elim)).grown HG10.out (fun g hg _ => by injection hg with hg; exact .inl (hg ▸ HMD5.out.db))
      rw [← hcons] at hm10 hr10
      refine ⟨⟨k :: done, cnt2, _, _, Lib.hid hr10, Lib.hid hm10, Lib.hid (fun g hg => ?_), Lib.hid hmo10⟩, ?_⟩
      · rcases hg with h | h
        · exact HDR.out g h
        · have := (HO9.out.lt g h).1
          exact .inr (Nat.le_trans hq58 this)
      · rw [hr10.left_eq, HLE.out]
        exact hlt
end Go.Proofs.YtfccoiofpmhbdaaDoor
