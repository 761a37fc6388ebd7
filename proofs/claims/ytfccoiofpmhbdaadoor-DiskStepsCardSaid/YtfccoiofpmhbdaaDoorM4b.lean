/- selionlaw04.M.Do: a step, on a disk and on the law's own. Condition: both are as told. -/
import Derived.Test.YtfccoiofpmhbdaaDoorM4a
import Derived.Test.YtfccoiofpmhbdaaDoorEqualS
namespace Go.Proofs.YtfccoiofpmhbdaaDoor
open Go Go.Proofs Go.RowKit

/-- A step. -/
def stepV (dO A8 B8 : Nat) (s : Value) (nn : Int) (bits : Nat) : Value := .agg #[.int .u8 dO, .int .u8 A8, .int .u8 B8, s, .int .i8 nn, .int .u64 bits]
/-- A disk, and the law's own, with the same files; their blocks lie apart, all behind B. -/
structure Both (B : Nat) (w : World) (C D : Nat → Prop) (nb N a pw mp mb : Nat) (l u room : Int) (F : Files) (t : Nat) : Prop where
  ds : DS B w C nb a pw l u room F t
  md : ModAt w D N mp mb room F
  cd : ∀ g, C g → ¬ D g
  dp : ¬ D pw
  db : ∀ g, D g → B ≤ g
theorem Both.below {B : Nat} {w w' : World} {C D : Nat → Prop} {nb N a pw mp mb : Nat} {l u room : Int} {F : Files} {t : Nat} (h : Both B w C D nb N a pw mp mb l u room F t) (hb : Below w.heap.size w w') : Both B w' C D nb N a pw mp mb l u room F t :=
  { h with ds := h.ds.below hb, md := h.md.below hb }
/-- Where a step may write. -/
def TouchB (C D : Nat → Prop) (pw : Nat) : Nat → Prop := fun g => TouchD C pw g ∨ D g
/-- A step is done, on both: v is answered. -/
def RetB (w : World) (B : Nat) (C D : Nat → Prop) (nb N a pw mp mb : Nat) (l u room : Int) (e : Ending) (w' : World) : Prop :=
  e = .returned (.bool true) ∧ ∃ C' D' F' t', Both B w' C' D' nb N a pw mp mb l u room F' t' ∧ (∀ g, C' g → C g ∨ w.heap.size ≤ g) ∧ (∀ g, D' g → D g ∨ w.heap.size ≤ g) ∧ Mod (TouchB C D pw) w w'
/-- Behind the disk's step (w1), and the model's (w2), boxes of the call's own (E) aside. -/
theorem retB_of {w w1 w2 : World} {B : Nat} {C D C' D' E : Nat → Prop} {nb N a pw mp mb t' : Nat} {l u room : Int} {F' : Files} (hd : DS B w1 C' nb a pw l u room F' t') (hm : ModAt w2 D' N mp mb room F') (hc : ∀ g, C' g → C g ∨ w.heap.size ≤ g) (hD : ∀ g, D' g → D g ∨ w1.heap.size ≤ g) (h1 : Mod (TouchD C pw) w w1) (h2 : Mod (fun g => D g ∨ E g) w1 w2)
    (hE : ∀ g, E g → w.heap.size ≤ g ∧ ¬ C' g) (hpl : pw < w.heap.size) (hcd : ∀ g, C g → ¬ D g) (hdp : ¬ D pw) (hdb : ∀ g, D g → B ≤ g) (hDl : ∀ g, D g → g < w.heap.size) (hBw : B ≤ w.heap.size) : RetB w B C D nb N a pw mp mb l u room (.returned (.bool true)) w2 := by
  have hz := h1.size
  have hlt := hd.lt
  have hn : ∀ g, C' g → ¬ D g := fun g hg hg' => by
    rcases hc g hg with h | h
    · exact hcd g h hg'
    · have := hDl g hg'; omega
  have hn' : ∀ g, C' g → ¬ (D g ∨ E g) := fun g hg hg' => by
    rcases hg' with h | h
    · exact hn g hg h
    · exact (hE g h).2 hg
  have hp' : ¬ (D pw ∨ E pw) := fun hg' => by
    rcases hg' with h | h
    · exact hdp h
    · have := (hE pw h).1; omega
  refine ⟨rfl, C', D', F', t', ⟨hd.mod h2 hn' hp', hm, fun g hg hg' => ?_, fun h => ?_, fun g hg => ?_⟩, hc, fun g hg => ?_, (h1.mono fun _ _ h => .inl h).trans h2 fun g hg h => ?_⟩
  · rcases hD g hg' with h | h
    · exact hn g hg h
    · have := hlt g (.inl hg); omega
  · rcases hD pw h with h | h
    · exact hdp h
    · have := hlt pw (.inr rfl); omega
  · rcases hD g hg with h | h
    · exact hdb g h
    · omega
  · rcases hD g hg with h | h
    · exact .inl h
    · exact .inr (by omega)
  · rcases h with h | h
    · exact .inr h
    · have := (hE g h).1; omega
theorem ModAt.more {w : World} {D : Nat → Prop} {N mp mb : Nat} {room : Int} {F : Files} (h : ModAt w D N mp mb room F) : ModAt w D (N + 1) mp mb room F := by
  obtain ⟨V, h⟩ := h
  exact ⟨V, { h with map := h.map.more (Nat.le_succ _) }⟩
/-- Nothing is changed on either. -/
theorem retB_same {w w' : World} {B : Nat} {C D : Nat → Prop} {nb N a pw mp mb t : Nat} {l u room : Int} {F : Files} (h : Both B w' C D nb N a pw mp mb l u room F t) (hnb : nb < 1000000) (hb : Below w.heap.size w w') : RetB w B C D (nb + 1) (N + 1) a pw mp mb l u room (.returned (.bool true)) w' :=
  ⟨rfl, C, D, F, t, { h with ds := h.ds.more (Nat.le_succ _) hnb, md := h.md.more }, fun _ hg => .inl hg, fun _ hg => .inl hg, Mod.of_below hb⟩
theorem blk_grown4 {w w' : World} {g : Nat} {o : Obj} {row : Option Nat} (h : w.heap[g]? = some o) (hg : w.grownBy w' row) (hr : row ≠ some g) : w'.heap[g]? = some o :=
  (hg.block g (lt_of_heap h) (fun e => hr e.symm)).trans h
set_option maxRecDepth 100000 in
/-- The store of a file's value into the model's map: what the walk wants of it. -/
theorem put_run {w4 w5 : World} {D : Nat → Prop} {N mp mb qm qs qf : Nat} {room : Int} {F : Files} {V : FName → Value} {cf cs : Array Value} (hm : ModIn w4 D N mp mb room F V) (hb : Below w4.heap.size w4 w5) (hN : N < maxLen) (hqm : w4.heap[qm]? = some (.cells #[.pointer (some ⟨mp, 0, none⟩)] 26 (0, 0))) (hqs : w4.heap[qs]? = some (.cells cs 34 (0, 0))) (hqf : w4.heap[qf]? = some (.cells cf 43 (0, 0))) (h1 : mb ≠ qm) (h2 : mb ≠ qs) (h3 : mb ≠ qf) {k : Txt} (hk : k.length ≤ maxLen) (v : Value) :
    ∃ w6, (Instr.mapUpdate 27 (.map (some mb)) (txt k) v).run Tryd.prog w5 = .ok () w6 ∧ Hid (MapAt w6 mb (N + 1) (putM (fun k => (F k).map fun x => fileV (V k) x.2) k v)) ∧ Hid (w5.grownBy w6 (some mb)) ∧
      (w5.cell? ⟨qm, 0, none⟩ = some (.pointer (some ⟨mp, 0, none⟩)) ∧ w5.cell? ⟨mp, 0, none⟩ = some (.map (some mb)) ∧ w5.cell? ⟨qf, 0, none⟩ = cf[0]? ∧ w5.cell? ⟨qf, 1, none⟩ = cf[1]? ∧ w5.cell? ⟨qs, 3, none⟩ = cs[3]? ∧ w5.cell? ⟨qs, 4, none⟩ = cs[4]?) ∧
      (w6.cell? ⟨qm, 0, none⟩ = some (.pointer (some ⟨mp, 0, none⟩)) ∧ w6.cell? ⟨mp, 0, none⟩ = some (.map (some mb)) ∧ w6.cell? ⟨qf, 0, none⟩ = cf[0]? ∧ w6.cell? ⟨qf, 1, none⟩ = cf[1]? ∧ w6.cell? ⟨qs, 3, none⟩ = cs[3]? ∧ w6.cell? ⟨qs, 4, none⟩ = cs[4]?) := by
  have hm5 := hm.below hb
  have hqm5 := (hb.block _ (lt_of_heap hqm)).trans hqm
  have hqs5 := (hb.block _ (lt_of_heap hqs)).trans hqs
  have hqf5 := (hb.block _ (lt_of_heap hqf)).trans hqf
  obtain ⟨w6, hrun, r1, r2, _⟩ := MapAt.store hm5.map (t := 27) (e := 43) Tryd.underlying27 hN hk v
  obtain ⟨hk1, _⟩ := hm5.kinds
  have hqm6 := blk_grown4 hqm5 r2 (fun e => h1 (by injection e))
  have hqs6 := blk_grown4 hqs5 r2 (fun e => h2 (by injection e))
  have hqf6 := blk_grown4 hqf5 r2 (fun e => h3 (by injection e))
  have htop6 := blk_grown4 hm5.top r2 (fun e => hk1 (by injection e with e; exact e.symm))
  exact ⟨w6, hrun, Lib.hid r1, Lib.hid r2, ⟨by rw [cell_of_blk hqm5]; rfl, hm5.c0, cell_of_blk hqf5 0, cell_of_blk hqf5 1, cell_of_blk hqs5 3, cell_of_blk hqs5 4⟩, ⟨by rw [cell_of_blk hqm6]; rfl, by rw [cell_of_blk htop6]; rfl, cell_of_blk hqf6 0, cell_of_blk hqf6 1, cell_of_blk hqs6 3, cell_of_blk hqs6 4⟩⟩
theorem step_of_wp {P : Program} {ops : Array Oper} {o : Oper} {a : Act} {w : World} {K : Act → World → Prop} {Q : Exit → Act → World → Prop} {E : Prop} (hg : o.guard = none) (h : Oper.wp P o a w K Q) : if Region.wanted o (yielded ops a.tmps) = true then Oper.wp P o a w K Q else E := by
  rw [if_pos (by simp [Region.wanted, hg])]
  exact h
theorem zeroF' (w : World) : (zeroValue 43).run Tryd.prog w = .ok (.agg #[.slice none 0 0, .int .i64 0]) w := by kernel_rfl
set_option maxHeartbeats 4000000 in
set_option maxRecDepth 100000 in
theorem doSync (B B' nb a pw t N mp mb dO A8 B8 bits ns cs : Nat) (As : Option Addr) (C D : Nat → Prop) (l u room nn : Int) (F : Files) (bs : List UInt8) (kept : Nat) (w : World) (h : Both B w C D nb N a pw mp mb l u room F t) (hn : NamesLaid w B') (_hB' : B' ≤ w.heap.size) (_hd8 : dO < 256) (hA8 : A8 < 256) (hB8 : B8 < 256) (hnb : nb < 1000000) (_hN : N < 1000000) (hdo : dO % 8 = 3) (hF : F (nameAt A8) = some (bs, kept)) (hl : l < 0 ∨ u < l) :
    Calls Tryd.prog 7 #[.pointer (some ⟨mp, 0, none⟩), .pointer (some ⟨a, 0, none⟩), stepV dO A8 B8 (.slice As ns cs) nn bits] w (RetB w B C D (nb + 1) (N + 1) a pw mp mb l (u + 1) room) := by
  obtain ⟨na, nc, hn1, hn2, hn3⟩ := hn.at_
  have hnA := hn3 A8
  have hnB := hn3 B8
  obtain ⟨kA, hkA⟩ : ∃ kA, kA = nameAt A8 := ⟨_, rfl⟩
  obtain ⟨kB, hkB⟩ : ∃ kB, kB = nameAt B8 := ⟨_, rfl⟩
  obtain ⟨iA, hiA⟩ : ∃ iA, iA = A8 % 4 := ⟨_, rfl⟩
  obtain ⟨iB, hiB⟩ : ∃ iB, iB = B8 % 4 := ⟨_, rfl⟩
  rw [← hkA, ← hiA] at hnA
  rw [← hkB, ← hiB] at hnB
  have hA1 : (A8 : Int) % 4 = (iA : Int) := by omega
  have hA2 : (A8 : Int).tmod 4 = (iA : Int) := by rw [Int.tmod_eq_emod_of_nonneg (by omega)]; exact hA1
  have hA3 : IntKind.u8.wrap (iA : Int) = (iA : Int) := IntWalk.u8_in _ (by omega)
  have hB1 : (B8 : Int) % 4 = (iB : Int) := by omega
  have hB2 : (B8 : Int).tmod 4 = (iB : Int) := by rw [Int.tmod_eq_emod_of_nonneg (by omega)]; exact hB1
  have hB3 : IntKind.u8.wrap (iB : Int) = (iB : Int) := IntWalk.u8_in _ (by omega)
  have hiA4 : iA < 4 := by omega
  have hiB4 : iB < 4 := by omega
  have hO1 : (dO : Int) % 8 = 3 := by omega
  have hO2 : (dO : Int).tmod 8 = 3 := by rw [Int.tmod_eq_emod_of_nonneg (by omega)]; exact hO1
  have hO3 : IntKind.u8.wrap 3 = 3 := IntWalk.u8_in _ (by omega)
  clear hiA hiB hn3
  have HD := Lib.hid h.ds
  have HM := Lib.hid h.md
  have hcd := h.cd
  have hdp := h.dp
  have hdb := h.db
  have hF' : F kA = some (bs, kept) := by rw [hkA]; exact hF
  have HF := Lib.hid hF'
  have hkl : kA.length ≤ maxLen := by rw [hkA]; exact nameAt_len _
  have hkl2 : kB.length ≤ maxLen := by rw [hkB]; exact nameAt_len _
  have hBw := HD.out.size
  clear h hF hF' hkA hkB
  unfold stepV
  go_enter Tryd.func7, Tryd.ntmps7
  go_wp2_with (fail)
  have hb2 := ((Below.refl w.heap.size w).alloc (Nat.le_refl _) (.cells #[.pointer (some ⟨mp, 0, none⟩)] 26 (0, 0))).alloc (by rw [World.size_alloc]; omega) (.cells #[.int .u8 dO, .int .u8 A8, .int .u8 B8, .slice As ns cs, .int .i8 nn, .int .u64 bits] 34 (0, 0))
  have hs2 : ((w.alloc (.cells #[.pointer (some ⟨mp, 0, none⟩)] 26 (0, 0))).alloc (.cells #[.int .u8 dO, .int .u8 A8, .int .u8 B8, .slice As ns cs, .int .i8 nn, .int .u64 bits] 34 (0, 0))).heap.size = w.heap.size + 2 := by rw [World.size_alloc, World.size_alloc]
  have hq1 : ((w.alloc (.cells #[.pointer (some ⟨mp, 0, none⟩)] 26 (0, 0))).alloc (.cells #[.int .u8 dO, .int .u8 A8, .int .u8 B8, .slice As ns cs, .int .i8 nn, .int .u64 bits] 34 (0, 0))).heap[w.heap.size]? = some (.cells #[.pointer (some ⟨mp, 0, none⟩)] 26 (0, 0)) := heap_alloc_keep (heap_alloc_new _ _) _
  have hq2 : ((w.alloc (.cells #[.pointer (some ⟨mp, 0, none⟩)] 26 (0, 0))).alloc (.cells #[.int .u8 dO, .int .u8 A8, .int .u8 B8, .slice As ns cs, .int .i8 nn, .int .u64 bits] 34 (0, 0))).heap[w.heap.size + 1]? = some (.cells #[.int .u8 dO, .int .u8 A8, .int .u8 B8, .slice As ns cs, .int .i8 nn, .int .u64 bits] 34 (0, 0)) := by
    have := heap_alloc_new (w.alloc (.cells #[.pointer (some ⟨mp, 0, none⟩)] 26 (0, 0))) (.cells #[.int .u8 dO, .int .u8 A8, .int .u8 B8, .slice As ns cs, .int .i8 nn, .int .u64 bits] 34 (0, 0))
    rw [World.size_alloc] at this
    exact this
  generalize (w.alloc (.cells #[.pointer (some ⟨mp, 0, none⟩)] 26 (0, 0))).alloc (.cells #[.int .u8 dO, .int .u8 A8, .int .u8 B8, .slice As ns cs, .int .i8 nn, .int .u64 bits] 34 (0, 0)) = w2 at *
  obtain ⟨qm, hqm⟩ : ∃ qm, qm = w.heap.size := ⟨_, rfl⟩
  rw [← hqm] at hq1 hq2 ⊢
  obtain ⟨qs, hqs⟩ : ∃ qs, qs = qm + 1 := ⟨_, rfl⟩
  rw [← hqs] at hq2 ⊢
  have hqm1 : w.heap.size ≤ qm := by omega
  have hqm2 : qm < qs := by omega
  have hqs2 : qs < w2.heap.size := by omega
  clear hqm hqs hs2
  have HQ1 := Lib.hid hq1
  have HQ2 := Lib.hid hq2
  have m1 : w2.cell? ⟨qm, 0, none⟩ = some (.pointer (some ⟨mp, 0, none⟩)) := by rw [cell_of_blk hq1]; rfl
  have s0 : w2.cell? ⟨qs, 0, none⟩ = some (.int .u8 dO) := by rw [cell_of_blk hq2]; rfl
  have s1 : w2.cell? ⟨qs, 1, none⟩ = some (.int .u8 A8) := by rw [cell_of_blk hq2]; rfl
  have s2 : w2.cell? ⟨qs, 2, none⟩ = some (.int .u8 B8) := by rw [cell_of_blk hq2]; rfl
  have s3 : w2.cell? ⟨qs, 3, none⟩ = some (.slice As ns cs) := by rw [cell_of_blk hq2]; rfl
  have s4 : w2.cell? ⟨qs, 4, none⟩ = some (.int .i8 nn) := by rw [cell_of_blk hq2]; rfl
  have n0 : w2.cell? ⟨0, 0, none⟩ = some (.slice (some na) 4 nc) := cellk hb2 (by show 0 < w.heap.size; have := hn.lt; omega) hn1
  have n1 : w2.cell? (na.add iA) = some (txt kA) := cellk hb2 (by rw [block_of_add]; omega) hnA
  have n2 : w2.cell? (na.add iB) = some (txt kB) := cellk hb2 (by rw [block_of_add]; omega) hnB
  have i0 : (0 : Int) ≤ (iA : Int) := by omega
  have i1 : (iA : Int) < 4 := by omega
  have i2 : (0 : Int) ≤ (iB : Int) := by omega
  have i3 : (iB : Int) < 4 := by omega
  clear hq1 hq2 hnA hnB hn1 hn
  go_region_held3 (fun w' => w'.cell? ⟨qs, 1, none⟩ = some (.int .u8 A8) ∧ w'.cell? ⟨qs, 2, none⟩ = some (.int .u8 B8) ∧ w'.cell? ⟨0, 0, none⟩ = some (.slice (some na) 4 nc) ∧ w'.cell? (na.add iA) = some (txt kA) ∧ w'.cell? (na.add iB) = some (txt kB)) (first | exact ⟨s1, s2, n0, n1, n2⟩ | go_keep) (fail)
  clear s1 s2 n0 n1 n2 i0 i1 i2 i3
  obtain ⟨V, hm⟩ := HM.out
  have hm2 := hm.below hb2
  have HMap := Lib.hid hm2.map
  have hmt := hm2.lt
  have c0 : w2.cell? ⟨mp, 0, none⟩ = some (.map (some mb)) := hm2.c0
  obtain ⟨hrow, hown⟩ := hm2.file kA bs kept HF.out
  obtain ⟨Af, cf, hVf, hcf⟩ := hrow.form
  obtain ⟨nf, hnf⟩ : ∃ nf, nf = bs.length := ⟨_, rfl⟩
  rw [← hnf] at hVf hcf
  obtain ⟨kf, hkf⟩ : ∃ kf : Nat, kf = kept := ⟨_, rfl⟩
  have hr : ((F kA).map fun x => fileV (V kA) x.2) = some (.agg #[.slice Af nf cf, .int .i64 kf]) := by rw [HF.out, hkf]; simp [fileV, hVf]
  have HR := Lib.hid hr
  have HVF := Lib.hid hVf
  have HNF := Lib.hid hnf
  have HKF := Lib.hid hkf
  clear hr hVf hnf hkf hrow hown
  have HM2 := Lib.hid hm2
  clear hm hm2
  go_wp2_with (at_lookup; (refine wpList_look rfl _ _ 27 rfl 43 Tryd.underlying27 (zeroF' _) mb N _ rfl HMap.out kA rfl hkl _ HR.out ?_))
  have hba := ((Below.refl w2.heap.size w2).alloc (Nat.le_refl _) (.cells #[.slice Af nf cf, .int .i64 kf] 43 (0, 0))).drew
  have hqf := heap_alloc_new w2 (.cells #[.slice Af nf cf, .int .i64 kf] 43 (0, 0))
  have hsa := World.size_alloc w2 (.cells #[.slice Af nf cf, .int .i64 kf] 43 (0, 0))
  obtain ⟨qf, hqe⟩ : ∃ qf, qf = w2.heap.size := ⟨_, rfl⟩
  have hz2 := hb2.size
  have hltD := HD.out.lt
  have hltM : ∀ g, D g → g < w.heap.size := fun g hg => HM.out.lt hg
  have HB3 := Lib.hid (hb2.trans (hba.mono (by omega)))
  have HQ13 := Lib.hid ((hba.block _ (by omega)).trans HQ1.out)
  have HQ23 := Lib.hid ((hba.block _ (by omega)).trans HQ2.out)
  have HQ33 := Lib.hid (show ((w2.alloc (.cells #[.slice Af nf cf, .int .i64 kf] 43 (0, 0))).drew).heap[qf]? = some (.cells #[.slice Af nf cf, .int .i64 kf] 43 (0, 0)) by rw [hqe]; exact hqf)
  have HM3 := Lib.hid (HM2.out.below hba)
  have HD3 := Lib.hid ((HD.out.below hb2).below hba)
  have hs3 : ((w2.alloc (.cells #[.slice Af nf cf, .int .i64 kf] 43 (0, 0))).drew).heap.size = qf + 1 := by rw [hqe]; exact hsa
  rw [← hqe] at ⊢
  generalize (w2.alloc (.cells #[.slice Af nf cf, .int .i64 kf] 43 (0, 0))).drew = w3 at *
  have hqf1 : w.heap.size ≤ qf := by omega
  have hqsf : qs < qf := by omega
  have hnt : ∀ g, w.heap.size ≤ g → ¬ TouchD C pw g := fun g hg h => by have := hltD g h; omega
  have hnd : ∀ g, D g → ¬ TouchD C pw g := fun g hg h => by
    rcases h with h | h
    · exact hcd g h hg
    · exact hdp (h ▸ hg)
  have hqd : ∀ g, w.heap.size ≤ g → ¬ D g := fun g hg h => by have := hltM g h; omega
  have HNT := Lib.hid hnt
  have HND := Lib.hid hnd
  have HQD := Lib.hid hqd
  clear hba hqf hsa hqe HQ1 HQ2 HMap HM2 m1 s0 s3 s4 c0 hnt hnd hqd hmt HR
  refine (dsSync B C nb a pw t l u room F kA bs kept w3 HD3.out hnb hl hkl HF.out).mono ?_
  rintro e w4 ⟨rfl, C4, hd4, hc4, hm4, _⟩
  have hz4 := hm4.size
  have HQ14 := Lib.hid (hm4.blk HQ13.out (HNT.out _ (by omega)))
  have HQ24 := Lib.hid (hm4.blk HQ23.out (HNT.out _ (by omega)))
  have HQ34 := Lib.hid (hm4.blk HQ33.out (HNT.out _ (by omega)))
  have HM4 := Lib.hid (HM3.out.mod hm4 HND.out)
  have HMO := Lib.hid ((Mod.of_below (F := TouchD C pw) HB3.out).trans hm4 (fun _ _ h => h))
  have HD4 := Lib.hid hd4
  have HCQ := Lib.hid (show ¬ C4 qf from fun h => by
    rcases hc4 qf h with h | h
    · exact HNT.out qf hqf1 (.inl h)
    · omega)
  have HC4 := Lib.hid (show ∀ g, C4 g → C g ∨ w.heap.size ≤ g from fun g hg => by
    rcases hc4 g hg with h | h
    · exact .inl h
    · exact .inr (by omega))
  clear hm4 hd4 hc4 HQ13 HQ23 HQ33 HM3 HD3
  have HMap4 := Lib.hid HM4.out.map
  have m4 : w4.cell? ⟨qm, 0, none⟩ = some (.pointer (some ⟨mp, 0, none⟩)) := by rw [cell_of_blk HQ14.out]; rfl
  have c4 : w4.cell? ⟨mp, 0, none⟩ = some (.map (some mb)) := HM4.out.c0
  have f0 : w4.cell? ⟨qf, 0, none⟩ = some (.slice Af nf cf) := by rw [cell_of_blk HQ34.out]; rfl
  have f1 : w4.cell? ⟨qf, 1, none⟩ = some (.int .i64 kf) := by rw [cell_of_blk HQ34.out]; rfl
  have g1 : w4.frozen? ⟨qf, 1, none⟩ = false := frozen_of_blk HQ34.out 1
  have hdl4 := HM4.out.lt
  have hmq : mb ≠ qf := fun e => HQD.out qf hqf1 (e ▸ HM4.out.db)
  go_wp2_with (fail)
  have hm5 : Mod (fun g => g = qf) w4 (w4.setCell ⟨qf, 1, none⟩ (.int .i64 nf)) := Mod.setCell (F := fun g => g = qf) (Mod.refl _ w4) (fun _ => rfl) _
  have HQ15 := Lib.hid (hm5.blk HQ14.out (by omega))
  have HQ25 := Lib.hid (hm5.blk HQ24.out (by omega))
  have HQ35 := Lib.hid (show (w4.setCell ⟨qf, 1, none⟩ (.int .i64 nf)).heap[qf]? = some (.cells #[.slice Af nf cf, .int .i64 nf] 43 (0, 0)) from blk_set HQ34.out 1 _)
  have HM5 := Lib.hid (HM4.out.mod hm5 (fun g hg e => HQD.out qf hqf1 (e ▸ hg)))
  have hz5 := hm5.size
  have HM45 := Lib.hid hm5
  clear HQ14 HQ24 HQ34 m4 c4 f0 f1 g1 hm5 HMap4
  generalize w4.setCell ⟨qf, 1, none⟩ (.int .i64 nf) = w5 at *
  have m5 : w5.cell? ⟨qm, 0, none⟩ = some (.pointer (some ⟨mp, 0, none⟩)) := by rw [cell_of_blk HQ15.out]; rfl
  have c5 : w5.cell? ⟨mp, 0, none⟩ = some (.map (some mb)) := HM5.out.c0
  have f05 : w5.cell? ⟨qf, 0, none⟩ = some (.slice Af nf cf) := by rw [cell_of_blk HQ35.out]; rfl
  have f15 : w5.cell? ⟨qf, 1, none⟩ = some (.int .i64 nf) := by rw [cell_of_blk HQ35.out]; rfl
  obtain ⟨w6, hrun6, hm6, hg6, hz6⟩ := MapAt.store (w := w5.drew) HM5.out.map (t := 27) (e := 43) Tryd.underlying27 (by unfold maxLen; omega) hkl (.agg #[.slice Af nf cf, .int .i64 nf])
  obtain ⟨hk1, _⟩ := HM5.out.kinds
  have hmbd := HM5.out.db
  have hmpd := HM5.out.dm
  have hml5 := HM5.out.lt
  have hgb6 : w5.grownBy w6 (some mb) := ⟨hg6.os, hg6.tape, hg6.output, hg6.size, hg6.block⟩
  have hl5 : ∀ g, D g → g < w.heap.size := hltM
  have hmm1 := hl5 mb hmbd
  have hmm2 := hl5 mp hmpd
  have m6 : w6.cell? ⟨qm, 0, none⟩ = some (.pointer (some ⟨mp, 0, none⟩)) := (hgb6.cell_far ⟨qm, 0, none⟩ (lt_of_heap HQ15.out) (fun e => by injection e with e; have e : qm = mb := e; omega)).trans m5
  have c6 : w6.cell? ⟨mp, 0, none⟩ = some (.map (some mb)) := (hgb6.cell_far ⟨mp, 0, none⟩ (hml5 mp hmpd) (fun e => by injection e with e; exact hk1 e)).trans c5
  have f06 : w6.cell? ⟨qf, 0, none⟩ = some (.slice Af nf cf) := (hgb6.cell_far ⟨qf, 0, none⟩ (lt_of_heap HQ35.out) (fun e => by injection e with e; have e : qf = mb := e; omega)).trans f05
  have f16 : w6.cell? ⟨qf, 1, none⟩ = some (.int .i64 nf) := (hgb6.cell_far ⟨qf, 1, none⟩ (lt_of_heap HQ35.out) (fun e => by injection e with e; have e : qf = mb := e; omega)).trans f15
  go_region_held3 (fun w' => w'.cell? ⟨qm, 0, none⟩ = some (.pointer (some ⟨mp, 0, none⟩)) ∧ w'.cell? ⟨mp, 0, none⟩ = some (.map (some mb)) ∧ w'.cell? ⟨qf, 0, none⟩ = some (.slice Af nf cf) ∧ w'.cell? ⟨qf, 1, none⟩ = some (.int .i64 nf)) (first | exact ⟨m6, c6, f06, f16⟩ | exact ⟨m5, c5, f05, f15⟩ | go_keep) (fail)
  go_wp2_with (fail)
  go_ret
  obtain ⟨hrow5, _⟩ := HM5.out.file kA bs kept HF.out
  rw [HVF.out] at hrow5
  have hm7 := HM5.out.put (k := kA) (bs := bs) (kept := nf) (v := .slice Af nf cf) hrow5 (fun g hg => hrow5.lt hg) hm6 hgb6
  have hn := HNF.out
  refine retB_of (E := fun g => g = qf) (by rw [← hn] at HD4; exact HD4.out) ⟨_, hm7⟩ HC4.out (fun g hg => ?_) HMO.out ((HM45.out.mono fun _ _ e => .inr e).trans ((Mod.refl (fun g => g = mb) w5).grown hgb6 (fun g hg _ => by injection hg with hg; exact hg.symm)) fun g _ e => .inl (by rw [e]; exact hmbd)) (fun g hg => ⟨by rw [hg]; exact hqf1, by rw [hg]; exact HCQ.out⟩) (hltD pw (.inr rfl)) hcd hdp hdb hltM hBw
  rcases hg with h | h
  · exact .inl h
  · have := hrow5.lt h
    exact .inl ((HM5.out.file kA bs kept HF.out).2 g (by rw [HVF.out]; exact h))
set_option maxHeartbeats 4000000 in
set_option maxRecDepth 100000 in
theorem doSyncN (B B' nb a pw t N mp mb dO A8 B8 bits ns cs : Nat) (As : Option Addr) (C D : Nat → Prop) (l u room nn : Int) (F : Files) (w : World) (h : Both B w C D nb N a pw mp mb l u room F t) (hn : NamesLaid w B') (_hB' : B' ≤ w.heap.size) (_hd8 : dO < 256) (hA8 : A8 < 256) (hB8 : B8 < 256) (hnb : nb < 1000000) (_hN : N < 1000000) (hdo : dO % 8 = 3) (hF : F (nameAt A8) = none)  :
    Calls Tryd.prog 7 #[.pointer (some ⟨mp, 0, none⟩), .pointer (some ⟨a, 0, none⟩), stepV dO A8 B8 (.slice As ns cs) nn bits] w (RetB w B C D (nb + 1) (N + 1) a pw mp mb l u room) := by
  obtain ⟨na, nc, hn1, hn2, hn3⟩ := hn.at_
  have hnA := hn3 A8
  have hnB := hn3 B8
  obtain ⟨kA, hkA⟩ : ∃ kA, kA = nameAt A8 := ⟨_, rfl⟩
  obtain ⟨kB, hkB⟩ : ∃ kB, kB = nameAt B8 := ⟨_, rfl⟩
  obtain ⟨iA, hiA⟩ : ∃ iA, iA = A8 % 4 := ⟨_, rfl⟩
  obtain ⟨iB, hiB⟩ : ∃ iB, iB = B8 % 4 := ⟨_, rfl⟩
  rw [← hkA, ← hiA] at hnA
  rw [← hkB, ← hiB] at hnB
  have hA1 : (A8 : Int) % 4 = (iA : Int) := by omega
  have hA2 : (A8 : Int).tmod 4 = (iA : Int) := by rw [Int.tmod_eq_emod_of_nonneg (by omega)]; exact hA1
  have hA3 : IntKind.u8.wrap (iA : Int) = (iA : Int) := IntWalk.u8_in _ (by omega)
  have hB1 : (B8 : Int) % 4 = (iB : Int) := by omega
  have hB2 : (B8 : Int).tmod 4 = (iB : Int) := by rw [Int.tmod_eq_emod_of_nonneg (by omega)]; exact hB1
  have hB3 : IntKind.u8.wrap (iB : Int) = (iB : Int) := IntWalk.u8_in _ (by omega)
  have hiA4 : iA < 4 := by omega
  have hiB4 : iB < 4 := by omega
  have hO1 : (dO : Int) % 8 = 3 := by omega
  have hO2 : (dO : Int).tmod 8 = 3 := by rw [Int.tmod_eq_emod_of_nonneg (by omega)]; exact hO1
  have hO3 : IntKind.u8.wrap 3 = 3 := IntWalk.u8_in _ (by omega)
  clear hiA hiB hn3
  have HD := Lib.hid h.ds
  have HM := Lib.hid h.md
  have hcd := h.cd
  have hdp := h.dp
  have hdb := h.db
  have hF' : F kA = none := by rw [hkA]; exact hF
  have HF := Lib.hid hF'
  have hkl : kA.length ≤ maxLen := by rw [hkA]; exact nameAt_len _
  have hkl2 : kB.length ≤ maxLen := by rw [hkB]; exact nameAt_len _
  have hBw := HD.out.size
  clear h hF hF' hkA hkB
  unfold stepV
  go_enter Tryd.func7, Tryd.ntmps7
  go_wp2_with (fail)
  have hb2 := ((Below.refl w.heap.size w).alloc (Nat.le_refl _) (.cells #[.pointer (some ⟨mp, 0, none⟩)] 26 (0, 0))).alloc (by rw [World.size_alloc]; omega) (.cells #[.int .u8 dO, .int .u8 A8, .int .u8 B8, .slice As ns cs, .int .i8 nn, .int .u64 bits] 34 (0, 0))
  have hs2 : ((w.alloc (.cells #[.pointer (some ⟨mp, 0, none⟩)] 26 (0, 0))).alloc (.cells #[.int .u8 dO, .int .u8 A8, .int .u8 B8, .slice As ns cs, .int .i8 nn, .int .u64 bits] 34 (0, 0))).heap.size = w.heap.size + 2 := by rw [World.size_alloc, World.size_alloc]
  have hq1 : ((w.alloc (.cells #[.pointer (some ⟨mp, 0, none⟩)] 26 (0, 0))).alloc (.cells #[.int .u8 dO, .int .u8 A8, .int .u8 B8, .slice As ns cs, .int .i8 nn, .int .u64 bits] 34 (0, 0))).heap[w.heap.size]? = some (.cells #[.pointer (some ⟨mp, 0, none⟩)] 26 (0, 0)) := heap_alloc_keep (heap_alloc_new _ _) _
  have hq2 : ((w.alloc (.cells #[.pointer (some ⟨mp, 0, none⟩)] 26 (0, 0))).alloc (.cells #[.int .u8 dO, .int .u8 A8, .int .u8 B8, .slice As ns cs, .int .i8 nn, .int .u64 bits] 34 (0, 0))).heap[w.heap.size + 1]? = some (.cells #[.int .u8 dO, .int .u8 A8, .int .u8 B8, .slice As ns cs, .int .i8 nn, .int .u64 bits] 34 (0, 0)) := by
    have := heap_alloc_new (w.alloc (.cells #[.pointer (some ⟨mp, 0, none⟩)] 26 (0, 0))) (.cells #[.int .u8 dO, .int .u8 A8, .int .u8 B8, .slice As ns cs, .int .i8 nn, .int .u64 bits] 34 (0, 0))
    rw [World.size_alloc] at this
    exact this
  generalize (w.alloc (.cells #[.pointer (some ⟨mp, 0, none⟩)] 26 (0, 0))).alloc (.cells #[.int .u8 dO, .int .u8 A8, .int .u8 B8, .slice As ns cs, .int .i8 nn, .int .u64 bits] 34 (0, 0)) = w2 at *
  obtain ⟨qm, hqm⟩ : ∃ qm, qm = w.heap.size := ⟨_, rfl⟩
  rw [← hqm] at hq1 hq2 ⊢
  obtain ⟨qs, hqs⟩ : ∃ qs, qs = qm + 1 := ⟨_, rfl⟩
  rw [← hqs] at hq2 ⊢
  have hqm1 : w.heap.size ≤ qm := by omega
  have hqm2 : qm < qs := by omega
  have hqs2 : qs < w2.heap.size := by omega
  clear hqm hqs hs2
  have HQ1 := Lib.hid hq1
  have HQ2 := Lib.hid hq2
  have m1 : w2.cell? ⟨qm, 0, none⟩ = some (.pointer (some ⟨mp, 0, none⟩)) := by rw [cell_of_blk hq1]; rfl
  have s0 : w2.cell? ⟨qs, 0, none⟩ = some (.int .u8 dO) := by rw [cell_of_blk hq2]; rfl
  have s1 : w2.cell? ⟨qs, 1, none⟩ = some (.int .u8 A8) := by rw [cell_of_blk hq2]; rfl
  have s2 : w2.cell? ⟨qs, 2, none⟩ = some (.int .u8 B8) := by rw [cell_of_blk hq2]; rfl
  have s3 : w2.cell? ⟨qs, 3, none⟩ = some (.slice As ns cs) := by rw [cell_of_blk hq2]; rfl
  have s4 : w2.cell? ⟨qs, 4, none⟩ = some (.int .i8 nn) := by rw [cell_of_blk hq2]; rfl
  have n0 : w2.cell? ⟨0, 0, none⟩ = some (.slice (some na) 4 nc) := cellk hb2 (by show 0 < w.heap.size; have := hn.lt; omega) hn1
  have n1 : w2.cell? (na.add iA) = some (txt kA) := cellk hb2 (by rw [block_of_add]; omega) hnA
  have n2 : w2.cell? (na.add iB) = some (txt kB) := cellk hb2 (by rw [block_of_add]; omega) hnB
  have i0 : (0 : Int) ≤ (iA : Int) := by omega
  have i1 : (iA : Int) < 4 := by omega
  have i2 : (0 : Int) ≤ (iB : Int) := by omega
  have i3 : (iB : Int) < 4 := by omega
  clear hq1 hq2 hnA hnB hn1 hn
  go_region_held3 (fun w' => w'.cell? ⟨qs, 1, none⟩ = some (.int .u8 A8) ∧ w'.cell? ⟨qs, 2, none⟩ = some (.int .u8 B8) ∧ w'.cell? ⟨0, 0, none⟩ = some (.slice (some na) 4 nc) ∧ w'.cell? (na.add iA) = some (txt kA) ∧ w'.cell? (na.add iB) = some (txt kB)) (first | exact ⟨s1, s2, n0, n1, n2⟩ | go_keep) (fail)
  clear s1 s2 n0 n1 n2 i0 i1 i2 i3
  obtain ⟨V, hm⟩ := HM.out
  have hm2 := hm.below hb2
  have HMap := Lib.hid hm2.map
  have hmt := hm2.lt
  have c0 : w2.cell? ⟨mp, 0, none⟩ = some (.map (some mb)) := hm2.c0
  have HR := Lib.hid (show ((F kA).map fun x => fileV (V kA) x.2) = none by rw [HF.out]; rfl)
  have HM2 := Lib.hid hm2
  clear hm hm2
  go_wp2_with (at_lookup; (refine wpList_look rfl _ _ 27 rfl 43 Tryd.underlying27 (zeroF' _) mb N _ rfl HMap.out kA rfl hkl _ HR.out ?_))
  have hba := ((Below.refl w2.heap.size w2).alloc (Nat.le_refl _) (.cells #[.slice none 0 0, .int .i64 0] 43 (0, 0))).drew
  have hqf := heap_alloc_new w2 (.cells #[.slice none 0 0, .int .i64 0] 43 (0, 0))
  have hsa := World.size_alloc w2 (.cells #[.slice none 0 0, .int .i64 0] 43 (0, 0))
  obtain ⟨qf, hqe⟩ : ∃ qf, qf = w2.heap.size := ⟨_, rfl⟩
  have hz2 := hb2.size
  have hltD := HD.out.lt
  have hltM : ∀ g, D g → g < w.heap.size := fun g hg => HM.out.lt hg
  have HB3 := Lib.hid (hb2.trans (hba.mono (by omega)))
  have HQ13 := Lib.hid ((hba.block _ (by omega)).trans HQ1.out)
  have HQ23 := Lib.hid ((hba.block _ (by omega)).trans HQ2.out)
  have HQ33 := Lib.hid (show ((w2.alloc (.cells #[.slice none 0 0, .int .i64 0] 43 (0, 0))).drew).heap[qf]? = some (.cells #[.slice none 0 0, .int .i64 0] 43 (0, 0)) by rw [hqe]; exact hqf)
  have HM3 := Lib.hid (HM2.out.below hba)
  have HD3 := Lib.hid ((HD.out.below hb2).below hba)
  have hs3 : ((w2.alloc (.cells #[.slice none 0 0, .int .i64 0] 43 (0, 0))).drew).heap.size = qf + 1 := by rw [hqe]; exact hsa
  rw [← hqe] at ⊢
  generalize (w2.alloc (.cells #[.slice none 0 0, .int .i64 0] 43 (0, 0))).drew = w3 at *
  have hqf1 : w.heap.size ≤ qf := by omega
  have hqsf : qs < qf := by omega
  have hnt : ∀ g, w.heap.size ≤ g → ¬ TouchD C pw g := fun g hg h => by have := hltD g h; omega
  have hnd : ∀ g, D g → ¬ TouchD C pw g := fun g hg h => by
    rcases h with h | h
    · exact hcd g h hg
    · exact hdp (h ▸ hg)
  have hqd : ∀ g, w.heap.size ≤ g → ¬ D g := fun g hg h => by have := hltM g h; omega
  have HNT := Lib.hid hnt
  have HND := Lib.hid hnd
  have HQD := Lib.hid hqd
  clear hba hqf hsa hqe HQ1 HQ2 HMap HM2 m1 s0 s3 s4 c0 hnt hnd hqd hmt HR
  obtain ⟨Nd, _, hdk⟩ := HD3.out.disk
  refine (syncNone C Nd a pw room F kA w3 hdk hkl HF.out).mono ?_
  rintro e w4 ⟨rfl, rfl⟩
  have HBE := Lib.hid (Below.refl w4.heap.size w4)
  clear hdk
  go_wp2_with (fail)
  go_ret
  exact retB_same (t := t) ⟨HD.out.below HB3.out, HM.out.below HB3.out, hcd, hdp, hdb⟩ hnb HB3.out
set_option maxHeartbeats 4000000 in
set_option maxRecDepth 100000 in
theorem doMoveN (B B' nb a pw t N mp mb dO A8 B8 bits ns cs : Nat) (As : Option Addr) (C D : Nat → Prop) (l u room nn : Int) (F : Files) (w : World) (h : Both B w C D nb N a pw mp mb l u room F t) (hn : NamesLaid w B') (_hB' : B' ≤ w.heap.size) (_hd8 : dO < 256) (hA8 : A8 < 256) (hB8 : B8 < 256) (hnb : nb < 1000000) (_hN : N < 1000000) (hdo : dO % 8 = 4) (hF : F (nameAt A8) = none)  :
    Calls Tryd.prog 7 #[.pointer (some ⟨mp, 0, none⟩), .pointer (some ⟨a, 0, none⟩), stepV dO A8 B8 (.slice As ns cs) nn bits] w (RetB w B C D (nb + 1) (N + 1) a pw mp mb l u room) := by
  obtain ⟨na, nc, hn1, hn2, hn3⟩ := hn.at_
  have hnA := hn3 A8
  have hnB := hn3 B8
  obtain ⟨kA, hkA⟩ : ∃ kA, kA = nameAt A8 := ⟨_, rfl⟩
  obtain ⟨kB, hkB⟩ : ∃ kB, kB = nameAt B8 := ⟨_, rfl⟩
  obtain ⟨iA, hiA⟩ : ∃ iA, iA = A8 % 4 := ⟨_, rfl⟩
  obtain ⟨iB, hiB⟩ : ∃ iB, iB = B8 % 4 := ⟨_, rfl⟩
  rw [← hkA, ← hiA] at hnA
  rw [← hkB, ← hiB] at hnB
  have hA1 : (A8 : Int) % 4 = (iA : Int) := by omega
  have hA2 : (A8 : Int).tmod 4 = (iA : Int) := by rw [Int.tmod_eq_emod_of_nonneg (by omega)]; exact hA1
  have hA3 : IntKind.u8.wrap (iA : Int) = (iA : Int) := IntWalk.u8_in _ (by omega)
  have hB1 : (B8 : Int) % 4 = (iB : Int) := by omega
  have hB2 : (B8 : Int).tmod 4 = (iB : Int) := by rw [Int.tmod_eq_emod_of_nonneg (by omega)]; exact hB1
  have hB3 : IntKind.u8.wrap (iB : Int) = (iB : Int) := IntWalk.u8_in _ (by omega)
  have hiA4 : iA < 4 := by omega
  have hiB4 : iB < 4 := by omega
  have hO1 : (dO : Int) % 8 = 4 := by omega
  have hO2 : (dO : Int).tmod 8 = 4 := by rw [Int.tmod_eq_emod_of_nonneg (by omega)]; exact hO1
  have hO3 : IntKind.u8.wrap 4 = 4 := IntWalk.u8_in _ (by omega)
  clear hiA hiB hn3
  have HD := Lib.hid h.ds
  have HM := Lib.hid h.md
  have hcd := h.cd
  have hdp := h.dp
  have hdb := h.db
  have hF' : F kA = none := by rw [hkA]; exact hF
  have HF := Lib.hid hF'
  have hkl : kA.length ≤ maxLen := by rw [hkA]; exact nameAt_len _
  have hkl2 : kB.length ≤ maxLen := by rw [hkB]; exact nameAt_len _
  have hBw := HD.out.size
  clear h hF hF' hkA hkB
  unfold stepV
  go_enter Tryd.func7, Tryd.ntmps7
  go_wp2_with (fail)
  have hb2 := ((Below.refl w.heap.size w).alloc (Nat.le_refl _) (.cells #[.pointer (some ⟨mp, 0, none⟩)] 26 (0, 0))).alloc (by rw [World.size_alloc]; omega) (.cells #[.int .u8 dO, .int .u8 A8, .int .u8 B8, .slice As ns cs, .int .i8 nn, .int .u64 bits] 34 (0, 0))
  have hs2 : ((w.alloc (.cells #[.pointer (some ⟨mp, 0, none⟩)] 26 (0, 0))).alloc (.cells #[.int .u8 dO, .int .u8 A8, .int .u8 B8, .slice As ns cs, .int .i8 nn, .int .u64 bits] 34 (0, 0))).heap.size = w.heap.size + 2 := by rw [World.size_alloc, World.size_alloc]
  have hq1 : ((w.alloc (.cells #[.pointer (some ⟨mp, 0, none⟩)] 26 (0, 0))).alloc (.cells #[.int .u8 dO, .int .u8 A8, .int .u8 B8, .slice As ns cs, .int .i8 nn, .int .u64 bits] 34 (0, 0))).heap[w.heap.size]? = some (.cells #[.pointer (some ⟨mp, 0, none⟩)] 26 (0, 0)) := heap_alloc_keep (heap_alloc_new _ _) _
  have hq2 : ((w.alloc (.cells #[.pointer (some ⟨mp, 0, none⟩)] 26 (0, 0))).alloc (.cells #[.int .u8 dO, .int .u8 A8, .int .u8 B8, .slice As ns cs, .int .i8 nn, .int .u64 bits] 34 (0, 0))).heap[w.heap.size + 1]? = some (.cells #[.int .u8 dO, .int .u8 A8, .int .u8 B8, .slice As ns cs, .int .i8 nn, .int .u64 bits] 34 (0, 0)) := by
    have := heap_alloc_new (w.alloc (.cells #[.pointer (some ⟨mp, 0, none⟩)] 26 (0, 0))) (.cells #[.int .u8 dO, .int .u8 A8, .int .u8 B8, .slice As ns cs, .int .i8 nn, .int .u64 bits] 34 (0, 0))
    rw [World.size_alloc] at this
    exact this
  generalize (w.alloc (.cells #[.pointer (some ⟨mp, 0, none⟩)] 26 (0, 0))).alloc (.cells #[.int .u8 dO, .int .u8 A8, .int .u8 B8, .slice As ns cs, .int .i8 nn, .int .u64 bits] 34 (0, 0)) = w2 at *
  obtain ⟨qm, hqm⟩ : ∃ qm, qm = w.heap.size := ⟨_, rfl⟩
  rw [← hqm] at hq1 hq2 ⊢
  obtain ⟨qs, hqs⟩ : ∃ qs, qs = qm + 1 := ⟨_, rfl⟩
  rw [← hqs] at hq2 ⊢
  have hqm1 : w.heap.size ≤ qm := by omega
  have hqm2 : qm < qs := by omega
  have hqs2 : qs < w2.heap.size := by omega
  clear hqm hqs hs2
  have HQ1 := Lib.hid hq1
  have HQ2 := Lib.hid hq2
  have m1 : w2.cell? ⟨qm, 0, none⟩ = some (.pointer (some ⟨mp, 0, none⟩)) := by rw [cell_of_blk hq1]; rfl
  have s0 : w2.cell? ⟨qs, 0, none⟩ = some (.int .u8 dO) := by rw [cell_of_blk hq2]; rfl
  have s1 : w2.cell? ⟨qs, 1, none⟩ = some (.int .u8 A8) := by rw [cell_of_blk hq2]; rfl
  have s2 : w2.cell? ⟨qs, 2, none⟩ = some (.int .u8 B8) := by rw [cell_of_blk hq2]; rfl
  have s3 : w2.cell? ⟨qs, 3, none⟩ = some (.slice As ns cs) := by rw [cell_of_blk hq2]; rfl
  have s4 : w2.cell? ⟨qs, 4, none⟩ = some (.int .i8 nn) := by rw [cell_of_blk hq2]; rfl
  have n0 : w2.cell? ⟨0, 0, none⟩ = some (.slice (some na) 4 nc) := cellk hb2 (by show 0 < w.heap.size; have := hn.lt; omega) hn1
  have n1 : w2.cell? (na.add iA) = some (txt kA) := cellk hb2 (by rw [block_of_add]; omega) hnA
  have n2 : w2.cell? (na.add iB) = some (txt kB) := cellk hb2 (by rw [block_of_add]; omega) hnB
  have i0 : (0 : Int) ≤ (iA : Int) := by omega
  have i1 : (iA : Int) < 4 := by omega
  have i2 : (0 : Int) ≤ (iB : Int) := by omega
  have i3 : (iB : Int) < 4 := by omega
  clear hq1 hq2 hnA hnB hn1 hn
  go_region_held3 (fun w' => w'.cell? ⟨qs, 1, none⟩ = some (.int .u8 A8) ∧ w'.cell? ⟨qs, 2, none⟩ = some (.int .u8 B8) ∧ w'.cell? ⟨0, 0, none⟩ = some (.slice (some na) 4 nc) ∧ w'.cell? (na.add iA) = some (txt kA) ∧ w'.cell? (na.add iB) = some (txt kB)) (first | exact ⟨s1, s2, n0, n1, n2⟩ | go_keep) (fail)
  clear s1 s2 n0 n1 n2 i0 i1 i2 i3
  obtain ⟨V, hm⟩ := HM.out
  have hm2 := hm.below hb2
  have HMap := Lib.hid hm2.map
  have hmt := hm2.lt
  have c0 : w2.cell? ⟨mp, 0, none⟩ = some (.map (some mb)) := hm2.c0
  have HR := Lib.hid (show ((F kA).map fun x => fileV (V kA) x.2) = none by rw [HF.out]; rfl)
  have HM2 := Lib.hid hm2
  clear hm hm2
  go_wp2_with (at_lookup; (refine wpList_look rfl _ _ 27 rfl 43 Tryd.underlying27 (zeroF' _) mb N _ rfl HMap.out kA rfl hkl _ HR.out ?_))
  have hba := ((Below.refl w2.heap.size w2).alloc (Nat.le_refl _) (.cells #[.slice none 0 0, .int .i64 0] 43 (0, 0))).drew
  have hqf := heap_alloc_new w2 (.cells #[.slice none 0 0, .int .i64 0] 43 (0, 0))
  have hsa := World.size_alloc w2 (.cells #[.slice none 0 0, .int .i64 0] 43 (0, 0))
  obtain ⟨qf, hqe⟩ : ∃ qf, qf = w2.heap.size := ⟨_, rfl⟩
  have hz2 := hb2.size
  have hltD := HD.out.lt
  have hltM : ∀ g, D g → g < w.heap.size := fun g hg => HM.out.lt hg
  have HB3 := Lib.hid (hb2.trans (hba.mono (by omega)))
  have HQ13 := Lib.hid ((hba.block _ (by omega)).trans HQ1.out)
  have HQ23 := Lib.hid ((hba.block _ (by omega)).trans HQ2.out)
  have HQ33 := Lib.hid (show ((w2.alloc (.cells #[.slice none 0 0, .int .i64 0] 43 (0, 0))).drew).heap[qf]? = some (.cells #[.slice none 0 0, .int .i64 0] 43 (0, 0)) by rw [hqe]; exact hqf)
  have HM3 := Lib.hid (HM2.out.below hba)
  have HD3 := Lib.hid ((HD.out.below hb2).below hba)
  have hs3 : ((w2.alloc (.cells #[.slice none 0 0, .int .i64 0] 43 (0, 0))).drew).heap.size = qf + 1 := by rw [hqe]; exact hsa
  rw [← hqe] at ⊢
  generalize (w2.alloc (.cells #[.slice none 0 0, .int .i64 0] 43 (0, 0))).drew = w3 at *
  have hqf1 : w.heap.size ≤ qf := by omega
  have hqsf : qs < qf := by omega
  have hnt : ∀ g, w.heap.size ≤ g → ¬ TouchD C pw g := fun g hg h => by have := hltD g h; omega
  have hnd : ∀ g, D g → ¬ TouchD C pw g := fun g hg h => by
    rcases h with h | h
    · exact hcd g h hg
    · exact hdp (h ▸ hg)
  have hqd : ∀ g, w.heap.size ≤ g → ¬ D g := fun g hg h => by have := hltM g h; omega
  have HNT := Lib.hid hnt
  have HND := Lib.hid hnd
  have HQD := Lib.hid hqd
  clear hba hqf hsa hqe HQ1 HQ2 HMap HM2 m1 s0 s3 s4 c0 hnt hnd hqd hmt HR
  obtain ⟨Nd, _, hdk⟩ := HD3.out.disk
  refine (moveNone C Nd a pw room F kA kB w3 hdk hkl HF.out).mono ?_
  rintro e w4 ⟨rfl, rfl⟩
  have HBE := Lib.hid (Below.refl w4.heap.size w4)
  clear hdk
  go_wp2_with (fail)
  go_ret
  exact retB_same (t := t) ⟨HD.out.below HB3.out, HM.out.below HB3.out, hcd, hdp, hdb⟩ hnb HB3.out
set_option maxHeartbeats 4000000 in
set_option maxRecDepth 100000 in
theorem doMove (B B' nb a pw t N mp mb dO A8 B8 bits ns cs : Nat) (As : Option Addr) (C D : Nat → Prop) (l u room nn : Int) (F : Files) (bs : List UInt8) (kept : Nat) (w : World) (h : Both B w C D nb N a pw mp mb l u room F t) (hn : NamesLaid w B') (_hB' : B' ≤ w.heap.size) (_hd8 : dO < 256) (hA8 : A8 < 256) (hB8 : B8 < 256) (hnb : nb < 1000000) (_hN : N < 1000000) (hdo : dO % 8 = 4) (hF : F (nameAt A8) = some (bs, kept)) (hl : l < 0 ∨ u < l) :
    Calls Tryd.prog 7 #[.pointer (some ⟨mp, 0, none⟩), .pointer (some ⟨a, 0, none⟩), stepV dO A8 B8 (.slice As ns cs) nn bits] w (RetB w B C D (nb + 1) (N + 1) a pw mp mb l (u + 1) room) := by
  obtain ⟨na, nc, hn1, hn2, hn3⟩ := hn.at_
  have hnA := hn3 A8
  have hnB := hn3 B8
  obtain ⟨kA, hkA⟩ : ∃ kA, kA = nameAt A8 := ⟨_, rfl⟩
  obtain ⟨kB, hkB⟩ : ∃ kB, kB = nameAt B8 := ⟨_, rfl⟩
  obtain ⟨iA, hiA⟩ : ∃ iA, iA = A8 % 4 := ⟨_, rfl⟩
  obtain ⟨iB, hiB⟩ : ∃ iB, iB = B8 % 4 := ⟨_, rfl⟩
  rw [← hkA, ← hiA] at hnA
  rw [← hkB, ← hiB] at hnB
  have hA1 : (A8 : Int) % 4 = (iA : Int) := by omega
  have hA2 : (A8 : Int).tmod 4 = (iA : Int) := by rw [Int.tmod_eq_emod_of_nonneg (by omega)]; exact hA1
  have hA3 : IntKind.u8.wrap (iA : Int) = (iA : Int) := IntWalk.u8_in _ (by omega)
  have hB1 : (B8 : Int) % 4 = (iB : Int) := by omega
  have hB2 : (B8 : Int).tmod 4 = (iB : Int) := by rw [Int.tmod_eq_emod_of_nonneg (by omega)]; exact hB1
  have hB3 : IntKind.u8.wrap (iB : Int) = (iB : Int) := IntWalk.u8_in _ (by omega)
  have hiA4 : iA < 4 := by omega
  have hiB4 : iB < 4 := by omega
  have hO1 : (dO : Int) % 8 = 4 := by omega
  have hO2 : (dO : Int).tmod 8 = 4 := by rw [Int.tmod_eq_emod_of_nonneg (by omega)]; exact hO1
  have hO3 : IntKind.u8.wrap 4 = 4 := IntWalk.u8_in _ (by omega)
  clear hiA hiB hn3
  have HD := Lib.hid h.ds
  have HM := Lib.hid h.md
  have hcd := h.cd
  have hdp := h.dp
  have hdb := h.db
  have hF' : F kA = some (bs, kept) := by rw [hkA]; exact hF
  have HF := Lib.hid hF'
  have hkl : kA.length ≤ maxLen := by rw [hkA]; exact nameAt_len _
  have hkl2 : kB.length ≤ maxLen := by rw [hkB]; exact nameAt_len _
  have hBw := HD.out.size
  clear h hF hF' hkA hkB
  unfold stepV
  go_enter Tryd.func7, Tryd.ntmps7
  go_wp2_with (fail)
  have hb2 := ((Below.refl w.heap.size w).alloc (Nat.le_refl _) (.cells #[.pointer (some ⟨mp, 0, none⟩)] 26 (0, 0))).alloc (by rw [World.size_alloc]; omega) (.cells #[.int .u8 dO, .int .u8 A8, .int .u8 B8, .slice As ns cs, .int .i8 nn, .int .u64 bits] 34 (0, 0))
  have hs2 : ((w.alloc (.cells #[.pointer (some ⟨mp, 0, none⟩)] 26 (0, 0))).alloc (.cells #[.int .u8 dO, .int .u8 A8, .int .u8 B8, .slice As ns cs, .int .i8 nn, .int .u64 bits] 34 (0, 0))).heap.size = w.heap.size + 2 := by rw [World.size_alloc, World.size_alloc]
  have hq1 : ((w.alloc (.cells #[.pointer (some ⟨mp, 0, none⟩)] 26 (0, 0))).alloc (.cells #[.int .u8 dO, .int .u8 A8, .int .u8 B8, .slice As ns cs, .int .i8 nn, .int .u64 bits] 34 (0, 0))).heap[w.heap.size]? = some (.cells #[.pointer (some ⟨mp, 0, none⟩)] 26 (0, 0)) := heap_alloc_keep (heap_alloc_new _ _) _
  have hq2 : ((w.alloc (.cells #[.pointer (some ⟨mp, 0, none⟩)] 26 (0, 0))).alloc (.cells #[.int .u8 dO, .int .u8 A8, .int .u8 B8, .slice As ns cs, .int .i8 nn, .int .u64 bits] 34 (0, 0))).heap[w.heap.size + 1]? = some (.cells #[.int .u8 dO, .int .u8 A8, .int .u8 B8, .slice As ns cs, .int .i8 nn, .int .u64 bits] 34 (0, 0)) := by
    have := heap_alloc_new (w.alloc (.cells #[.pointer (some ⟨mp, 0, none⟩)] 26 (0, 0))) (.cells #[.int .u8 dO, .int .u8 A8, .int .u8 B8, .slice As ns cs, .int .i8 nn, .int .u64 bits] 34 (0, 0))
    rw [World.size_alloc] at this
    exact this
  generalize (w.alloc (.cells #[.pointer (some ⟨mp, 0, none⟩)] 26 (0, 0))).alloc (.cells #[.int .u8 dO, .int .u8 A8, .int .u8 B8, .slice As ns cs, .int .i8 nn, .int .u64 bits] 34 (0, 0)) = w2 at *
  obtain ⟨qm, hqm⟩ : ∃ qm, qm = w.heap.size := ⟨_, rfl⟩
  rw [← hqm] at hq1 hq2 ⊢
  obtain ⟨qs, hqs⟩ : ∃ qs, qs = qm + 1 := ⟨_, rfl⟩
  rw [← hqs] at hq2 ⊢
  have hqm1 : w.heap.size ≤ qm := by omega
  have hqm2 : qm < qs := by omega
  have hqs2 : qs < w2.heap.size := by omega
  clear hqm hqs hs2
  have HQ1 := Lib.hid hq1
  have HQ2 := Lib.hid hq2
  have m1 : w2.cell? ⟨qm, 0, none⟩ = some (.pointer (some ⟨mp, 0, none⟩)) := by rw [cell_of_blk hq1]; rfl
  have s0 : w2.cell? ⟨qs, 0, none⟩ = some (.int .u8 dO) := by rw [cell_of_blk hq2]; rfl
  have s1 : w2.cell? ⟨qs, 1, none⟩ = some (.int .u8 A8) := by rw [cell_of_blk hq2]; rfl
  have s2 : w2.cell? ⟨qs, 2, none⟩ = some (.int .u8 B8) := by rw [cell_of_blk hq2]; rfl
  have s3 : w2.cell? ⟨qs, 3, none⟩ = some (.slice As ns cs) := by rw [cell_of_blk hq2]; rfl
  have s4 : w2.cell? ⟨qs, 4, none⟩ = some (.int .i8 nn) := by rw [cell_of_blk hq2]; rfl
  have n0 : w2.cell? ⟨0, 0, none⟩ = some (.slice (some na) 4 nc) := cellk hb2 (by show 0 < w.heap.size; have := hn.lt; omega) hn1
  have n1 : w2.cell? (na.add iA) = some (txt kA) := cellk hb2 (by rw [block_of_add]; omega) hnA
  have n2 : w2.cell? (na.add iB) = some (txt kB) := cellk hb2 (by rw [block_of_add]; omega) hnB
  have i0 : (0 : Int) ≤ (iA : Int) := by omega
  have i1 : (iA : Int) < 4 := by omega
  have i2 : (0 : Int) ≤ (iB : Int) := by omega
  have i3 : (iB : Int) < 4 := by omega
  clear hq1 hq2 hnA hnB hn1 hn
  go_region_held3 (fun w' => w'.cell? ⟨qs, 1, none⟩ = some (.int .u8 A8) ∧ w'.cell? ⟨qs, 2, none⟩ = some (.int .u8 B8) ∧ w'.cell? ⟨0, 0, none⟩ = some (.slice (some na) 4 nc) ∧ w'.cell? (na.add iA) = some (txt kA) ∧ w'.cell? (na.add iB) = some (txt kB)) (first | exact ⟨s1, s2, n0, n1, n2⟩ | go_keep) (fail)
  clear s1 s2 n0 n1 n2 i0 i1 i2 i3
  obtain ⟨V, hm⟩ := HM.out
  have hm2 := hm.below hb2
  have HMap := Lib.hid hm2.map
  have hmt := hm2.lt
  have c0 : w2.cell? ⟨mp, 0, none⟩ = some (.map (some mb)) := hm2.c0
  obtain ⟨hrow, hown⟩ := hm2.file kA bs kept HF.out
  obtain ⟨Af, cf, hVf, hcf⟩ := hrow.form
  obtain ⟨nf, hnf⟩ : ∃ nf, nf = bs.length := ⟨_, rfl⟩
  rw [← hnf] at hVf hcf
  obtain ⟨kf, hkf⟩ : ∃ kf : Nat, kf = kept := ⟨_, rfl⟩
  have hr : ((F kA).map fun x => fileV (V kA) x.2) = some (.agg #[.slice Af nf cf, .int .i64 kf]) := by rw [HF.out, hkf]; simp [fileV, hVf]
  have HR := Lib.hid hr
  have HVF := Lib.hid hVf
  have HNF := Lib.hid hnf
  have HKF := Lib.hid hkf
  clear hr hVf hnf hkf hrow hown
  have HM2 := Lib.hid hm2
  clear hm hm2
  go_wp2_with (at_lookup; (refine wpList_look rfl _ _ 27 rfl 43 Tryd.underlying27 (zeroF' _) mb N _ rfl HMap.out kA rfl hkl _ HR.out ?_))
  have hba := ((Below.refl w2.heap.size w2).alloc (Nat.le_refl _) (.cells #[.slice Af nf cf, .int .i64 kf] 43 (0, 0))).drew
  have hqf := heap_alloc_new w2 (.cells #[.slice Af nf cf, .int .i64 kf] 43 (0, 0))
  have hsa := World.size_alloc w2 (.cells #[.slice Af nf cf, .int .i64 kf] 43 (0, 0))
  obtain ⟨qf, hqe⟩ : ∃ qf, qf = w2.heap.size := ⟨_, rfl⟩
  have hz2 := hb2.size
  have hltD := HD.out.lt
  have hltM : ∀ g, D g → g < w.heap.size := fun g hg => HM.out.lt hg
  have HB3 := Lib.hid (hb2.trans (hba.mono (by omega)))
  have HQ13 := Lib.hid ((hba.block _ (by omega)).trans HQ1.out)
  have HQ23 := Lib.hid ((hba.block _ (by omega)).trans HQ2.out)
  have HQ33 := Lib.hid (show ((w2.alloc (.cells #[.slice Af nf cf, .int .i64 kf] 43 (0, 0))).drew).heap[qf]? = some (.cells #[.slice Af nf cf, .int .i64 kf] 43 (0, 0)) by rw [hqe]; exact hqf)
  have HM3 := Lib.hid (HM2.out.below hba)
  have HD3 := Lib.hid ((HD.out.below hb2).below hba)
  have hs3 : ((w2.alloc (.cells #[.slice Af nf cf, .int .i64 kf] 43 (0, 0))).drew).heap.size = qf + 1 := by rw [hqe]; exact hsa
  rw [← hqe] at ⊢
  generalize (w2.alloc (.cells #[.slice Af nf cf, .int .i64 kf] 43 (0, 0))).drew = w3 at *
  have hqf1 : w.heap.size ≤ qf := by omega
  have hqsf : qs < qf := by omega
  have hnt : ∀ g, w.heap.size ≤ g → ¬ TouchD C pw g := fun g hg h => by have := hltD g h; omega
  have hnd : ∀ g, D g → ¬ TouchD C pw g := fun g hg h => by
    rcases h with h | h
    · exact hcd g h hg
    · exact hdp (h ▸ hg)
  have hqd : ∀ g, w.heap.size ≤ g → ¬ D g := fun g hg h => by have := hltM g h; omega
  have HNT := Lib.hid hnt
  have HND := Lib.hid hnd
  have HQD := Lib.hid hqd
  clear hba hqf hsa hqe HQ1 HQ2 HMap HM2 m1 s0 s3 s4 c0 hnt hnd hqd hmt HR
  refine (dsMove B C nb a pw t l u room F kA kB bs kept w3 HD3.out hnb hl hkl hkl2 HF.out).mono ?_
  rintro e w4 ⟨rfl, C4, hd4, hc4, hm4, _⟩
  have hz4 := hm4.size
  have HQ14 := Lib.hid (hm4.blk HQ13.out (HNT.out _ (by omega)))
  have HQ24 := Lib.hid (hm4.blk HQ23.out (HNT.out _ (by omega)))
  have HQ34 := Lib.hid (hm4.blk HQ33.out (HNT.out _ (by omega)))
  have HM4 := Lib.hid (HM3.out.mod hm4 HND.out)
  have HMO := Lib.hid ((Mod.of_below (F := TouchD C pw) HB3.out).trans hm4 (fun _ _ h => h))
  have HD4 := Lib.hid hd4
  have HCQ := Lib.hid (show ¬ C4 qf from fun h => by
    rcases hc4 qf h with h | h
    · exact HNT.out qf hqf1 (.inl h)
    · omega)
  have HC4 := Lib.hid (show ∀ g, C4 g → C g ∨ w.heap.size ≤ g from fun g hg => by
    rcases hc4 g hg with h | h
    · exact .inl h
    · exact .inr (by omega))
  clear hm4 hd4 hc4 HQ13 HQ23 HQ33 HM3 HD3
  have HMap4 := Lib.hid HM4.out.map
  have m4 : w4.cell? ⟨qm, 0, none⟩ = some (.pointer (some ⟨mp, 0, none⟩)) := by rw [cell_of_blk HQ14.out]; rfl
  have c4 : w4.cell? ⟨mp, 0, none⟩ = some (.map (some mb)) := HM4.out.c0
  have f0 : w4.cell? ⟨qf, 0, none⟩ = some (.slice Af nf cf) := by rw [cell_of_blk HQ34.out]; rfl
  have f1 : w4.cell? ⟨qf, 1, none⟩ = some (.int .i64 kf) := by rw [cell_of_blk HQ34.out]; rfl
  have g1 : w4.frozen? ⟨qf, 1, none⟩ = false := frozen_of_blk HQ34.out 1
  have hdl4 := HM4.out.lt
  go_wp2_with (at_delete; (refine wpList_drop rfl _ _ 27 rfl 43 Tryd.underlying27 mb N _ rfl HMap4.out kA rfl hkl ?_; intro w5 hm5 hg5 hz5))
  have hmbd := HM4.out.db
  have hmb5 := hltM mb hmbd
  have hmo5 : Mod (fun g => g = mb) w4 w5 := (Mod.refl (fun g => g = mb) w4).grown hg5 (fun g hg _ => by injection hg with hg; exact hg.symm)
  have HM45 := Lib.hid hmo5
  have hz5 := hmo5.size
  have HQ15 := Lib.hid (hmo5.blk HQ14.out (by omega))
  have HQ25 := Lib.hid (hmo5.blk HQ24.out (by omega))
  have HQ35 := Lib.hid (hmo5.blk HQ34.out (by omega))
  have HM5 := Lib.hid (HM4.out.drop kA hm5 hg5)
  clear HQ14 HQ24 HQ34 m4 c4 f0 f1 g1 hmo5 hm5 hg5 HMap4
  have hrow4 := (HM4.out.file kA bs kept HF.out).1
  rw [HVF.out, ← HNF.out] at hrow4
  have hrow5 := hrow4.mod HM45.out (fun g hg => (HM4.out.kinds.2 kA bs kept g HF.out (by rw [HVF.out]; exact hg)).1)
  have HROW := Lib.hid hrow5
  clear hrow4 hrow5 hmbd
  have m5 : w5.cell? ⟨qm, 0, none⟩ = some (.pointer (some ⟨mp, 0, none⟩)) := by rw [cell_of_blk HQ15.out]; rfl
  have c5 : w5.cell? ⟨mp, 0, none⟩ = some (.map (some mb)) := HM5.out.c0
  have f05 : w5.cell? ⟨qf, 0, none⟩ = some (.slice Af nf cf) := by rw [cell_of_blk HQ35.out]; rfl
  have f15 : w5.cell? ⟨qf, 1, none⟩ = some (.int .i64 kf) := by rw [cell_of_blk HQ35.out]; rfl
  obtain ⟨w6, hrun6, hm6, hg6, hz6⟩ := MapAt.store (w := w5.drew) HM5.out.map (t := 27) (e := 43) Tryd.underlying27 (by unfold maxLen; omega) hkl2 (.agg #[.slice Af nf cf, .int .i64 kf])
  obtain ⟨hk1, _⟩ := HM5.out.kinds
  have hmbd := HM5.out.db
  have hmpd := HM5.out.dm
  have hml5 := HM5.out.lt
  have hgb6 : w5.grownBy w6 (some mb) := ⟨hg6.os, hg6.tape, hg6.output, hg6.size, hg6.block⟩
  have hl5 : ∀ g, D g → g < w.heap.size := hltM
  have hmm1 := hl5 mb hmbd
  have hmm2 := hl5 mp hmpd
  have m6 : w6.cell? ⟨qm, 0, none⟩ = some (.pointer (some ⟨mp, 0, none⟩)) := (hgb6.cell_far ⟨qm, 0, none⟩ (lt_of_heap HQ15.out) (fun e => by injection e with e; have e : qm = mb := e; omega)).trans m5
  have c6 : w6.cell? ⟨mp, 0, none⟩ = some (.map (some mb)) := (hgb6.cell_far ⟨mp, 0, none⟩ (hml5 mp hmpd) (fun e => by injection e with e; exact hk1 e)).trans c5
  have f06 : w6.cell? ⟨qf, 0, none⟩ = some (.slice Af nf cf) := (hgb6.cell_far ⟨qf, 0, none⟩ (lt_of_heap HQ35.out) (fun e => by injection e with e; have e : qf = mb := e; omega)).trans f05
  have f16 : w6.cell? ⟨qf, 1, none⟩ = some (.int .i64 kf) := (hgb6.cell_far ⟨qf, 1, none⟩ (lt_of_heap HQ35.out) (fun e => by injection e with e; have e : qf = mb := e; omega)).trans f15
  go_region_held3 (fun w' => w'.cell? ⟨qm, 0, none⟩ = some (.pointer (some ⟨mp, 0, none⟩)) ∧ w'.cell? ⟨mp, 0, none⟩ = some (.map (some mb)) ∧ w'.cell? ⟨qf, 0, none⟩ = some (.slice Af nf cf) ∧ w'.cell? ⟨qf, 1, none⟩ = some (.int .i64 kf)) (first | exact ⟨m6, c6, f06, f16⟩ | exact ⟨m5, c5, f05, f15⟩ | go_keep) (fail)
  go_wp2_with (fail)
  go_ret
  have hn := HNF.out
  have hm7 := HM5.out.put (k := kB) (bs := bs) (kept := kf) (v := .slice Af nf cf) (by have := HROW.out; rw [hn] at this; rw [hn]; exact this) (fun g hg => HROW.out.lt hg) hm6 hgb6
  refine retB_of (E := fun g => g = qf) (by have := HD4.out; rw [← HKF.out] at this; exact this) ⟨_, hm7⟩ HC4.out (fun g hg => ?_) HMO.out ((HM45.out.trans ((Mod.refl (fun g => g = mb) w5).grown hgb6 (fun g hg _ => by injection hg with hg; exact hg.symm)) (fun _ _ h => h)).mono fun g _ e => .inl (by rw [e]; exact hmbd)) (fun g hg => ⟨by rw [hg]; exact hqf1, by rw [hg]; exact HCQ.out⟩) (hltD pw (.inr rfl)) hcd hdp hdb hltM hBw
  rcases hg with h | h
  · exact .inl h
  · exact .inl ((HM4.out.file kA bs kept HF.out).2 g (by rw [HVF.out]; exact h))
set_option maxHeartbeats 4000000 in
set_option maxRecDepth 100000 in
theorem doRemove (B B' nb a pw t N mp mb dO A8 B8 bits ns cs : Nat) (As : Option Addr) (C D : Nat → Prop) (l u room nn : Int) (F : Files) (bs : List UInt8) (kept : Nat) (w : World) (h : Both B w C D nb N a pw mp mb l u room F t) (hn : NamesLaid w B') (_hB' : B' ≤ w.heap.size) (_hd8 : dO < 256) (hA8 : A8 < 256) (hB8 : B8 < 256) (hnb : nb < 1000000) (_hN : N < 1000000) (hdo : dO % 8 = 5) (hF : F (nameAt A8) = some (bs, kept)) (hl : l < 0 ∨ u < l) :
    Calls Tryd.prog 7 #[.pointer (some ⟨mp, 0, none⟩), .pointer (some ⟨a, 0, none⟩), stepV dO A8 B8 (.slice As ns cs) nn bits] w (RetB w B C D (nb + 1) (N + 1) a pw mp mb l (u + 1) room) := by
  obtain ⟨na, nc, hn1, hn2, hn3⟩ := hn.at_
  have hnA := hn3 A8
  have hnB := hn3 B8
  obtain ⟨kA, hkA⟩ : ∃ kA, kA = nameAt A8 := ⟨_, rfl⟩
  obtain ⟨kB, hkB⟩ : ∃ kB, kB = nameAt B8 := ⟨_, rfl⟩
  obtain ⟨iA, hiA⟩ : ∃ iA, iA = A8 % 4 := ⟨_, rfl⟩
  obtain ⟨iB, hiB⟩ : ∃ iB, iB = B8 % 4 := ⟨_, rfl⟩
  rw [← hkA, ← hiA] at hnA
  rw [← hkB, ← hiB] at hnB
  have hA1 : (A8 : Int) % 4 = (iA : Int) := by omega
  have hA2 : (A8 : Int).tmod 4 = (iA : Int) := by rw [Int.tmod_eq_emod_of_nonneg (by omega)]; exact hA1
  have hA3 : IntKind.u8.wrap (iA : Int) = (iA : Int) := IntWalk.u8_in _ (by omega)
  have hB1 : (B8 : Int) % 4 = (iB : Int) := by omega
  have hB2 : (B8 : Int).tmod 4 = (iB : Int) := by rw [Int.tmod_eq_emod_of_nonneg (by omega)]; exact hB1
  have hB3 : IntKind.u8.wrap (iB : Int) = (iB : Int) := IntWalk.u8_in _ (by omega)
  have hiA4 : iA < 4 := by omega
  have hiB4 : iB < 4 := by omega
  have hO1 : (dO : Int) % 8 = 5 := by omega
  have hO2 : (dO : Int).tmod 8 = 5 := by rw [Int.tmod_eq_emod_of_nonneg (by omega)]; exact hO1
  have hO3 : IntKind.u8.wrap 5 = 5 := IntWalk.u8_in _ (by omega)
  clear hiA hiB hn3
  have HD := Lib.hid h.ds
  have HM := Lib.hid h.md
  have hcd := h.cd
  have hdp := h.dp
  have hdb := h.db
  have hF' : F kA = some (bs, kept) := by rw [hkA]; exact hF
  have HF := Lib.hid hF'
  have hkl : kA.length ≤ maxLen := by rw [hkA]; exact nameAt_len _
  have hkl2 : kB.length ≤ maxLen := by rw [hkB]; exact nameAt_len _
  have hBw := HD.out.size
  clear h hF hF' hkA hkB
  unfold stepV
  go_enter Tryd.func7, Tryd.ntmps7
  go_wp2_with (fail)
  have hb2 := ((Below.refl w.heap.size w).alloc (Nat.le_refl _) (.cells #[.pointer (some ⟨mp, 0, none⟩)] 26 (0, 0))).alloc (by rw [World.size_alloc]; omega) (.cells #[.int .u8 dO, .int .u8 A8, .int .u8 B8, .slice As ns cs, .int .i8 nn, .int .u64 bits] 34 (0, 0))
  have hs2 : ((w.alloc (.cells #[.pointer (some ⟨mp, 0, none⟩)] 26 (0, 0))).alloc (.cells #[.int .u8 dO, .int .u8 A8, .int .u8 B8, .slice As ns cs, .int .i8 nn, .int .u64 bits] 34 (0, 0))).heap.size = w.heap.size + 2 := by rw [World.size_alloc, World.size_alloc]
  have hq1 : ((w.alloc (.cells #[.pointer (some ⟨mp, 0, none⟩)] 26 (0, 0))).alloc (.cells #[.int .u8 dO, .int .u8 A8, .int .u8 B8, .slice As ns cs, .int .i8 nn, .int .u64 bits] 34 (0, 0))).heap[w.heap.size]? = some (.cells #[.pointer (some ⟨mp, 0, none⟩)] 26 (0, 0)) := heap_alloc_keep (heap_alloc_new _ _) _
  have hq2 : ((w.alloc (.cells #[.pointer (some ⟨mp, 0, none⟩)] 26 (0, 0))).alloc (.cells #[.int .u8 dO, .int .u8 A8, .int .u8 B8, .slice As ns cs, .int .i8 nn, .int .u64 bits] 34 (0, 0))).heap[w.heap.size + 1]? = some (.cells #[.int .u8 dO, .int .u8 A8, .int .u8 B8, .slice As ns cs, .int .i8 nn, .int .u64 bits] 34 (0, 0)) := by
    have := heap_alloc_new (w.alloc (.cells #[.pointer (some ⟨mp, 0, none⟩)] 26 (0, 0))) (.cells #[.int .u8 dO, .int .u8 A8, .int .u8 B8, .slice As ns cs, .int .i8 nn, .int .u64 bits] 34 (0, 0))
    rw [World.size_alloc] at this
    exact this
  generalize (w.alloc (.cells #[.pointer (some ⟨mp, 0, none⟩)] 26 (0, 0))).alloc (.cells #[.int .u8 dO, .int .u8 A8, .int .u8 B8, .slice As ns cs, .int .i8 nn, .int .u64 bits] 34 (0, 0)) = w2 at *
  obtain ⟨qm, hqm⟩ : ∃ qm, qm = w.heap.size := ⟨_, rfl⟩
  rw [← hqm] at hq1 hq2 ⊢
  obtain ⟨qs, hqs⟩ : ∃ qs, qs = qm + 1 := ⟨_, rfl⟩
  rw [← hqs] at hq2 ⊢
  have hqm1 : w.heap.size ≤ qm := by omega
  have hqm2 : qm < qs := by omega
  have hqs2 : qs < w2.heap.size := by omega
  clear hqm hqs hs2
  have HQ1 := Lib.hid hq1
  have HQ2 := Lib.hid hq2
  have m1 : w2.cell? ⟨qm, 0, none⟩ = some (.pointer (some ⟨mp, 0, none⟩)) := by rw [cell_of_blk hq1]; rfl
  have s0 : w2.cell? ⟨qs, 0, none⟩ = some (.int .u8 dO) := by rw [cell_of_blk hq2]; rfl
  have s1 : w2.cell? ⟨qs, 1, none⟩ = some (.int .u8 A8) := by rw [cell_of_blk hq2]; rfl
  have s2 : w2.cell? ⟨qs, 2, none⟩ = some (.int .u8 B8) := by rw [cell_of_blk hq2]; rfl
  have s3 : w2.cell? ⟨qs, 3, none⟩ = some (.slice As ns cs) := by rw [cell_of_blk hq2]; rfl
  have s4 : w2.cell? ⟨qs, 4, none⟩ = some (.int .i8 nn) := by rw [cell_of_blk hq2]; rfl
  have n0 : w2.cell? ⟨0, 0, none⟩ = some (.slice (some na) 4 nc) := cellk hb2 (by show 0 < w.heap.size; have := hn.lt; omega) hn1
  have n1 : w2.cell? (na.add iA) = some (txt kA) := cellk hb2 (by rw [block_of_add]; omega) hnA
  have n2 : w2.cell? (na.add iB) = some (txt kB) := cellk hb2 (by rw [block_of_add]; omega) hnB
  have i0 : (0 : Int) ≤ (iA : Int) := by omega
  have i1 : (iA : Int) < 4 := by omega
  have i2 : (0 : Int) ≤ (iB : Int) := by omega
  have i3 : (iB : Int) < 4 := by omega
  clear hq1 hq2 hnA hnB hn1 hn
  go_region_held3 (fun w' => w'.cell? ⟨qs, 1, none⟩ = some (.int .u8 A8) ∧ w'.cell? ⟨qs, 2, none⟩ = some (.int .u8 B8) ∧ w'.cell? ⟨0, 0, none⟩ = some (.slice (some na) 4 nc) ∧ w'.cell? (na.add iA) = some (txt kA) ∧ w'.cell? (na.add iB) = some (txt kB)) (first | exact ⟨s1, s2, n0, n1, n2⟩ | go_keep) (fail)
  clear s1 s2 n0 n1 n2 i0 i1 i2 i3
  obtain ⟨V, hm⟩ := HM.out
  have hm2 := hm.below hb2
  have HMap := Lib.hid hm2.map
  have hmt := hm2.lt
  have c0 : w2.cell? ⟨mp, 0, none⟩ = some (.map (some mb)) := hm2.c0
  obtain ⟨hrow, hown⟩ := hm2.file kA bs kept HF.out
  obtain ⟨Af, cf, hVf, hcf⟩ := hrow.form
  obtain ⟨nf, hnf⟩ : ∃ nf, nf = bs.length := ⟨_, rfl⟩
  rw [← hnf] at hVf hcf
  obtain ⟨kf, hkf⟩ : ∃ kf : Nat, kf = kept := ⟨_, rfl⟩
  have hr : ((F kA).map fun x => fileV (V kA) x.2) = some (.agg #[.slice Af nf cf, .int .i64 kf]) := by rw [HF.out, hkf]; simp [fileV, hVf]
  have HR := Lib.hid hr
  have HVF := Lib.hid hVf
  have HNF := Lib.hid hnf
  have HKF := Lib.hid hkf
  clear hr hVf hnf hkf hrow hown
  have HM2 := Lib.hid hm2
  clear hm hm2
  go_wp2_with (at_lookup; (refine wpList_look rfl _ _ 27 rfl 43 Tryd.underlying27 (zeroF' _) mb N _ rfl HMap.out kA rfl hkl _ HR.out ?_))
  have hba := ((Below.refl w2.heap.size w2).alloc (Nat.le_refl _) (.cells #[.slice Af nf cf, .int .i64 kf] 43 (0, 0))).drew
  have hqf := heap_alloc_new w2 (.cells #[.slice Af nf cf, .int .i64 kf] 43 (0, 0))
  have hsa := World.size_alloc w2 (.cells #[.slice Af nf cf, .int .i64 kf] 43 (0, 0))
  obtain ⟨qf, hqe⟩ : ∃ qf, qf = w2.heap.size := ⟨_, rfl⟩
  have hz2 := hb2.size
  have hltD := HD.out.lt
  have hltM : ∀ g, D g → g < w.heap.size := fun g hg => HM.out.lt hg
  have HB3 := Lib.hid (hb2.trans (hba.mono (by omega)))
  have HQ13 := Lib.hid ((hba.block _ (by omega)).trans HQ1.out)
  have HQ23 := Lib.hid ((hba.block _ (by omega)).trans HQ2.out)
  have HQ33 := Lib.hid (show ((w2.alloc (.cells #[.slice Af nf cf, .int .i64 kf] 43 (0, 0))).drew).heap[qf]? = some (.cells #[.slice Af nf cf, .int .i64 kf] 43 (0, 0)) by rw [hqe]; exact hqf)
  have HM3 := Lib.hid (HM2.out.below hba)
  have HD3 := Lib.hid ((HD.out.below hb2).below hba)
  have hs3 : ((w2.alloc (.cells #[.slice Af nf cf, .int .i64 kf] 43 (0, 0))).drew).heap.size = qf + 1 := by rw [hqe]; exact hsa
  rw [← hqe] at ⊢
  generalize (w2.alloc (.cells #[.slice Af nf cf, .int .i64 kf] 43 (0, 0))).drew = w3 at *
  have hqf1 : w.heap.size ≤ qf := by omega
  have hqsf : qs < qf := by omega
  have hnt : ∀ g, w.heap.size ≤ g → ¬ TouchD C pw g := fun g hg h => by have := hltD g h; omega
  have hnd : ∀ g, D g → ¬ TouchD C pw g := fun g hg h => by
    rcases h with h | h
    · exact hcd g h hg
    · exact hdp (h ▸ hg)
  have hqd : ∀ g, w.heap.size ≤ g → ¬ D g := fun g hg h => by have := hltM g h; omega
  have HNT := Lib.hid hnt
  have HND := Lib.hid hnd
  have HQD := Lib.hid hqd
  clear hba hqf hsa hqe HQ1 HQ2 HMap HM2 m1 s0 s3 s4 c0 hnt hnd hqd hmt HR
  refine (dsRemove B C nb a pw t l u room F kA (bs, kept) w3 HD3.out hnb hl hkl HF.out).mono ?_
  rintro e w4 ⟨rfl, C4, hd4, hc4, hm4, _⟩
  have hz4 := hm4.size
  have HQ14 := Lib.hid (hm4.blk HQ13.out (HNT.out _ (by omega)))
  have HQ24 := Lib.hid (hm4.blk HQ23.out (HNT.out _ (by omega)))
  have HQ34 := Lib.hid (hm4.blk HQ33.out (HNT.out _ (by omega)))
  have HM4 := Lib.hid (HM3.out.mod hm4 HND.out)
  have HMO := Lib.hid ((Mod.of_below (F := TouchD C pw) HB3.out).trans hm4 (fun _ _ h => h))
  have HD4 := Lib.hid hd4
  have HCQ := Lib.hid (show ¬ C4 qf from fun h => by
    rcases hc4 qf h with h | h
    · exact HNT.out qf hqf1 (.inl h)
    · omega)
  have HC4 := Lib.hid (show ∀ g, C4 g → C g ∨ w.heap.size ≤ g from fun g hg => by
    rcases hc4 g hg with h | h
    · exact .inl h
    · exact .inr (by omega))
  clear hm4 hd4 hc4 HQ13 HQ23 HQ33 HM3 HD3
  have HMap4 := Lib.hid HM4.out.map
  have m4 : w4.cell? ⟨qm, 0, none⟩ = some (.pointer (some ⟨mp, 0, none⟩)) := by rw [cell_of_blk HQ14.out]; rfl
  have c4 : w4.cell? ⟨mp, 0, none⟩ = some (.map (some mb)) := HM4.out.c0
  have f0 : w4.cell? ⟨qf, 0, none⟩ = some (.slice Af nf cf) := by rw [cell_of_blk HQ34.out]; rfl
  have f1 : w4.cell? ⟨qf, 1, none⟩ = some (.int .i64 kf) := by rw [cell_of_blk HQ34.out]; rfl
  have g1 : w4.frozen? ⟨qf, 1, none⟩ = false := frozen_of_blk HQ34.out 1
  have hdl4 := HM4.out.lt
  go_wp2_with (at_delete; (refine wpList_drop rfl _ _ 27 rfl 43 Tryd.underlying27 mb N _ rfl HMap4.out kA rfl hkl ?_; intro w5 hm5 hg5 hz5))
  have hmbd := HM4.out.db
  have hmb5 := hltM mb hmbd
  have hmo5 : Mod (fun g => g = mb) w4 w5 := (Mod.refl (fun g => g = mb) w4).grown hg5 (fun g hg _ => by injection hg with hg; exact hg.symm)
  have HM45 := Lib.hid hmo5
  have hz5 := hmo5.size
  have HQ15 := Lib.hid (hmo5.blk HQ14.out (by omega))
  have HQ25 := Lib.hid (hmo5.blk HQ24.out (by omega))
  have HQ35 := Lib.hid (hmo5.blk HQ34.out (by omega))
  have HM5 := Lib.hid (HM4.out.drop kA hm5 hg5)
  clear HQ14 HQ24 HQ34 m4 c4 f0 f1 g1 hmo5 hm5 hg5 HMap4
  go_wp2_with (fail)
  go_ret
  exact retB_of (E := fun g => g = qf) HD4.out (ModAt.more ⟨_, HM5.out⟩) HC4.out (fun g hg => .inl hg) HMO.out (HM45.out.mono fun g _ e => .inl (by rw [e]; exact hmbd)) (fun g hg => ⟨by rw [hg]; exact hqf1, by rw [hg]; exact HCQ.out⟩) (hltD pw (.inr rfl)) hcd hdp hdb hltM hBw
set_option maxHeartbeats 4000000 in
set_option maxRecDepth 100000 in
theorem doRemoveN (B B' nb a pw t N mp mb dO A8 B8 bits ns cs : Nat) (As : Option Addr) (C D : Nat → Prop) (l u room nn : Int) (F : Files) (w : World) (h : Both B w C D nb N a pw mp mb l u room F t) (hn : NamesLaid w B') (_hB' : B' ≤ w.heap.size) (_hd8 : dO < 256) (hA8 : A8 < 256) (hB8 : B8 < 256) (hnb : nb < 1000000) (_hN : N < 1000000) (hdo : dO % 8 = 5) (hF : F (nameAt A8) = none)  :
    Calls Tryd.prog 7 #[.pointer (some ⟨mp, 0, none⟩), .pointer (some ⟨a, 0, none⟩), stepV dO A8 B8 (.slice As ns cs) nn bits] w (RetB w B C D (nb + 1) (N + 1) a pw mp mb l u room) := by
  obtain ⟨na, nc, hn1, hn2, hn3⟩ := hn.at_
  have hnA := hn3 A8
  have hnB := hn3 B8
  obtain ⟨kA, hkA⟩ : ∃ kA, kA = nameAt A8 := ⟨_, rfl⟩
  obtain ⟨kB, hkB⟩ : ∃ kB, kB = nameAt B8 := ⟨_, rfl⟩
  obtain ⟨iA, hiA⟩ : ∃ iA, iA = A8 % 4 := ⟨_, rfl⟩
  obtain ⟨iB, hiB⟩ : ∃ iB, iB = B8 % 4 := ⟨_, rfl⟩
  rw [← hkA, ← hiA] at hnA
  rw [← hkB, ← hiB] at hnB
  have hA1 : (A8 : Int) % 4 = (iA : Int) := by omega
  have hA2 : (A8 : Int).tmod 4 = (iA : Int) := by rw [Int.tmod_eq_emod_of_nonneg (by omega)]; exact hA1
  have hA3 : IntKind.u8.wrap (iA : Int) = (iA : Int) := IntWalk.u8_in _ (by omega)
  have hB1 : (B8 : Int) % 4 = (iB : Int) := by omega
  have hB2 : (B8 : Int).tmod 4 = (iB : Int) := by rw [Int.tmod_eq_emod_of_nonneg (by omega)]; exact hB1
  have hB3 : IntKind.u8.wrap (iB : Int) = (iB : Int) := IntWalk.u8_in _ (by omega)
  have hiA4 : iA < 4 := by omega
  have hiB4 : iB < 4 := by omega
  have hO1 : (dO : Int) % 8 = 5 := by omega
  have hO2 : (dO : Int).tmod 8 = 5 := by rw [Int.tmod_eq_emod_of_nonneg (by omega)]; exact hO1
  have hO3 : IntKind.u8.wrap 5 = 5 := IntWalk.u8_in _ (by omega)
  clear hiA hiB hn3
  have HD := Lib.hid h.ds
  have HM := Lib.hid h.md
  have hcd := h.cd
  have hdp := h.dp
  have hdb := h.db
  have hF' : F kA = none := by rw [hkA]; exact hF
  have HF := Lib.hid hF'
  have hkl : kA.length ≤ maxLen := by rw [hkA]; exact nameAt_len _
  have hkl2 : kB.length ≤ maxLen := by rw [hkB]; exact nameAt_len _
  have hBw := HD.out.size
  clear h hF hF' hkA hkB
  unfold stepV
  go_enter Tryd.func7, Tryd.ntmps7
  go_wp2_with (fail)
  have hb2 := ((Below.refl w.heap.size w).alloc (Nat.le_refl _) (.cells #[.pointer (some ⟨mp, 0, none⟩)] 26 (0, 0))).alloc (by rw [World.size_alloc]; omega) (.cells #[.int .u8 dO, .int .u8 A8, .int .u8 B8, .slice As ns cs, .int .i8 nn, .int .u64 bits] 34 (0, 0))
  have hs2 : ((w.alloc (.cells #[.pointer (some ⟨mp, 0, none⟩)] 26 (0, 0))).alloc (.cells #[.int .u8 dO, .int .u8 A8, .int .u8 B8, .slice As ns cs, .int .i8 nn, .int .u64 bits] 34 (0, 0))).heap.size = w.heap.size + 2 := by rw [World.size_alloc, World.size_alloc]
  have hq1 : ((w.alloc (.cells #[.pointer (some ⟨mp, 0, none⟩)] 26 (0, 0))).alloc (.cells #[.int .u8 dO, .int .u8 A8, .int .u8 B8, .slice As ns cs, .int .i8 nn, .int .u64 bits] 34 (0, 0))).heap[w.heap.size]? = some (.cells #[.pointer (some ⟨mp, 0, none⟩)] 26 (0, 0)) := heap_alloc_keep (heap_alloc_new _ _) _
  have hq2 : ((w.alloc (.cells #[.pointer (some ⟨mp, 0, none⟩)] 26 (0, 0))).alloc (.cells #[.int .u8 dO, .int .u8 A8, .int .u8 B8, .slice As ns cs, .int .i8 nn, .int .u64 bits] 34 (0, 0))).heap[w.heap.size + 1]? = some (.cells #[.int .u8 dO, .int .u8 A8, .int .u8 B8, .slice As ns cs, .int .i8 nn, .int .u64 bits] 34 (0, 0)) := by
    have := heap_alloc_new (w.alloc (.cells #[.pointer (some ⟨mp, 0, none⟩)] 26 (0, 0))) (.cells #[.int .u8 dO, .int .u8 A8, .int .u8 B8, .slice As ns cs, .int .i8 nn, .int .u64 bits] 34 (0, 0))
    rw [World.size_alloc] at this
    exact this
  generalize (w.alloc (.cells #[.pointer (some ⟨mp, 0, none⟩)] 26 (0, 0))).alloc (.cells #[.int .u8 dO, .int .u8 A8, .int .u8 B8, .slice As ns cs, .int .i8 nn, .int .u64 bits] 34 (0, 0)) = w2 at *
  obtain ⟨qm, hqm⟩ : ∃ qm, qm = w.heap.size := ⟨_, rfl⟩
  rw [← hqm] at hq1 hq2 ⊢
  obtain ⟨qs, hqs⟩ : ∃ qs, qs = qm + 1 := ⟨_, rfl⟩
  rw [← hqs] at hq2 ⊢
  have hqm1 : w.heap.size ≤ qm := by omega
  have hqm2 : qm < qs := by omega
  have hqs2 : qs < w2.heap.size := by omega
  clear hqm hqs hs2
  have HQ1 := Lib.hid hq1
  have HQ2 := Lib.hid hq2
  have m1 : w2.cell? ⟨qm, 0, none⟩ = some (.pointer (some ⟨mp, 0, none⟩)) := by rw [cell_of_blk hq1]; rfl
  have s0 : w2.cell? ⟨qs, 0, none⟩ = some (.int .u8 dO) := by rw [cell_of_blk hq2]; rfl
  have s1 : w2.cell? ⟨qs, 1, none⟩ = some (.int .u8 A8) := by rw [cell_of_blk hq2]; rfl
  have s2 : w2.cell? ⟨qs, 2, none⟩ = some (.int .u8 B8) := by rw [cell_of_blk hq2]; rfl
  have s3 : w2.cell? ⟨qs, 3, none⟩ = some (.slice As ns cs) := by rw [cell_of_blk hq2]; rfl
  have s4 : w2.cell? ⟨qs, 4, none⟩ = some (.int .i8 nn) := by rw [cell_of_blk hq2]; rfl
  have n0 : w2.cell? ⟨0, 0, none⟩ = some (.slice (some na) 4 nc) := cellk hb2 (by show 0 < w.heap.size; have := hn.lt; omega) hn1
  have n1 : w2.cell? (na.add iA) = some (txt kA) := cellk hb2 (by rw [block_of_add]; omega) hnA
  have n2 : w2.cell? (na.add iB) = some (txt kB) := cellk hb2 (by rw [block_of_add]; omega) hnB
  have i0 : (0 : Int) ≤ (iA : Int) := by omega
  have i1 : (iA : Int) < 4 := by omega
  have i2 : (0 : Int) ≤ (iB : Int) := by omega
  have i3 : (iB : Int) < 4 := by omega
  clear hq1 hq2 hnA hnB hn1 hn
  go_region_held3 (fun w' => w'.cell? ⟨qs, 1, none⟩ = some (.int .u8 A8) ∧ w'.cell? ⟨qs, 2, none⟩ = some (.int .u8 B8) ∧ w'.cell? ⟨0, 0, none⟩ = some (.slice (some na) 4 nc) ∧ w'.cell? (na.add iA) = some (txt kA) ∧ w'.cell? (na.add iB) = some (txt kB)) (first | exact ⟨s1, s2, n0, n1, n2⟩ | go_keep) (fail)
  clear s1 s2 n0 n1 n2 i0 i1 i2 i3
  obtain ⟨V, hm⟩ := HM.out
  have hm2 := hm.below hb2
  have HMap := Lib.hid hm2.map
  have hmt := hm2.lt
  have c0 : w2.cell? ⟨mp, 0, none⟩ = some (.map (some mb)) := hm2.c0
  have HR := Lib.hid (show ((F kA).map fun x => fileV (V kA) x.2) = none by rw [HF.out]; rfl)
  have HM2 := Lib.hid hm2
  clear hm hm2
  go_wp2_with (at_lookup; (refine wpList_look rfl _ _ 27 rfl 43 Tryd.underlying27 (zeroF' _) mb N _ rfl HMap.out kA rfl hkl _ HR.out ?_))
  have hba := ((Below.refl w2.heap.size w2).alloc (Nat.le_refl _) (.cells #[.slice none 0 0, .int .i64 0] 43 (0, 0))).drew
  have hqf := heap_alloc_new w2 (.cells #[.slice none 0 0, .int .i64 0] 43 (0, 0))
  have hsa := World.size_alloc w2 (.cells #[.slice none 0 0, .int .i64 0] 43 (0, 0))
  obtain ⟨qf, hqe⟩ : ∃ qf, qf = w2.heap.size := ⟨_, rfl⟩
  have hz2 := hb2.size
  have hltD := HD.out.lt
  have hltM : ∀ g, D g → g < w.heap.size := fun g hg => HM.out.lt hg
  have HB3 := Lib.hid (hb2.trans (hba.mono (by omega)))
  have HQ13 := Lib.hid ((hba.block _ (by omega)).trans HQ1.out)
  have HQ23 := Lib.hid ((hba.block _ (by omega)).trans HQ2.out)
  have HQ33 := Lib.hid (show ((w2.alloc (.cells #[.slice none 0 0, .int .i64 0] 43 (0, 0))).drew).heap[qf]? = some (.cells #[.slice none 0 0, .int .i64 0] 43 (0, 0)) by rw [hqe]; exact hqf)
  have HM3 := Lib.hid (HM2.out.below hba)
  have HD3 := Lib.hid ((HD.out.below hb2).below hba)
  have hs3 : ((w2.alloc (.cells #[.slice none 0 0, .int .i64 0] 43 (0, 0))).drew).heap.size = qf + 1 := by rw [hqe]; exact hsa
  rw [← hqe] at ⊢
  generalize (w2.alloc (.cells #[.slice none 0 0, .int .i64 0] 43 (0, 0))).drew = w3 at *
  have hqf1 : w.heap.size ≤ qf := by omega
  have hqsf : qs < qf := by omega
  have hnt : ∀ g, w.heap.size ≤ g → ¬ TouchD C pw g := fun g hg h => by have := hltD g h; omega
  have hnd : ∀ g, D g → ¬ TouchD C pw g := fun g hg h => by
    rcases h with h | h
    · exact hcd g h hg
    · exact hdp (h ▸ hg)
  have hqd : ∀ g, w.heap.size ≤ g → ¬ D g := fun g hg h => by have := hltM g h; omega
  have HNT := Lib.hid hnt
  have HND := Lib.hid hnd
  have HQD := Lib.hid hqd
  clear hba hqf hsa hqe HQ1 HQ2 HMap HM2 m1 s0 s3 s4 c0 hnt hnd hqd hmt HR
  obtain ⟨Nd, _, hdk⟩ := HD3.out.disk
  refine (removeNone C Nd a pw room F kA w3 hdk hkl HF.out).mono ?_
  rintro e w4 ⟨rfl, he4⟩
  clear hdk
  obtain ⟨C4, hC4⟩ : ∃ C4 : Nat → Prop, C4 = C := ⟨_, rfl⟩
  have hm4 : Mod (TouchD C pw) w3 w4 := by rw [he4]; exact Mod.refl _ _
  have hd4 : DS B w4 C4 nb a pw l u room F t := by rw [hC4, he4]; exact HD3.out
  have hc4 : ∀ g, C4 g → C g ∨ w3.heap.size ≤ g := fun g hg => .inl (by rw [← hC4]; exact hg)
  clear he4 hC4
  have hz4 := hm4.size
  have HQ14 := Lib.hid (hm4.blk HQ13.out (HNT.out _ (by omega)))
  have HQ24 := Lib.hid (hm4.blk HQ23.out (HNT.out _ (by omega)))
  have HQ34 := Lib.hid (hm4.blk HQ33.out (HNT.out _ (by omega)))
  have HM4 := Lib.hid (HM3.out.mod hm4 HND.out)
  have HMO := Lib.hid ((Mod.of_below (F := TouchD C pw) HB3.out).trans hm4 (fun _ _ h => h))
  have HD4 := Lib.hid hd4
  have HCQ := Lib.hid (show ¬ C4 qf from fun h => by
    rcases hc4 qf h with h | h
    · exact HNT.out qf hqf1 (.inl h)
    · omega)
  have HC4 := Lib.hid (show ∀ g, C4 g → C g ∨ w.heap.size ≤ g from fun g hg => by
    rcases hc4 g hg with h | h
    · exact .inl h
    · exact .inr (by omega))
  clear hm4 hd4 hc4 HQ13 HQ23 HQ33 HM3 HD3
  have HMap4 := Lib.hid HM4.out.map
  have m4 : w4.cell? ⟨qm, 0, none⟩ = some (.pointer (some ⟨mp, 0, none⟩)) := by rw [cell_of_blk HQ14.out]; rfl
  have c4 : w4.cell? ⟨mp, 0, none⟩ = some (.map (some mb)) := HM4.out.c0
  have f0 : w4.cell? ⟨qf, 0, none⟩ = some (.slice none 0 0) := by rw [cell_of_blk HQ34.out]; rfl
  have f1 : w4.cell? ⟨qf, 1, none⟩ = some (.int .i64 0) := by rw [cell_of_blk HQ34.out]; rfl
  have g1 : w4.frozen? ⟨qf, 1, none⟩ = false := frozen_of_blk HQ34.out 1
  have hdl4 := HM4.out.lt
  go_wp2_with (at_delete; (refine wpList_drop rfl _ _ 27 rfl 43 Tryd.underlying27 mb N _ rfl HMap4.out kA rfl hkl ?_; intro w5 hm5 hg5 hz5))
  have hmbd := HM4.out.db
  have hmb5 := hltM mb hmbd
  have hmo5 : Mod (fun g => g = mb) w4 w5 := (Mod.refl (fun g => g = mb) w4).grown hg5 (fun g hg _ => by injection hg with hg; exact hg.symm)
  have HM45 := Lib.hid hmo5
  have hz5 := hmo5.size
  have HQ15 := Lib.hid (hmo5.blk HQ14.out (by omega))
  have HQ25 := Lib.hid (hmo5.blk HQ24.out (by omega))
  have HQ35 := Lib.hid (hmo5.blk HQ34.out (by omega))
  have HM5 := Lib.hid (HM4.out.drop kA hm5 hg5)
  clear HQ14 HQ24 HQ34 m4 c4 f0 f1 g1 hmo5 hm5 hg5 HMap4
  go_wp2_with (fail)
  go_ret
  have hF5 : delF_ F kA = F := by
    funext y
    unfold delF_
    split
    · rename_i hy; rw [hy, HF.out]
    · rfl
  refine retB_of (E := fun g => g = qf) (HD4.out.more (Nat.le_succ _) hnb) (ModAt.more ⟨V, by have := HM5.out; rw [hF5] at this; exact this⟩) HC4.out (fun g hg => .inl hg) HMO.out (HM45.out.mono fun g _ e => .inl (by rw [e]; exact hmbd)) (fun g hg => ⟨by rw [hg]; exact hqf1, by rw [hg]; exact HCQ.out⟩) (hltD pw (.inr rfl)) hcd hdp hdb hltM hBw
set_option maxHeartbeats 4000000 in
set_option maxRecDepth 100000 in
theorem doCutN (B B' nb a pw t N mp mb dO A8 B8 bits ns cs : Nat) (As : Option Addr) (C D : Nat → Prop) (l u room nn : Int) (F : Files) (w : World) (h : Both B w C D nb N a pw mp mb l u room F t) (hn : NamesLaid w B') (_hB' : B' ≤ w.heap.size) (_hd8 : dO < 256) (hA8 : A8 < 256) (hB8 : B8 < 256) (hnb : nb < 1000000) (_hN : N < 1000000) (hdo : dO % 8 = 6) (hF : F (nameAt A8) = none) (_hn0 : -128 ≤ nn) (hn1 : nn ≤ 127) :
    Calls Tryd.prog 7 #[.pointer (some ⟨mp, 0, none⟩), .pointer (some ⟨a, 0, none⟩), stepV dO A8 B8 (.slice As ns cs) nn bits] w (RetB w B C D (nb + 1) (N + 1) a pw mp mb l u room) := by
  obtain ⟨na, nc, hn1, hn2, hn3⟩ := hn.at_
  have hnA := hn3 A8
  have hnB := hn3 B8
  obtain ⟨kA, hkA⟩ : ∃ kA, kA = nameAt A8 := ⟨_, rfl⟩
  obtain ⟨kB, hkB⟩ : ∃ kB, kB = nameAt B8 := ⟨_, rfl⟩
  obtain ⟨iA, hiA⟩ : ∃ iA, iA = A8 % 4 := ⟨_, rfl⟩
  obtain ⟨iB, hiB⟩ : ∃ iB, iB = B8 % 4 := ⟨_, rfl⟩
  rw [← hkA, ← hiA] at hnA
  rw [← hkB, ← hiB] at hnB
  have hA1 : (A8 : Int) % 4 = (iA : Int) := by omega
  have hA2 : (A8 : Int).tmod 4 = (iA : Int) := by rw [Int.tmod_eq_emod_of_nonneg (by omega)]; exact hA1
  have hA3 : IntKind.u8.wrap (iA : Int) = (iA : Int) := IntWalk.u8_in _ (by omega)
  have hB1 : (B8 : Int) % 4 = (iB : Int) := by omega
  have hB2 : (B8 : Int).tmod 4 = (iB : Int) := by rw [Int.tmod_eq_emod_of_nonneg (by omega)]; exact hB1
  have hB3 : IntKind.u8.wrap (iB : Int) = (iB : Int) := IntWalk.u8_in _ (by omega)
  have hiA4 : iA < 4 := by omega
  have hiB4 : iB < 4 := by omega
  have hO1 : (dO : Int) % 8 = 6 := by omega
  have hO2 : (dO : Int).tmod 8 = 6 := by rw [Int.tmod_eq_emod_of_nonneg (by omega)]; exact hO1
  have hO3 : IntKind.u8.wrap 6 = 6 := IntWalk.u8_in _ (by omega)
  have hw8 : IntKind.i64.wrap nn = nn := IntWalk.i64_in _ (by omega)
  clear hiA hiB hn3
  have HD := Lib.hid h.ds
  have HM := Lib.hid h.md
  have hcd := h.cd
  have hdp := h.dp
  have hdb := h.db
  have hF' : F kA = none := by rw [hkA]; exact hF
  have HF := Lib.hid hF'
  have hkl : kA.length ≤ maxLen := by rw [hkA]; exact nameAt_len _
  have hkl2 : kB.length ≤ maxLen := by rw [hkB]; exact nameAt_len _
  have hBw := HD.out.size
  clear h hF hF' hkA hkB
  unfold stepV
  go_enter Tryd.func7, Tryd.ntmps7
  go_wp2_with (fail)
  have hb2 := ((Below.refl w.heap.size w).alloc (Nat.le_refl _) (.cells #[.pointer (some ⟨mp, 0, none⟩)] 26 (0, 0))).alloc (by rw [World.size_alloc]; omega) (.cells #[.int .u8 dO, .int .u8 A8, .int .u8 B8, .slice As ns cs, .int .i8 nn, .int .u64 bits] 34 (0, 0))
  have hs2 : ((w.alloc (.cells #[.pointer (some ⟨mp, 0, none⟩)] 26 (0, 0))).alloc (.cells #[.int .u8 dO, .int .u8 A8, .int .u8 B8, .slice As ns cs, .int .i8 nn, .int .u64 bits] 34 (0, 0))).heap.size = w.heap.size + 2 := by rw [World.size_alloc, World.size_alloc]
  have hq1 : ((w.alloc (.cells #[.pointer (some ⟨mp, 0, none⟩)] 26 (0, 0))).alloc (.cells #[.int .u8 dO, .int .u8 A8, .int .u8 B8, .slice As ns cs, .int .i8 nn, .int .u64 bits] 34 (0, 0))).heap[w.heap.size]? = some (.cells #[.pointer (some ⟨mp, 0, none⟩)] 26 (0, 0)) := heap_alloc_keep (heap_alloc_new _ _) _
  have hq2 : ((w.alloc (.cells #[.pointer (some ⟨mp, 0, none⟩)] 26 (0, 0))).alloc (.cells #[.int .u8 dO, .int .u8 A8, .int .u8 B8, .slice As ns cs, .int .i8 nn, .int .u64 bits] 34 (0, 0))).heap[w.heap.size + 1]? = some (.cells #[.int .u8 dO, .int .u8 A8, .int .u8 B8, .slice As ns cs, .int .i8 nn, .int .u64 bits] 34 (0, 0)) := by
    have := heap_alloc_new (w.alloc (.cells #[.pointer (some ⟨mp, 0, none⟩)] 26 (0, 0))) (.cells #[.int .u8 dO, .int .u8 A8, .int .u8 B8, .slice As ns cs, .int .i8 nn, .int .u64 bits] 34 (0, 0))
    rw [World.size_alloc] at this
    exact this
  generalize (w.alloc (.cells #[.pointer (some ⟨mp, 0, none⟩)] 26 (0, 0))).alloc (.cells #[.int .u8 dO, .int .u8 A8, .int .u8 B8, .slice As ns cs, .int .i8 nn, .int .u64 bits] 34 (0, 0)) = w2 at *
  obtain ⟨qm, hqm⟩ : ∃ qm, qm = w.heap.size := ⟨_, rfl⟩
  rw [← hqm] at hq1 hq2 ⊢
  obtain ⟨qs, hqs⟩ : ∃ qs, qs = qm + 1 := ⟨_, rfl⟩
  rw [← hqs] at hq2 ⊢
  have hqm1 : w.heap.size ≤ qm := by omega
  have hqm2 : qm < qs := by omega
  have hqs2 : qs < w2.heap.size := by omega
  clear hqm hqs hs2
  have HQ1 := Lib.hid hq1
  have HQ2 := Lib.hid hq2
  have m1 : w2.cell? ⟨qm, 0, none⟩ = some (.pointer (some ⟨mp, 0, none⟩)) := by rw [cell_of_blk hq1]; rfl
  have s0 : w2.cell? ⟨qs, 0, none⟩ = some (.int .u8 dO) := by rw [cell_of_blk hq2]; rfl
  have s1 : w2.cell? ⟨qs, 1, none⟩ = some (.int .u8 A8) := by rw [cell_of_blk hq2]; rfl
  have s2 : w2.cell? ⟨qs, 2, none⟩ = some (.int .u8 B8) := by rw [cell_of_blk hq2]; rfl
  have s3 : w2.cell? ⟨qs, 3, none⟩ = some (.slice As ns cs) := by rw [cell_of_blk hq2]; rfl
  have s4 : w2.cell? ⟨qs, 4, none⟩ = some (.int .i8 nn) := by rw [cell_of_blk hq2]; rfl
  have n0 : w2.cell? ⟨0, 0, none⟩ = some (.slice (some na) 4 nc) := cellk hb2 (by show 0 < w.heap.size; have := hn.lt; omega) hn1
  have n1 : w2.cell? (na.add iA) = some (txt kA) := cellk hb2 (by rw [block_of_add]; omega) hnA
  have n2 : w2.cell? (na.add iB) = some (txt kB) := cellk hb2 (by rw [block_of_add]; omega) hnB
  have i0 : (0 : Int) ≤ (iA : Int) := by omega
  have i1 : (iA : Int) < 4 := by omega
  have i2 : (0 : Int) ≤ (iB : Int) := by omega
  have i3 : (iB : Int) < 4 := by omega
  clear hq1 hq2 hnA hnB hn1 hn
  go_region_held3 (fun w' => w'.cell? ⟨qs, 1, none⟩ = some (.int .u8 A8) ∧ w'.cell? ⟨qs, 2, none⟩ = some (.int .u8 B8) ∧ w'.cell? ⟨0, 0, none⟩ = some (.slice (some na) 4 nc) ∧ w'.cell? (na.add iA) = some (txt kA) ∧ w'.cell? (na.add iB) = some (txt kB)) (first | exact ⟨s1, s2, n0, n1, n2⟩ | go_keep) (fail)
  clear s1 s2 n0 n1 n2 i0 i1 i2 i3
  obtain ⟨V, hm⟩ := HM.out
  have hm2 := hm.below hb2
  have HMap := Lib.hid hm2.map
  have hmt := hm2.lt
  have c0 : w2.cell? ⟨mp, 0, none⟩ = some (.map (some mb)) := hm2.c0
  have HR := Lib.hid (show ((F kA).map fun x => fileV (V kA) x.2) = none by rw [HF.out]; rfl)
  have HM2 := Lib.hid hm2
  clear hm hm2
  go_wp2_with (at_lookup; (refine wpList_look rfl _ _ 27 rfl 43 Tryd.underlying27 (zeroF' _) mb N _ rfl HMap.out kA rfl hkl _ HR.out ?_))
  have hba := ((Below.refl w2.heap.size w2).alloc (Nat.le_refl _) (.cells #[.slice none 0 0, .int .i64 0] 43 (0, 0))).drew
  have hqf := heap_alloc_new w2 (.cells #[.slice none 0 0, .int .i64 0] 43 (0, 0))
  have hsa := World.size_alloc w2 (.cells #[.slice none 0 0, .int .i64 0] 43 (0, 0))
  obtain ⟨qf, hqe⟩ : ∃ qf, qf = w2.heap.size := ⟨_, rfl⟩
  have hz2 := hb2.size
  have hltD := HD.out.lt
  have hltM : ∀ g, D g → g < w.heap.size := fun g hg => HM.out.lt hg
  have HB3 := Lib.hid (hb2.trans (hba.mono (by omega)))
  have HQ13 := Lib.hid ((hba.block _ (by omega)).trans HQ1.out)
  have HQ23 := Lib.hid ((hba.block _ (by omega)).trans HQ2.out)
  have HQ33 := Lib.hid (show ((w2.alloc (.cells #[.slice none 0 0, .int .i64 0] 43 (0, 0))).drew).heap[qf]? = some (.cells #[.slice none 0 0, .int .i64 0] 43 (0, 0)) by rw [hqe]; exact hqf)
  have HM3 := Lib.hid (HM2.out.below hba)
  have HD3 := Lib.hid ((HD.out.below hb2).below hba)
  have hs3 : ((w2.alloc (.cells #[.slice none 0 0, .int .i64 0] 43 (0, 0))).drew).heap.size = qf + 1 := by rw [hqe]; exact hsa
  rw [← hqe] at ⊢
  generalize (w2.alloc (.cells #[.slice none 0 0, .int .i64 0] 43 (0, 0))).drew = w3 at *
  have hqf1 : w.heap.size ≤ qf := by omega
  have hqsf : qs < qf := by omega
  have hnt : ∀ g, w.heap.size ≤ g → ¬ TouchD C pw g := fun g hg h => by have := hltD g h; omega
  have hnd : ∀ g, D g → ¬ TouchD C pw g := fun g hg h => by
    rcases h with h | h
    · exact hcd g h hg
    · exact hdp (h ▸ hg)
  have hqd : ∀ g, w.heap.size ≤ g → ¬ D g := fun g hg h => by have := hltM g h; omega
  have HNT := Lib.hid hnt
  have HND := Lib.hid hnd
  have HQD := Lib.hid hqd
  clear hba hqf hsa hqe HQ1 HQ2 HMap HM2 m1 s0 s3 s4 c0 hnt hnd hqd hmt HR
  obtain ⟨Nd, _, hdk⟩ := HD3.out.disk
  refine (cutNone C Nd a pw room F kA nn w3 hdk hkl HF.out).mono ?_
  rintro e w4 ⟨rfl, rfl⟩
  clear hdk
  go_wp2_with (fail)
  go_ret
  exact retB_same (t := t) ⟨HD.out.below HB3.out, HM.out.below HB3.out, hcd, hdp, hdb⟩ hnb HB3.out
set_option maxHeartbeats 4000000 in
set_option maxRecDepth 100000 in
theorem doCutR (B B' nb a pw t N mp mb dO A8 B8 bits ns cs : Nat) (As : Option Addr) (C D : Nat → Prop) (l u room nn : Int) (F : Files) (bs : List UInt8) (kept : Nat) (w : World) (h : Both B w C D nb N a pw mp mb l u room F t) (hn : NamesLaid w B') (_hB' : B' ≤ w.heap.size) (_hd8 : dO < 256) (hA8 : A8 < 256) (hB8 : B8 < 256) (hnb : nb < 1000000) (_hN : N < 1000000) (hdo : dO % 8 = 6) (hF : F (nameAt A8) = some (bs, kept)) (_hn0 : -128 ≤ nn) (hn1 : nn ≤ 127) (hr : nn < 0 ∨ (bs.length : Int) < nn) :
    Calls Tryd.prog 7 #[.pointer (some ⟨mp, 0, none⟩), .pointer (some ⟨a, 0, none⟩), stepV dO A8 B8 (.slice As ns cs) nn bits] w (RetB w B C D (nb + 1) (N + 1) a pw mp mb l u room) := by
  obtain ⟨na, nc, hn1, hn2, hn3⟩ := hn.at_
  have hnA := hn3 A8
  have hnB := hn3 B8
  obtain ⟨kA, hkA⟩ : ∃ kA, kA = nameAt A8 := ⟨_, rfl⟩
  obtain ⟨kB, hkB⟩ : ∃ kB, kB = nameAt B8 := ⟨_, rfl⟩
  obtain ⟨iA, hiA⟩ : ∃ iA, iA = A8 % 4 := ⟨_, rfl⟩
  obtain ⟨iB, hiB⟩ : ∃ iB, iB = B8 % 4 := ⟨_, rfl⟩
  rw [← hkA, ← hiA] at hnA
  rw [← hkB, ← hiB] at hnB
  have hA1 : (A8 : Int) % 4 = (iA : Int) := by omega
  have hA2 : (A8 : Int).tmod 4 = (iA : Int) := by rw [Int.tmod_eq_emod_of_nonneg (by omega)]; exact hA1
  have hA3 : IntKind.u8.wrap (iA : Int) = (iA : Int) := IntWalk.u8_in _ (by omega)
  have hB1 : (B8 : Int) % 4 = (iB : Int) := by omega
  have hB2 : (B8 : Int).tmod 4 = (iB : Int) := by rw [Int.tmod_eq_emod_of_nonneg (by omega)]; exact hB1
  have hB3 : IntKind.u8.wrap (iB : Int) = (iB : Int) := IntWalk.u8_in _ (by omega)
  have hiA4 : iA < 4 := by omega
  have hiB4 : iB < 4 := by omega
  have hO1 : (dO : Int) % 8 = 6 := by omega
  have hO2 : (dO : Int).tmod 8 = 6 := by rw [Int.tmod_eq_emod_of_nonneg (by omega)]; exact hO1
  have hO3 : IntKind.u8.wrap 6 = 6 := IntWalk.u8_in _ (by omega)
  have hw8 : IntKind.i64.wrap nn = nn := IntWalk.i64_in _ (by omega)
  clear hiA hiB hn3
  have HD := Lib.hid h.ds
  have HM := Lib.hid h.md
  have hcd := h.cd
  have hdp := h.dp
  have hdb := h.db
  have hF' : F kA = some (bs, kept) := by rw [hkA]; exact hF
  have HF := Lib.hid hF'
  have hkl : kA.length ≤ maxLen := by rw [hkA]; exact nameAt_len _
  have hkl2 : kB.length ≤ maxLen := by rw [hkB]; exact nameAt_len _
  have hBw := HD.out.size
  clear h hF hF' hkA hkB
  unfold stepV
  go_enter Tryd.func7, Tryd.ntmps7
  go_wp2_with (fail)
  have hb2 := ((Below.refl w.heap.size w).alloc (Nat.le_refl _) (.cells #[.pointer (some ⟨mp, 0, none⟩)] 26 (0, 0))).alloc (by rw [World.size_alloc]; omega) (.cells #[.int .u8 dO, .int .u8 A8, .int .u8 B8, .slice As ns cs, .int .i8 nn, .int .u64 bits] 34 (0, 0))
  have hs2 : ((w.alloc (.cells #[.pointer (some ⟨mp, 0, none⟩)] 26 (0, 0))).alloc (.cells #[.int .u8 dO, .int .u8 A8, .int .u8 B8, .slice As ns cs, .int .i8 nn, .int .u64 bits] 34 (0, 0))).heap.size = w.heap.size + 2 := by rw [World.size_alloc, World.size_alloc]
  have hq1 : ((w.alloc (.cells #[.pointer (some ⟨mp, 0, none⟩)] 26 (0, 0))).alloc (.cells #[.int .u8 dO, .int .u8 A8, .int .u8 B8, .slice As ns cs, .int .i8 nn, .int .u64 bits] 34 (0, 0))).heap[w.heap.size]? = some (.cells #[.pointer (some ⟨mp, 0, none⟩)] 26 (0, 0)) := heap_alloc_keep (heap_alloc_new _ _) _
  have hq2 : ((w.alloc (.cells #[.pointer (some ⟨mp, 0, none⟩)] 26 (0, 0))).alloc (.cells #[.int .u8 dO, .int .u8 A8, .int .u8 B8, .slice As ns cs, .int .i8 nn, .int .u64 bits] 34 (0, 0))).heap[w.heap.size + 1]? = some (.cells #[.int .u8 dO, .int .u8 A8, .int .u8 B8, .slice As ns cs, .int .i8 nn, .int .u64 bits] 34 (0, 0)) := by
    have := heap_alloc_new (w.alloc (.cells #[.pointer (some ⟨mp, 0, none⟩)] 26 (0, 0))) (.cells #[.int .u8 dO, .int .u8 A8, .int .u8 B8, .slice As ns cs, .int .i8 nn, .int .u64 bits] 34 (0, 0))
    rw [World.size_alloc] at this
    exact this
  generalize (w.alloc (.cells #[.pointer (some ⟨mp, 0, none⟩)] 26 (0, 0))).alloc (.cells #[.int .u8 dO, .int .u8 A8, .int .u8 B8, .slice As ns cs, .int .i8 nn, .int .u64 bits] 34 (0, 0)) = w2 at *
  obtain ⟨qm, hqm⟩ : ∃ qm, qm = w.heap.size := ⟨_, rfl⟩
  rw [← hqm] at hq1 hq2 ⊢
  obtain ⟨qs, hqs⟩ : ∃ qs, qs = qm + 1 := ⟨_, rfl⟩
  rw [← hqs] at hq2 ⊢
  have hqm1 : w.heap.size ≤ qm := by omega
  have hqm2 : qm < qs := by omega
  have hqs2 : qs < w2.heap.size := by omega
  clear hqm hqs hs2
  have HQ1 := Lib.hid hq1
  have HQ2 := Lib.hid hq2
  have m1 : w2.cell? ⟨qm, 0, none⟩ = some (.pointer (some ⟨mp, 0, none⟩)) := by rw [cell_of_blk hq1]; rfl
  have s0 : w2.cell? ⟨qs, 0, none⟩ = some (.int .u8 dO) := by rw [cell_of_blk hq2]; rfl
  have s1 : w2.cell? ⟨qs, 1, none⟩ = some (.int .u8 A8) := by rw [cell_of_blk hq2]; rfl
  have s2 : w2.cell? ⟨qs, 2, none⟩ = some (.int .u8 B8) := by rw [cell_of_blk hq2]; rfl
  have s3 : w2.cell? ⟨qs, 3, none⟩ = some (.slice As ns cs) := by rw [cell_of_blk hq2]; rfl
  have s4 : w2.cell? ⟨qs, 4, none⟩ = some (.int .i8 nn) := by rw [cell_of_blk hq2]; rfl
  have n0 : w2.cell? ⟨0, 0, none⟩ = some (.slice (some na) 4 nc) := cellk hb2 (by show 0 < w.heap.size; have := hn.lt; omega) hn1
  have n1 : w2.cell? (na.add iA) = some (txt kA) := cellk hb2 (by rw [block_of_add]; omega) hnA
  have n2 : w2.cell? (na.add iB) = some (txt kB) := cellk hb2 (by rw [block_of_add]; omega) hnB
  have i0 : (0 : Int) ≤ (iA : Int) := by omega
  have i1 : (iA : Int) < 4 := by omega
  have i2 : (0 : Int) ≤ (iB : Int) := by omega
  have i3 : (iB : Int) < 4 := by omega
  clear hq1 hq2 hnA hnB hn1 hn
  go_region_held3 (fun w' => w'.cell? ⟨qs, 1, none⟩ = some (.int .u8 A8) ∧ w'.cell? ⟨qs, 2, none⟩ = some (.int .u8 B8) ∧ w'.cell? ⟨0, 0, none⟩ = some (.slice (some na) 4 nc) ∧ w'.cell? (na.add iA) = some (txt kA) ∧ w'.cell? (na.add iB) = some (txt kB)) (first | exact ⟨s1, s2, n0, n1, n2⟩ | go_keep) (fail)
  clear s1 s2 n0 n1 n2 i0 i1 i2 i3
  obtain ⟨V, hm⟩ := HM.out
  have hm2 := hm.below hb2
  have HMap := Lib.hid hm2.map
  have hmt := hm2.lt
  have c0 : w2.cell? ⟨mp, 0, none⟩ = some (.map (some mb)) := hm2.c0
  obtain ⟨hrow, hown⟩ := hm2.file kA bs kept HF.out
  obtain ⟨Af, cf, hVf, hcf⟩ := hrow.form
  obtain ⟨nf, hnf⟩ : ∃ nf, nf = bs.length := ⟨_, rfl⟩
  rw [← hnf] at hVf hcf
  obtain ⟨kf, hkf⟩ : ∃ kf : Nat, kf = kept := ⟨_, rfl⟩
  have hr : ((F kA).map fun x => fileV (V kA) x.2) = some (.agg #[.slice Af nf cf, .int .i64 kf]) := by rw [HF.out, hkf]; simp [fileV, hVf]
  have HR := Lib.hid hr
  have HVF := Lib.hid hVf
  have HNF := Lib.hid hnf
  have HKF := Lib.hid hkf
  clear hr hVf hnf hkf hrow hown
  have HM2 := Lib.hid hm2
  clear hm hm2
  go_wp2_with (at_lookup; (refine wpList_look rfl _ _ 27 rfl 43 Tryd.underlying27 (zeroF' _) mb N _ rfl HMap.out kA rfl hkl _ HR.out ?_))
  have hba := ((Below.refl w2.heap.size w2).alloc (Nat.le_refl _) (.cells #[.slice Af nf cf, .int .i64 kf] 43 (0, 0))).drew
  have hqf := heap_alloc_new w2 (.cells #[.slice Af nf cf, .int .i64 kf] 43 (0, 0))
  have hsa := World.size_alloc w2 (.cells #[.slice Af nf cf, .int .i64 kf] 43 (0, 0))
  obtain ⟨qf, hqe⟩ : ∃ qf, qf = w2.heap.size := ⟨_, rfl⟩
  have hz2 := hb2.size
  have hltD := HD.out.lt
  have hltM : ∀ g, D g → g < w.heap.size := fun g hg => HM.out.lt hg
  have HB3 := Lib.hid (hb2.trans (hba.mono (by omega)))
  have HQ13 := Lib.hid ((hba.block _ (by omega)).trans HQ1.out)
  have HQ23 := Lib.hid ((hba.block _ (by omega)).trans HQ2.out)
  have HQ33 := Lib.hid (show ((w2.alloc (.cells #[.slice Af nf cf, .int .i64 kf] 43 (0, 0))).drew).heap[qf]? = some (.cells #[.slice Af nf cf, .int .i64 kf] 43 (0, 0)) by rw [hqe]; exact hqf)
  have HM3 := Lib.hid (HM2.out.below hba)
  have HD3 := Lib.hid ((HD.out.below hb2).below hba)
  have hs3 : ((w2.alloc (.cells #[.slice Af nf cf, .int .i64 kf] 43 (0, 0))).drew).heap.size = qf + 1 := by rw [hqe]; exact hsa
  rw [← hqe] at ⊢
  generalize (w2.alloc (.cells #[.slice Af nf cf, .int .i64 kf] 43 (0, 0))).drew = w3 at *
  have hqf1 : w.heap.size ≤ qf := by omega
  have hqsf : qs < qf := by omega
  have hnt : ∀ g, w.heap.size ≤ g → ¬ TouchD C pw g := fun g hg h => by have := hltD g h; omega
  have hnd : ∀ g, D g → ¬ TouchD C pw g := fun g hg h => by
    rcases h with h | h
    · exact hcd g h hg
    · exact hdp (h ▸ hg)
  have hqd : ∀ g, w.heap.size ≤ g → ¬ D g := fun g hg h => by have := hltM g h; omega
  have HNT := Lib.hid hnt
  have HND := Lib.hid hnd
  have HQD := Lib.hid hqd
  clear hba hqf hsa hqe HQ1 HQ2 HMap HM2 m1 s0 s3 s4 c0 hnt hnd hqd hmt HR
  obtain ⟨Nd, _, hdk⟩ := HD3.out.disk
  refine (cutRange C Nd a pw room nn F kA bs kept w3 hdk hkl HF.out hr).mono ?_
  rintro e w4 ⟨rfl, rfl⟩
  clear hdk
  have s4 : w4.cell? ⟨qs, 4, none⟩ = some (.int .i8 nn) := by rw [cell_of_blk HQ23.out]; rfl
  have f0 : w4.cell? ⟨qf, 0, none⟩ = some (.slice Af nf cf) := by rw [cell_of_blk HQ33.out]; rfl
  have hnl := HNF.out
  rw [← hnl] at hr
  clear hnl
  by_cases h0 : nn < 0
  · have g0 : decide (nn < 0) = true := decide_eq_true h0
    go_wp2_with (fail)
    go_ret
    refine retB_same (t := t) ⟨HD.out.below ?_, HM.out.below ?_, hcd, hdp, hdb⟩ hnb ?_ <;> (first | exact HB3.out | exact HB3.out.drew | exact bdrewN HB3.out _)
  · have g0 : decide (nn < 0) = false := decide_eq_false h0
    have g1 : decide ((nf : Int) < nn) = true := decide_eq_true (hr.resolve_left h0)
    go_wp2_with (fail)
    go_ret
    refine retB_same (t := t) ⟨HD.out.below ?_, HM.out.below ?_, hcd, hdp, hdb⟩ hnb ?_ <;> (first | exact HB3.out | exact HB3.out.drew | exact bdrewN HB3.out _)
set_option maxHeartbeats 4000000 in
set_option maxRecDepth 100000 in
theorem doCut (B B' nb a pw t N mp mb dO A8 B8 bits ns cs : Nat) (As : Option Addr) (C D : Nat → Prop) (l u room : Int) (F : Files) (bs : List UInt8) (kept : Nat) (m : Nat) (w : World) (h : Both B w C D nb N a pw mp mb l u room F t) (hn : NamesLaid w B') (_hB' : B' ≤ w.heap.size) (_hd8 : dO < 256) (hA8 : A8 < 256) (hB8 : B8 < 256) (hnb : nb < 1000000) (_hN : N < 1000000) (hdo : dO % 8 = 6) (hF : F (nameAt A8) = some (bs, kept)) (hl : l < 0 ∨ u < l) (hm1 : m ≤ bs.length) (hm2 : m ≤ 127) (_hsm : bs.length ≤ 1000000) :
    Calls Tryd.prog 7 #[.pointer (some ⟨mp, 0, none⟩), .pointer (some ⟨a, 0, none⟩), stepV dO A8 B8 (.slice As ns cs) (m : Int) bits] w (RetB w B C D (nb + 1) (N + 1) a pw mp mb l (u + 1) room) := by
  obtain ⟨na, nc, hn1, hn2, hn3⟩ := hn.at_
  have hnA := hn3 A8
  have hnB := hn3 B8
  obtain ⟨kA, hkA⟩ : ∃ kA, kA = nameAt A8 := ⟨_, rfl⟩
  obtain ⟨kB, hkB⟩ : ∃ kB, kB = nameAt B8 := ⟨_, rfl⟩
  obtain ⟨iA, hiA⟩ : ∃ iA, iA = A8 % 4 := ⟨_, rfl⟩
  obtain ⟨iB, hiB⟩ : ∃ iB, iB = B8 % 4 := ⟨_, rfl⟩
  rw [← hkA, ← hiA] at hnA
  rw [← hkB, ← hiB] at hnB
  have hA1 : (A8 : Int) % 4 = (iA : Int) := by omega
  have hA2 : (A8 : Int).tmod 4 = (iA : Int) := by rw [Int.tmod_eq_emod_of_nonneg (by omega)]; exact hA1
  have hA3 : IntKind.u8.wrap (iA : Int) = (iA : Int) := IntWalk.u8_in _ (by omega)
  have hB1 : (B8 : Int) % 4 = (iB : Int) := by omega
  have hB2 : (B8 : Int).tmod 4 = (iB : Int) := by rw [Int.tmod_eq_emod_of_nonneg (by omega)]; exact hB1
  have hB3 : IntKind.u8.wrap (iB : Int) = (iB : Int) := IntWalk.u8_in _ (by omega)
  have hiA4 : iA < 4 := by omega
  have hiB4 : iB < 4 := by omega
  have hO1 : (dO : Int) % 8 = 6 := by omega
  have hO2 : (dO : Int).tmod 8 = 6 := by rw [Int.tmod_eq_emod_of_nonneg (by omega)]; exact hO1
  have hO3 : IntKind.u8.wrap 6 = 6 := IntWalk.u8_in _ (by omega)
  have hw8 : IntKind.i64.wrap (m : Int) = (m : Int) := IntWalk.i64_in _ (by omega)
  clear hiA hiB hn3
  have HD := Lib.hid h.ds
  have HM := Lib.hid h.md
  have hcd := h.cd
  have hdp := h.dp
  have hdb := h.db
  have hF' : F kA = some (bs, kept) := by rw [hkA]; exact hF
  have HF := Lib.hid hF'
  have hkl : kA.length ≤ maxLen := by rw [hkA]; exact nameAt_len _
  have hkl2 : kB.length ≤ maxLen := by rw [hkB]; exact nameAt_len _
  have hBw := HD.out.size
  clear h hF hF' hkA hkB
  unfold stepV
  go_enter Tryd.func7, Tryd.ntmps7
  go_wp2_with (fail)
  have hb2 := ((Below.refl w.heap.size w).alloc (Nat.le_refl _) (.cells #[.pointer (some ⟨mp, 0, none⟩)] 26 (0, 0))).alloc (by rw [World.size_alloc]; omega) (.cells #[.int .u8 dO, .int .u8 A8, .int .u8 B8, .slice As ns cs, .int .i8 (m : Int), .int .u64 bits] 34 (0, 0))
  have hs2 : ((w.alloc (.cells #[.pointer (some ⟨mp, 0, none⟩)] 26 (0, 0))).alloc (.cells #[.int .u8 dO, .int .u8 A8, .int .u8 B8, .slice As ns cs, .int .i8 (m : Int), .int .u64 bits] 34 (0, 0))).heap.size = w.heap.size + 2 := by rw [World.size_alloc, World.size_alloc]
  have hq1 : ((w.alloc (.cells #[.pointer (some ⟨mp, 0, none⟩)] 26 (0, 0))).alloc (.cells #[.int .u8 dO, .int .u8 A8, .int .u8 B8, .slice As ns cs, .int .i8 (m : Int), .int .u64 bits] 34 (0, 0))).heap[w.heap.size]? = some (.cells #[.pointer (some ⟨mp, 0, none⟩)] 26 (0, 0)) := heap_alloc_keep (heap_alloc_new _ _) _
  have hq2 : ((w.alloc (.cells #[.pointer (some ⟨mp, 0, none⟩)] 26 (0, 0))).alloc (.cells #[.int .u8 dO, .int .u8 A8, .int .u8 B8, .slice As ns cs, .int .i8 (m : Int), .int .u64 bits] 34 (0, 0))).heap[w.heap.size + 1]? = some (.cells #[.int .u8 dO, .int .u8 A8, .int .u8 B8, .slice As ns cs, .int .i8 (m : Int), .int .u64 bits] 34 (0, 0)) := by
    have := heap_alloc_new (w.alloc (.cells #[.pointer (some ⟨mp, 0, none⟩)] 26 (0, 0))) (.cells #[.int .u8 dO, .int .u8 A8, .int .u8 B8, .slice As ns cs, .int .i8 (m : Int), .int .u64 bits] 34 (0, 0))
    rw [World.size_alloc] at this
    exact this
  generalize (w.alloc (.cells #[.pointer (some ⟨mp, 0, none⟩)] 26 (0, 0))).alloc (.cells #[.int .u8 dO, .int .u8 A8, .int .u8 B8, .slice As ns cs, .int .i8 (m : Int), .int .u64 bits] 34 (0, 0)) = w2 at *
  obtain ⟨qm, hqm⟩ : ∃ qm, qm = w.heap.size := ⟨_, rfl⟩
  rw [← hqm] at hq1 hq2 ⊢
  obtain ⟨qs, hqs⟩ : ∃ qs, qs = qm + 1 := ⟨_, rfl⟩
  rw [← hqs] at hq2 ⊢
  have hqm1 : w.heap.size ≤ qm := by omega
  have hqm2 : qm < qs := by omega
  have hqs2 : qs < w2.heap.size := by omega
  clear hqm hqs hs2
  have HQ1 := Lib.hid hq1
  have HQ2 := Lib.hid hq2
  have m1 : w2.cell? ⟨qm, 0, none⟩ = some (.pointer (some ⟨mp, 0, none⟩)) := by rw [cell_of_blk hq1]; rfl
  have s0 : w2.cell? ⟨qs, 0, none⟩ = some (.int .u8 dO) := by rw [cell_of_blk hq2]; rfl
  have s1 : w2.cell? ⟨qs, 1, none⟩ = some (.int .u8 A8) := by rw [cell_of_blk hq2]; rfl
  have s2 : w2.cell? ⟨qs, 2, none⟩ = some (.int .u8 B8) := by rw [cell_of_blk hq2]; rfl
  have s3 : w2.cell? ⟨qs, 3, none⟩ = some (.slice As ns cs) := by rw [cell_of_blk hq2]; rfl
  have s4 : w2.cell? ⟨qs, 4, none⟩ = some (.int .i8 (m : Int)) := by rw [cell_of_blk hq2]; rfl
  have n0 : w2.cell? ⟨0, 0, none⟩ = some (.slice (some na) 4 nc) := cellk hb2 (by show 0 < w.heap.size; have := hn.lt; omega) hn1
  have n1 : w2.cell? (na.add iA) = some (txt kA) := cellk hb2 (by rw [block_of_add]; omega) hnA
  have n2 : w2.cell? (na.add iB) = some (txt kB) := cellk hb2 (by rw [block_of_add]; omega) hnB
  have i0 : (0 : Int) ≤ (iA : Int) := by omega
  have i1 : (iA : Int) < 4 := by omega
  have i2 : (0 : Int) ≤ (iB : Int) := by omega
  have i3 : (iB : Int) < 4 := by omega
  clear hq1 hq2 hnA hnB hn1 hn
  go_region_held3 (fun w' => w'.cell? ⟨qs, 1, none⟩ = some (.int .u8 A8) ∧ w'.cell? ⟨qs, 2, none⟩ = some (.int .u8 B8) ∧ w'.cell? ⟨0, 0, none⟩ = some (.slice (some na) 4 nc) ∧ w'.cell? (na.add iA) = some (txt kA) ∧ w'.cell? (na.add iB) = some (txt kB)) (first | exact ⟨s1, s2, n0, n1, n2⟩ | go_keep) (fail)
  clear s1 s2 n0 n1 n2 i0 i1 i2 i3
  obtain ⟨V, hm⟩ := HM.out
  have hm2 := hm.below hb2
  have HMap := Lib.hid hm2.map
  have hmt := hm2.lt
  have c0 : w2.cell? ⟨mp, 0, none⟩ = some (.map (some mb)) := hm2.c0
  obtain ⟨hrow, hown⟩ := hm2.file kA bs kept HF.out
  obtain ⟨Af, cf, hVf, hcf⟩ := hrow.form
  obtain ⟨nf, hnf⟩ : ∃ nf, nf = bs.length := ⟨_, rfl⟩
  rw [← hnf] at hVf hcf
  obtain ⟨kf, hkf⟩ : ∃ kf : Nat, kf = kept := ⟨_, rfl⟩
  have hr : ((F kA).map fun x => fileV (V kA) x.2) = some (.agg #[.slice Af nf cf, .int .i64 kf]) := by rw [HF.out, hkf]; simp [fileV, hVf]
  have HR := Lib.hid hr
  have HVF := Lib.hid hVf
  have HNF := Lib.hid hnf
  have HKF := Lib.hid hkf
  clear hr hVf hnf hkf hrow hown
  have HM2 := Lib.hid hm2
  clear hm hm2
  go_wp2_with (at_lookup; (refine wpList_look rfl _ _ 27 rfl 43 Tryd.underlying27 (zeroF' _) mb N _ rfl HMap.out kA rfl hkl _ HR.out ?_))
  have hba := ((Below.refl w2.heap.size w2).alloc (Nat.le_refl _) (.cells #[.slice Af nf cf, .int .i64 kf] 43 (0, 0))).drew
  have hqf := heap_alloc_new w2 (.cells #[.slice Af nf cf, .int .i64 kf] 43 (0, 0))
  have hsa := World.size_alloc w2 (.cells #[.slice Af nf cf, .int .i64 kf] 43 (0, 0))
  obtain ⟨qf, hqe⟩ : ∃ qf, qf = w2.heap.size := ⟨_, rfl⟩
  have hz2 := hb2.size
  have hltD := HD.out.lt
  have hltM : ∀ g, D g → g < w.heap.size := fun g hg => HM.out.lt hg
  have HB3 := Lib.hid (hb2.trans (hba.mono (by omega)))
  have HQ13 := Lib.hid ((hba.block _ (by omega)).trans HQ1.out)
  have HQ23 := Lib.hid ((hba.block _ (by omega)).trans HQ2.out)
  have HQ33 := Lib.hid (show ((w2.alloc (.cells #[.slice Af nf cf, .int .i64 kf] 43 (0, 0))).drew).heap[qf]? = some (.cells #[.slice Af nf cf, .int .i64 kf] 43 (0, 0)) by rw [hqe]; exact hqf)
  have HM3 := Lib.hid (HM2.out.below hba)
  have HD3 := Lib.hid ((HD.out.below hb2).below hba)
  have hs3 : ((w2.alloc (.cells #[.slice Af nf cf, .int .i64 kf] 43 (0, 0))).drew).heap.size = qf + 1 := by rw [hqe]; exact hsa
  rw [← hqe] at ⊢
  generalize (w2.alloc (.cells #[.slice Af nf cf, .int .i64 kf] 43 (0, 0))).drew = w3 at *
  have hqf1 : w.heap.size ≤ qf := by omega
  have hqsf : qs < qf := by omega
  have hnt : ∀ g, w.heap.size ≤ g → ¬ TouchD C pw g := fun g hg h => by have := hltD g h; omega
  have hnd : ∀ g, D g → ¬ TouchD C pw g := fun g hg h => by
    rcases h with h | h
    · exact hcd g h hg
    · exact hdp (h ▸ hg)
  have hqd : ∀ g, w.heap.size ≤ g → ¬ D g := fun g hg h => by have := hltM g h; omega
  have HNT := Lib.hid hnt
  have HND := Lib.hid hnd
  have HQD := Lib.hid hqd
  clear hba hqf hsa hqe HQ1 HQ2 HMap HM2 m1 s0 s3 s4 c0 hnt hnd hqd hmt HR
  have hnl := HNF.out
  refine (dsCut B C nb a pw t m l u room F kA bs kept w3 HD3.out hnb hl hkl HF.out hm1).mono ?_
  rintro e w4 ⟨rfl, C4, hd4, hc4, hm4, _⟩
  rw [← hnl] at hm1
  clear hnl
  have hz4 := hm4.size
  have HQ14 := Lib.hid (hm4.blk HQ13.out (HNT.out _ (by omega)))
  have HQ24 := Lib.hid (hm4.blk HQ23.out (HNT.out _ (by omega)))
  have HQ34 := Lib.hid (hm4.blk HQ33.out (HNT.out _ (by omega)))
  have HM4 := Lib.hid (HM3.out.mod hm4 HND.out)
  have HMO := Lib.hid ((Mod.of_below (F := TouchD C pw) HB3.out).trans hm4 (fun _ _ h => h))
  have HD4 := Lib.hid hd4
  have HCQ := Lib.hid (show ¬ C4 qf from fun h => by
    rcases hc4 qf h with h | h
    · exact HNT.out qf hqf1 (.inl h)
    · omega)
  have HC4 := Lib.hid (show ∀ g, C4 g → C g ∨ w.heap.size ≤ g from fun g hg => by
    rcases hc4 g hg with h | h
    · exact .inl h
    · exact .inr (by omega))
  clear hm4 hd4 hc4 HQ13 HQ23 HQ33 HM3 HD3
  have HMap4 := Lib.hid HM4.out.map
  have m4 : w4.cell? ⟨qm, 0, none⟩ = some (.pointer (some ⟨mp, 0, none⟩)) := by rw [cell_of_blk HQ14.out]; rfl
  have c4 : w4.cell? ⟨mp, 0, none⟩ = some (.map (some mb)) := HM4.out.c0
  have f0 : w4.cell? ⟨qf, 0, none⟩ = some (.slice Af nf cf) := by rw [cell_of_blk HQ34.out]; rfl
  have f1 : w4.cell? ⟨qf, 1, none⟩ = some (.int .i64 kf) := by rw [cell_of_blk HQ34.out]; rfl
  have g1 : w4.frozen? ⟨qf, 1, none⟩ = false := frozen_of_blk HQ34.out 1
  have hdl4 := HM4.out.lt
  have s4 : w4.cell? ⟨qs, 4, none⟩ = some (.int .i8 (m : Int)) := by rw [cell_of_blk HQ24.out]; rfl
  have g0 : decide ((m : Int) < 0) = false := decide_eq_false (by omega)
  have g2 : decide ((nf : Int) < (m : Int)) = false := decide_eq_false (by omega)
  have j0 : (0 : Int) ≤ (m : Int) := by omega
  have j1 : (m : Int) ≤ (cf : Int) := by omega
  have j2 : m ≤ cf := by omega
  have hrow4 := (HM4.out.file kA bs kept HF.out).1
  rw [HVF.out, ← HNF.out] at hrow4
  have hrd := reads_pre4 hrow4.reads hm1
  have HRD := Lib.hid hrd
  have hmbl := hltM mb HM4.out.db
  have hq1 : mb ≠ qm := by omega
  have hq2 : mb ≠ qs := by omega
  have hq3 : mb ≠ qf := by omega
  have hS4 : (w4.cell? ⟨qm, 0, none⟩ = some (.pointer (some ⟨mp, 0, none⟩)) ∧ w4.cell? ⟨mp, 0, none⟩ = some (.map (some mb)) ∧ w4.cell? ⟨qf, 0, none⟩ = some (.slice Af nf cf) ∧ w4.cell? ⟨qf, 1, none⟩ = some (.int .i64 kf) ∧ w4.cell? ⟨qs, 3, none⟩ = some (.slice As ns cs) ∧ w4.cell? ⟨qs, 4, none⟩ = some (.int .i8 (m : Int))) := ⟨by rw [cell_of_blk HQ14.out]; rfl, HM4.out.c0, by rw [cell_of_blk HQ34.out]; rfl, by rw [cell_of_blk HQ34.out]; rfl, by rw [cell_of_blk HQ24.out]; rfl, by rw [cell_of_blk HQ24.out]; rfl⟩
  clear hrow4 hrd m4 c4 f1 g1 HMap4
  go_wp2_with (fail)
  clear s4 f0
  go_region_held3 (fun w' => w'.cell? ⟨qm, 0, none⟩ = some (.pointer (some ⟨mp, 0, none⟩)) ∧ w'.cell? ⟨mp, 0, none⟩ = some (.map (some mb)) ∧ w'.cell? ⟨qf, 0, none⟩ = some (.slice Af nf cf) ∧ w'.cell? ⟨qf, 1, none⟩ = some (.int .i64 kf) ∧ w'.cell? ⟨qs, 3, none⟩ = some (.slice As ns cs) ∧ w'.cell? ⟨qs, 4, none⟩ = some (.int .i8 (m : Int))) (first | exact S6 | exact S5 | exact hS4 | go_keep) ((go_at_call 25; refine (cloneB Af m cf _ (bv (bs.take m)) _ (show Reads w4.drew _ 1 Af m _ from HRD.out) (Nat.le_refl _) (bv_one _) (by omega)).mono ?_; rintro e w5 ⟨v5, rfl, hown5, hb5⟩; obtain ⟨A5, c5, rfl, hc5⟩ := owns_form hown5; have HB5 := Lib.hid (((Below.refl w4.heap.size w4).drew).trans hb5); obtain ⟨w6, hrun6, HM6, HG6, S5, S6⟩ := put_run HM4.out HB5.out (by unfold maxLen; omega) HQ14.out HQ24.out HQ34.out hq1 hq2 hq3 hkl (.agg #[.slice A5 m c5, .int .i64 (m : Int)]); have HO5 := Lib.hid hown5; clear hown5 hb5))
  go_wp2_with (fail)
  go_ret
  have hlm : (bs.take m).length = m := by rw [List.length_take, ← HNF.out]; omega
  have hrow5 : RowW w5 5 (.slice A5 m c5) (bs.take m).length (bv (bs.take m)) := by rw [hlm]; exact RowW.of_owns HO5.out
  have hm7 := (HM4.out.below HB5.out).put (k := kA) (bs := bs.take m) (kept := m) (v := .slice A5 m c5) hrow5 (fun g hg => hrow5.lt hg) HM6.out HG6.out
  refine retB_of (E := fun g => g = qf) HD4.out ⟨_, hm7⟩ HC4.out (fun g hg => ?_) HMO.out ((Mod.of_below (F := fun g => g = mb) HB5.out).trans ((Mod.refl (fun g => g = mb) w5).grown HG6.out (fun g hg _ => by injection hg with hg; exact hg.symm)) (fun _ _ h => h) |>.mono fun g _ e => .inl (by rw [e]; exact HM4.out.db)) (fun g hg => ⟨by rw [hg]; exact hqf1, by rw [hg]; exact HCQ.out⟩) (hltD pw (.inr rfl)) hcd hdp hdb hltM hBw
  rcases hg with h | h
  · exact .inl h
  · exact .inr (HO5.out.lt g h).1
end Go.Proofs.YtfccoiofpmhbdaaDoor
