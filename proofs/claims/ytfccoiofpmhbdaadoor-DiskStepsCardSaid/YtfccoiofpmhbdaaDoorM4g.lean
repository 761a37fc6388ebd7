/- selionlaw04.M.Do, a step, the power being gone. Condition: disk and model are as told. -/
import Derived.Test.YtfccoiofpmhbdaaDoorOffs
import Derived.Test.YtfccoiofpmhbdaaDoorM4e
namespace Go.Proofs.YtfccoiofpmhbdaaDoor
open Go Go.Proofs Go.RowKit

set_option maxHeartbeats 4000000 in
set_option maxRecDepth 100000 in
theorem doSyncOff (B B' nb a pw t N mp mb dO A8 B8 bits ns cs : Nat) (As : Option Addr) (C D : Nat → Prop) (l u room nn : Int) (F : Files) (bs : List UInt8) (kept : Nat) (w : World) (h : Both B w C D nb N a pw mp mb l u room F t) (hn : NamesLaid w B') (_hB' : B' ≤ w.heap.size) (_hd8 : dO < 256) (hA8 : A8 < 256) (hB8 : B8 < 256) (_hnb : nb < 1000000) (_hN : N < 1000000) (hdo : dO % 8 = 3) (hF : F (nameAt A8) = some (bs, kept)) (hl : 0 ≤ l) (hu : l ≤ u) :
    Calls Tryd.prog 7 #[.pointer (some ⟨mp, 0, none⟩), .pointer (some ⟨a, 0, none⟩), stepV dO A8 B8 (.slice As ns cs) nn bits] w (fun e w' => e = .panicked [{ v := offV, recovered := false }] ∧ Below w.heap.size w w') := by
  obtain ⟨na, nc, hn1, hn2, hn3⟩ := hn.at_
  have hnA := hn3 A8
  have hnB := hn3 B8
  obtain ⟨kA, hkA⟩ : ∃ kA, kA = nameAt A8 := ⟨_, rfl⟩
  obtain ⟨kB, hkB⟩ : ∃ kB, kB = nameAt B8 := ⟨_, rfl⟩
  obtain ⟨iA, hiA⟩ : ∃ iA, iA = A8 % 4 := ⟨_, rfl⟩
  obtain ⟨iB, hiB⟩ : ∃ iB, iB = B8 % 4 := ⟨_, rfl⟩
  rw [← hkA, ← hiA] at hnA
  rw [← hkB, ← hiB] at hnB
  have hA1 : (A8 : Int) % 4 = (iA : Int) := by omega
  have hA2 : (A8 : Int).tmod 4 = (iA : Int) := by rw [Int.tmod_eq_emod_of_nonneg (by omega)]; exact hA1
  have hA3 : IntKind.u8.wrap (iA : Int) = (iA : Int) := IntWalk.u8_in _ (by omega)
  have hB1 : (B8 : Int) % 4 = (iB : Int) := by omega
  have hB2 : (B8 : Int).tmod 4 = (iB : Int) := by rw [Int.tmod_eq_emod_of_nonneg (by omega)]; exact hB1
  have hB3 : IntKind.u8.wrap (iB : Int) = (iB : Int) := IntWalk.u8_in _ (by omega)
  have hiA4 : iA < 4 := by omega
  have hiB4 : iB < 4 := by omega
  have hO1 : (dO : Int) % 8 = 3 := by omega
  have hO2 : (dO : Int).tmod 8 = 3 := by rw [Int.tmod_eq_emod_of_nonneg (by omega)]; exact hO1
  have hO3 : IntKind.u8.wrap 3 = 3 := IntWalk.u8_in _ (by omega)
  clear hiA hiB hn3
  have HD := Lib.hid h.ds
  have HM := Lib.hid h.md
  have hcd := h.cd
  have hdp := h.dp
  have hdb := h.db
  have hF' : F kA = some (bs, kept) := by rw [hkA]; exact hF
  have HF := Lib.hid hF'
  have hkl : kA.length ≤ maxLen := by rw [hkA]; exact nameAt_len _
  have hkl2 : kB.length ≤ maxLen := by rw [hkB]; exact nameAt_len _
  have hBw := HD.out.size
  clear h hF hF' hkA hkB
  unfold stepV
  go_enter Tryd.func7, Tryd.ntmps7
  go_wp2_with (fail)
  have hb2 := ((Below.refl w.heap.size w).alloc (Nat.le_refl _) (.cells #[.pointer (some ⟨mp, 0, none⟩)] 26 (0, 0))).alloc (by rw [World.size_alloc]; omega) (.cells #[.int .u8 dO, .int .u8 A8, .int .u8 B8, .slice As ns cs, .int .i8 nn, .int .u64 bits] 34 (0, 0))
  have hs2 : ((w.alloc (.cells #[.pointer (some ⟨mp, 0, none⟩)] 26 (0, 0))).alloc (.cells #[.int .u8 dO, .int .u8 A8, .int .u8 B8, .slice As ns cs, .int .i8 nn, .int .u64 bits] 34 (0, 0))).heap.size = w.heap.size + 2 := by rw [World.size_alloc, World.size_alloc]
  have hq1 : ((w.alloc (.cells #[.pointer (some ⟨mp, 0, none⟩)] 26 (0, 0))).alloc (.cells #[.int .u8 dO, .int .u8 A8, .int .u8 B8, .slice As ns cs, .int .i8 nn, .int .u64 bits] 34 (0, 0))).heap[w.heap.size]? = some (.cells #[.pointer (some ⟨mp, 0, none⟩)] 26 (0, 0)) := heap_alloc_keep (heap_alloc_new _ _) _
  have hq2 : ((w.alloc (.cells #[.pointer (some ⟨mp, 0, none⟩)] 26 (0, 0))).alloc (.cells #[.int .u8 dO, .int .u8 A8, .int .u8 B8, .slice As ns cs, .int .i8 nn, .int .u64 bits] 34 (0, 0))).heap[w.heap.size + 1]? = some (.cells #[.int .u8 dO, .int .u8 A8, .int .u8 B8, .slice As ns cs, .int .i8 nn, .int .u64 bits] 34 (0, 0)) := by
    have := heap_alloc_new (w.alloc (.cells #[.pointer (some ⟨mp, 0, none⟩)] 26 (0, 0))) (.cells #[.int .u8 dO, .int .u8 A8, .int .u8 B8, .slice As ns cs, .int .i8 nn, .int .u64 bits] 34 (0, 0))
    rw [World.size_alloc] at this
    exact this
  generalize (w.alloc (.cells #[.pointer (some ⟨mp, 0, none⟩)] 26 (0, 0))).alloc (.cells #[.int .u8 dO, .int .u8 A8, .int .u8 B8, .slice As ns cs, .int .i8 nn, .int .u64 bits] 34 (0, 0)) = w2 at *
  obtain ⟨qm, hqm⟩ : ∃ qm, qm = w.heap.size := ⟨_, rfl⟩
  rw [← hqm] at hq1 hq2 ⊢
  obtain ⟨qs, hqs⟩ : ∃ qs, qs = qm + 1 := ⟨_, rfl⟩
  rw [← hqs] at hq2 ⊢
  have hqm1 : w.heap.size ≤ qm := by omega
  have hqm2 : qm < qs := by omega
  have hqs2 : qs < w2.heap.size := by omega
  clear hqm hqs hs2
  have HQ1 := Lib.hid hq1
  have HQ2 := Lib.hid hq2
  have m1 : w2.cell? ⟨qm, 0, none⟩ = some (.pointer (some ⟨mp, 0, none⟩)) := by rw [cell_of_blk hq1]; rfl
  have s0 : w2.cell? ⟨qs, 0, none⟩ = some (.int .u8 dO) := by rw [cell_of_blk hq2]; rfl
  have s1 : w2.cell? ⟨qs, 1, none⟩ = some (.int .u8 A8) := by rw [cell_of_blk hq2]; rfl
  have s2 : w2.cell? ⟨qs, 2, none⟩ = some (.int .u8 B8) := by rw [cell_of_blk hq2]; rfl
  have s3 : w2.cell? ⟨qs, 3, none⟩ = some (.slice As ns cs) := by rw [cell_of_blk hq2]; rfl
  have s4 : w2.cell? ⟨qs, 4, none⟩ = some (.int .i8 nn) := by rw [cell_of_blk hq2]; rfl
  have n0 : w2.cell? ⟨0, 0, none⟩ = some (.slice (some na) 4 nc) := cellk hb2 (by show 0 < w.heap.size; have := hn.lt; omega) hn1
  have n1 : w2.cell? (na.add iA) = some (txt kA) := cellk hb2 (by rw [block_of_add]; omega) hnA
  have n2 : w2.cell? (na.add iB) = some (txt kB) := cellk hb2 (by rw [block_of_add]; omega) hnB
  have i0 : (0 : Int) ≤ (iA : Int) := by omega
  have i1 : (iA : Int) < 4 := by omega
  have i2 : (0 : Int) ≤ (iB : Int) := by omega
  have i3 : (iB : Int) < 4 := by omega
  clear hq1 hq2 hnA hnB hn1 hn
  go_region_held3 (fun w' => w'.cell? ⟨qs, 1, none⟩ = some (.int .u8 A8) ∧ w'.cell? ⟨qs, 2, none⟩ = some (.int .u8 B8) ∧ w'.cell? ⟨0, 0, none⟩ = some (.slice (some na) 4 nc) ∧ w'.cell? (na.add iA) = some (txt kA) ∧ w'.cell? (na.add iB) = some (txt kB)) (first | exact ⟨s1, s2, n0, n1, n2⟩ | go_keep) (fail)
  clear s1 s2 n0 n1 n2 i0 i1 i2 i3
  obtain ⟨V, hm⟩ := HM.out
  have hm2 := hm.below hb2
  have HMap := Lib.hid hm2.map
  have hmt := hm2.lt
  have c0 : w2.cell? ⟨mp, 0, none⟩ = some (.map (some mb)) := hm2.c0
  obtain ⟨hrow, hown⟩ := hm2.file kA bs kept HF.out
  obtain ⟨Af, cf, hVf, hcf⟩ := hrow.form
  obtain ⟨nf, hnf⟩ : ∃ nf, nf = bs.length := ⟨_, rfl⟩
  rw [← hnf] at hVf hcf
  obtain ⟨kf, hkf⟩ : ∃ kf : Nat, kf = kept := ⟨_, rfl⟩
  have hr : ((F kA).map fun x => fileV (V kA) x.2) = some (.agg #[.slice Af nf cf, .int .i64 kf]) := by rw [HF.out, hkf]; simp [fileV, hVf]
  have HR := Lib.hid hr
  have HVF := Lib.hid hVf
  have HNF := Lib.hid hnf
  have HKF := Lib.hid hkf
  clear hr hVf hnf hkf hrow hown
  have HM2 := Lib.hid hm2
  clear hm hm2
  go_wp2_with (at_lookup; (refine wpList_look rfl _ _ 27 rfl 43 Tryd.underlying27 (zeroF' _) mb N _ rfl HMap.out kA rfl hkl _ HR.out ?_))
  have hba := ((Below.refl w2.heap.size w2).alloc (Nat.le_refl _) (.cells #[.slice Af nf cf, .int .i64 kf] 43 (0, 0))).drew
  have hqf := heap_alloc_new w2 (.cells #[.slice Af nf cf, .int .i64 kf] 43 (0, 0))
  have hsa := World.size_alloc w2 (.cells #[.slice Af nf cf, .int .i64 kf] 43 (0, 0))
  obtain ⟨qf, hqe⟩ : ∃ qf, qf = w2.heap.size := ⟨_, rfl⟩
  have hz2 := hb2.size
  have hltD := HD.out.lt
  have hltM : ∀ g, D g → g < w.heap.size := fun g hg => HM.out.lt hg
  have HB3 := Lib.hid (hb2.trans (hba.mono (by omega)))
  have HQ13 := Lib.hid ((hba.block _ (by omega)).trans HQ1.out)
  have HQ23 := Lib.hid ((hba.block _ (by omega)).trans HQ2.out)
  have HQ33 := Lib.hid (show ((w2.alloc (.cells #[.slice Af nf cf, .int .i64 kf] 43 (0, 0))).drew).heap[qf]? = some (.cells #[.slice Af nf cf, .int .i64 kf] 43 (0, 0)) by rw [hqe]; exact hqf)
  have HM3 := Lib.hid (HM2.out.below hba)
  have HD3 := Lib.hid ((HD.out.below hb2).below hba)
  have hs3 : ((w2.alloc (.cells #[.slice Af nf cf, .int .i64 kf] 43 (0, 0))).drew).heap.size = qf + 1 := by rw [hqe]; exact hsa
  rw [← hqe] at ⊢
  generalize (w2.alloc (.cells #[.slice Af nf cf, .int .i64 kf] 43 (0, 0))).drew = w3 at *
  have hqf1 : w.heap.size ≤ qf := by omega
  have hqsf : qs < qf := by omega
  have hnt : ∀ g, w.heap.size ≤ g → ¬ TouchD C pw g := fun g hg h => by have := hltD g h; omega
  have hnd : ∀ g, D g → ¬ TouchD C pw g := fun g hg h => by
    rcases h with h | h
    · exact hcd g h hg
    · exact hdp (h ▸ hg)
  have hqd : ∀ g, w.heap.size ≤ g → ¬ D g := fun g hg h => by have := hltM g h; omega
  have HNT := Lib.hid hnt
  have HND := Lib.hid hnd
  have HQD := Lib.hid hqd
  clear hba hqf hsa hqe HQ1 HQ2 HMap HM2 m1 s0 s3 s4 c0 hnt hnd hqd hmt HR
  refine (dsSyncOff B C nb a pw t l u room F kA bs kept w3 HD3.out hl hu hkl HF.out).mono ?_
  rintro e w4 ⟨rfl, hb4⟩
  go_wp2_with (fail)
  exact ⟨rfl, rfl, HB3.out.trans (hb4.mono HB3.out.size)⟩
set_option maxHeartbeats 4000000 in
set_option maxRecDepth 100000 in
theorem doMoveOff (B B' nb a pw t N mp mb dO A8 B8 bits ns cs : Nat) (As : Option Addr) (C D : Nat → Prop) (l u room nn : Int) (F : Files) (bs : List UInt8) (kept : Nat) (w : World) (h : Both B w C D nb N a pw mp mb l u room F t) (hn : NamesLaid w B') (_hB' : B' ≤ w.heap.size) (_hd8 : dO < 256) (hA8 : A8 < 256) (hB8 : B8 < 256) (_hnb : nb < 1000000) (_hN : N < 1000000) (hdo : dO % 8 = 4) (hF : F (nameAt A8) = some (bs, kept)) (hl : 0 ≤ l) (hu : l ≤ u) :
    Calls Tryd.prog 7 #[.pointer (some ⟨mp, 0, none⟩), .pointer (some ⟨a, 0, none⟩), stepV dO A8 B8 (.slice As ns cs) nn bits] w (fun e w' => e = .panicked [{ v := offV, recovered := false }] ∧ Below w.heap.size w w') := by
  obtain ⟨na, nc, hn1, hn2, hn3⟩ := hn.at_
  have hnA := hn3 A8
  have hnB := hn3 B8
  obtain ⟨kA, hkA⟩ : ∃ kA, kA = nameAt A8 := ⟨_, rfl⟩
  obtain ⟨kB, hkB⟩ : ∃ kB, kB = nameAt B8 := ⟨_, rfl⟩
  obtain ⟨iA, hiA⟩ : ∃ iA, iA = A8 % 4 := ⟨_, rfl⟩
  obtain ⟨iB, hiB⟩ : ∃ iB, iB = B8 % 4 := ⟨_, rfl⟩
  rw [← hkA, ← hiA] at hnA
  rw [← hkB, ← hiB] at hnB
  have hA1 : (A8 : Int) % 4 = (iA : Int) := by omega
  have hA2 : (A8 : Int).tmod 4 = (iA : Int) := by rw [Int.tmod_eq_emod_of_nonneg (by omega)]; exact hA1
  have hA3 : IntKind.u8.wrap (iA : Int) = (iA : Int) := IntWalk.u8_in _ (by omega)
  have hB1 : (B8 : Int) % 4 = (iB : Int) := by omega
  have hB2 : (B8 : Int).tmod 4 = (iB : Int) := by rw [Int.tmod_eq_emod_of_nonneg (by omega)]; exact hB1
  have hB3 : IntKind.u8.wrap (iB : Int) = (iB : Int) := IntWalk.u8_in _ (by omega)
  have hiA4 : iA < 4 := by omega
  have hiB4 : iB < 4 := by omega
  have hO1 : (dO : Int) % 8 = 4 := by omega
  have hO2 : (dO : Int).tmod 8 = 4 := by rw [Int.tmod_eq_emod_of_nonneg (by omega)]; exact hO1
  have hO3 : IntKind.u8.wrap 4 = 4 := IntWalk.u8_in _ (by omega)
  clear hiA hiB hn3
  have HD := Lib.hid h.ds
  have HM := Lib.hid h.md
  have hcd := h.cd
  have hdp := h.dp
  have hdb := h.db
  have hF' : F kA = some (bs, kept) := by rw [hkA]; exact hF
  have HF := Lib.hid hF'
  have hkl : kA.length ≤ maxLen := by rw [hkA]; exact nameAt_len _
  have hkl2 : kB.length ≤ maxLen := by rw [hkB]; exact nameAt_len _
  have hBw := HD.out.size
  clear h hF hF' hkA hkB
  unfold stepV
  go_enter Tryd.func7, Tryd.ntmps7
  go_wp2_with (fail)
  have hb2 := ((Below.refl w.heap.size w).alloc (Nat.le_refl _) (.cells #[.pointer (some ⟨mp, 0, none⟩)] 26 (0, 0))).alloc (by rw [World.size_alloc]; omega) (.cells #[.int .u8 dO, .int .u8 A8, .int .u8 B8, .slice As ns cs, .int .i8 nn, .int .u64 bits] 34 (0, 0))
  have hs2 : ((w.alloc (.cells #[.pointer (some ⟨mp, 0, none⟩)] 26 (0, 0))).alloc (.cells #[.int .u8 dO, .int .u8 A8, .int .u8 B8, .slice As ns cs, .int .i8 nn, .int .u64 bits] 34 (0, 0))).heap.size = w.heap.size + 2 := by rw [World.size_alloc, World.size_alloc]
  have hq1 : ((w.alloc (.cells #[.pointer (some ⟨mp, 0, none⟩)] 26 (0, 0))).alloc (.cells #[.int .u8 dO, .int .u8 A8, .int .u8 B8, .slice As ns cs, .int .i8 nn, .int .u64 bits] 34 (0, 0))).heap[w.heap.size]? = some (.cells #[.pointer (some ⟨mp, 0, none⟩)] 26 (0, 0)) := heap_alloc_keep (heap_alloc_new _ _) _
  have hq2 : ((w.alloc (.cells #[.pointer (some ⟨mp, 0, none⟩)] 26 (0, 0))).alloc (.cells #[.int .u8 dO, .int .u8 A8, .int .u8 B8, .slice As ns cs, .int .i8 nn, .int .u64 bits] 34 (0, 0))).heap[w.heap.size + 1]? = some (.cells #[.int .u8 dO, .int .u8 A8, .int .u8 B8, .slice As ns cs, .int .i8 nn, .int .u64 bits] 34 (0, 0)) := by
    have := heap_alloc_new (w.alloc (.cells #[.pointer (some ⟨mp, 0, none⟩)] 26 (0, 0))) (.cells #[.int .u8 dO, .int .u8 A8, .int .u8 B8, .slice As ns cs, .int .i8 nn, .int .u64 bits] 34 (0, 0))
    rw [World.size_alloc] at this
    exact this
  generalize (w.alloc (.cells #[.pointer (some ⟨mp, 0, none⟩)] 26 (0, 0))).alloc (.cells #[.int .u8 dO, .int .u8 A8, .int .u8 B8, .slice As ns cs, .int .i8 nn, .int .u64 bits] 34 (0, 0)) = w2 at *
  obtain ⟨qm, hqm⟩ : ∃ qm, qm = w.heap.size := ⟨_, rfl⟩
  rw [← hqm] at hq1 hq2 ⊢
  obtain ⟨qs, hqs⟩ : ∃ qs, qs = qm + 1 := ⟨_, rfl⟩
  rw [← hqs] at hq2 ⊢
  have hqm1 : w.heap.size ≤ qm := by omega
  have hqm2 : qm < qs := by omega
  have hqs2 : qs < w2.heap.size := by omega
  clear hqm hqs hs2
  have HQ1 := Lib.hid hq1
  have HQ2 := Lib.hid hq2
  have m1 : w2.cell? ⟨qm, 0, none⟩ = some (.pointer (some ⟨mp, 0, none⟩)) := by rw [cell_of_blk hq1]; rfl
  have s0 : w2.cell? ⟨qs, 0, none⟩ = some (.int .u8 dO) := by rw [cell_of_blk hq2]; rfl
  have s1 : w2.cell? ⟨qs, 1, none⟩ = some (.int .u8 A8) := by rw [cell_of_blk hq2]; rfl
  have s2 : w2.cell? ⟨qs, 2, none⟩ = some (.int .u8 B8) := by rw [cell_of_blk hq2]; rfl
  have s3 : w2.cell? ⟨qs, 3, none⟩ = some (.slice As ns cs) := by rw [cell_of_blk hq2]; rfl
  have s4 : w2.cell? ⟨qs, 4, none⟩ = some (.int .i8 nn) := by rw [cell_of_blk hq2]; rfl
  have n0 : w2.cell? ⟨0, 0, none⟩ = some (.slice (some na) 4 nc) := cellk hb2 (by show 0 < w.heap.size; have := hn.lt; omega) hn1
  have n1 : w2.cell? (na.add iA) = some (txt kA) := cellk hb2 (by rw [block_of_add]; omega) hnA
  have n2 : w2.cell? (na.add iB) = some (txt kB) := cellk hb2 (by rw [block_of_add]; omega) hnB
  have i0 : (0 : Int) ≤ (iA : Int) := by omega
  have i1 : (iA : Int) < 4 := by omega
  have i2 : (0 : Int) ≤ (iB : Int) := by omega
  have i3 : (iB : Int) < 4 := by omega
  clear hq1 hq2 hnA hnB hn1 hn
  go_region_held3 (fun w' => w'.cell? ⟨qs, 1, none⟩ = some (.int .u8 A8) ∧ w'.cell? ⟨qs, 2, none⟩ = some (.int .u8 B8) ∧ w'.cell? ⟨0, 0, none⟩ = some (.slice (some na) 4 nc) ∧ w'.cell? (na.add iA) = some (txt kA) ∧ w'.cell? (na.add iB) = some (txt kB)) (first | exact ⟨s1, s2, n0, n1, n2⟩ | go_keep) (fail)
  clear s1 s2 n0 n1 n2 i0 i1 i2 i3
  obtain ⟨V, hm⟩ := HM.out
  have hm2 := hm.below hb2
  have HMap := Lib.hid hm2.map
  have hmt := hm2.lt
  have c0 : w2.cell? ⟨mp, 0, none⟩ = some (.map (some mb)) := hm2.c0
  obtain ⟨hrow, hown⟩ := hm2.file kA bs kept HF.out
  obtain ⟨Af, cf, hVf, hcf⟩ := hrow.form
  obtain ⟨nf, hnf⟩ : ∃ nf, nf = bs.length := ⟨_, rfl⟩
  rw [← hnf] at hVf hcf
  obtain ⟨kf, hkf⟩ : ∃ kf : Nat, kf = kept := ⟨_, rfl⟩
  have hr : ((F kA).map fun x => fileV (V kA) x.2) = some (.agg #[.slice Af nf cf, .int .i64 kf]) := by rw [HF.out, hkf]; simp [fileV, hVf]
  have HR := Lib.hid hr
  have HVF := Lib.hid hVf
  have HNF := Lib.hid hnf
  have HKF := Lib.hid hkf
  clear hr hVf hnf hkf hrow hown
  have HM2 := Lib.hid hm2
  clear hm hm2
  go_wp2_with (at_lookup; (refine wpList_look rfl _ _ 27 rfl 43 Tryd.underlying27 (zeroF' _) mb N _ rfl HMap.out kA rfl hkl _ HR.out ?_))
  have hba := ((Below.refl w2.heap.size w2).alloc (Nat.le_refl _) (.cells #[.slice Af nf cf, .int .i64 kf] 43 (0, 0))).drew
  have hqf := heap_alloc_new w2 (.cells #[.slice Af nf cf, .int .i64 kf] 43 (0, 0))
  have hsa := World.size_alloc w2 (.cells #[.slice Af nf cf, .int .i64 kf] 43 (0, 0))
  obtain ⟨qf, hqe⟩ : ∃ qf, qf = w2.heap.size := ⟨_, rfl⟩
  have hz2 := hb2.size
  have hltD := HD.out.lt
  have hltM : ∀ g, D g → g < w.heap.size := fun g hg => HM.out.lt hg
  have HB3 := Lib.hid (hb2.trans (hba.mono (by omega)))
  have HQ13 := Lib.hid ((hba.block _ (by omega)).trans HQ1.out)
  have HQ23 := Lib.hid ((hba.block _ (by omega)).trans HQ2.out)
  have HQ33 := Lib.hid (show ((w2.alloc (.cells #[.slice Af nf cf, .int .i64 kf] 43 (0, 0))).drew).heap[qf]? = some (.cells #[.slice Af nf cf, .int .i64 kf] 43 (0, 0)) by rw [hqe]; exact hqf)
  have HM3 := Lib.hid (HM2.out.below hba)
  have HD3 := Lib.hid ((HD.out.below hb2).below hba)
  have hs3 : ((w2.alloc (.cells #[.slice Af nf cf, .int .i64 kf] 43 (0, 0))).drew).heap.size = qf + 1 := by rw [hqe]; exact hsa
  rw [← hqe] at ⊢
  generalize (w2.alloc (.cells #[.slice Af nf cf, .int .i64 kf] 43 (0, 0))).drew = w3 at *
  have hqf1 : w.heap.size ≤ qf := by omega
  have hqsf : qs < qf := by omega
  have hnt : ∀ g, w.heap.size ≤ g → ¬ TouchD C pw g := fun g hg h => by have := hltD g h; omega
  have hnd : ∀ g, D g → ¬ TouchD C pw g := fun g hg h => by
    rcases h with h | h
    · exact hcd g h hg
    · exact hdp (h ▸ hg)
  have hqd : ∀ g, w.heap.size ≤ g → ¬ D g := fun g hg h => by have := hltM g h; omega
  have HNT := Lib.hid hnt
  have HND := Lib.hid hnd
  have HQD := Lib.hid hqd
  clear hba hqf hsa hqe HQ1 HQ2 HMap HM2 m1 s0 s3 s4 c0 hnt hnd hqd hmt HR
  refine (dsMoveOff B C nb a pw t l u room F kA kB bs kept w3 HD3.out hl hu hkl HF.out).mono ?_
  rintro e w4 ⟨rfl, hb4⟩
  go_wp2_with (fail)
  exact ⟨rfl, rfl, HB3.out.trans (hb4.mono HB3.out.size)⟩
set_option maxHeartbeats 4000000 in
set_option maxRecDepth 100000 in
theorem doRemoveOff (B B' nb a pw t N mp mb dO A8 B8 bits ns cs : Nat) (As : Option Addr) (C D : Nat → Prop) (l u room nn : Int) (F : Files) (bs : List UInt8) (kept : Nat) (w : World) (h : Both B w C D nb N a pw mp mb l u room F t) (hn : NamesLaid w B') (_hB' : B' ≤ w.heap.size) (_hd8 : dO < 256) (hA8 : A8 < 256) (hB8 : B8 < 256) (_hnb : nb < 1000000) (_hN : N < 1000000) (hdo : dO % 8 = 5) (hF : F (nameAt A8) = some (bs, kept)) (hl : 0 ≤ l) (hu : l ≤ u) :
    Calls Tryd.prog 7 #[.pointer (some ⟨mp, 0, none⟩), .pointer (some ⟨a, 0, none⟩), stepV dO A8 B8 (.slice As ns cs) nn bits] w (fun e w' => e = .panicked [{ v := offV, recovered := false }] ∧ Below w.heap.size w w') := by
  obtain ⟨na, nc, hn1, hn2, hn3⟩ := hn.at_
  have hnA := hn3 A8
  have hnB := hn3 B8
  obtain ⟨kA, hkA⟩ : ∃ kA, kA = nameAt A8 := ⟨_, rfl⟩
  obtain ⟨kB, hkB⟩ : ∃ kB, kB = nameAt B8 := ⟨_, rfl⟩
  obtain ⟨iA, hiA⟩ : ∃ iA, iA = A8 % 4 := ⟨_, rfl⟩
  obtain ⟨iB, hiB⟩ : ∃ iB, iB = B8 % 4 := ⟨_, rfl⟩
  rw [← hkA, ← hiA] at hnA
  rw [← hkB, ← hiB] at hnB
  have hA1 : (A8 : Int) % 4 = (iA : Int) := by omega
  have hA2 : (A8 : Int).tmod 4 = (iA : Int) := by rw [Int.tmod_eq_emod_of_nonneg (by omega)]; exact hA1
  have hA3 : IntKind.u8.wrap (iA : Int) = (iA : Int) := IntWalk.u8_in _ (by omega)
  have hB1 : (B8 : Int) % 4 = (iB : Int) := by omega
  have hB2 : (B8 : Int).tmod 4 = (iB : Int) := by rw [Int.tmod_eq_emod_of_nonneg (by omega)]; exact hB1
  have hB3 : IntKind.u8.wrap (iB : Int) = (iB : Int) := IntWalk.u8_in _ (by omega)
  have hiA4 : iA < 4 := by omega
  have hiB4 : iB < 4 := by omega
  have hO1 : (dO : Int) % 8 = 5 := by omega
  have hO2 : (dO : Int).tmod 8 = 5 := by rw [Int.tmod_eq_emod_of_nonneg (by omega)]; exact hO1
  have hO3 : IntKind.u8.wrap 5 = 5 := IntWalk.u8_in _ (by omega)
  clear hiA hiB hn3
  have HD := Lib.hid h.ds
  have HM := Lib.hid h.md
  have hcd := h.cd
  have hdp := h.dp
  have hdb := h.db
  have hF' : F kA = some (bs, kept) := by rw [hkA]; exact hF
  have HF := Lib.hid hF'
  have hkl : kA.length ≤ maxLen := by rw [hkA]; exact nameAt_len _
  have hkl2 : kB.length ≤ maxLen := by rw [hkB]; exact nameAt_len _
  have hBw := HD.out.size
  clear h hF hF' hkA hkB
  unfold stepV
  go_enter Tryd.func7, Tryd.ntmps7
  go_wp2_with (fail)
  have hb2 := ((Below.refl w.heap.size w).alloc (Nat.le_refl _) (.cells #[.pointer (some ⟨mp, 0, none⟩)] 26 (0, 0))).alloc (by rw [World.size_alloc]; omega) (.cells #[.int .u8 dO, .int .u8 A8, .int .u8 B8, .slice As ns cs, .int .i8 nn, .int .u64 bits] 34 (0, 0))
  have hs2 : ((w.alloc (.cells #[.pointer (some ⟨mp, 0, none⟩)] 26 (0, 0))).alloc (.cells #[.int .u8 dO, .int .u8 A8, .int .u8 B8, .slice As ns cs, .int .i8 nn, .int .u64 bits] 34 (0, 0))).heap.size = w.heap.size + 2 := by rw [World.size_alloc, World.size_alloc]
  have hq1 : ((w.alloc (.cells #[.pointer (some ⟨mp, 0, none⟩)] 26 (0, 0))).alloc (.cells #[.int .u8 dO, .int .u8 A8, .int .u8 B8, .slice As ns cs, .int .i8 nn, .int .u64 bits] 34 (0, 0))).heap[w.heap.size]? = some (.cells #[.pointer (some ⟨mp, 0, none⟩)] 26 (0, 0)) := heap_alloc_keep (heap_alloc_new _ _) _
  have hq2 : ((w.alloc (.cells #[.pointer (some ⟨mp, 0, none⟩)] 26 (0, 0))).alloc (.cells #[.int .u8 dO, .int .u8 A8, .int .u8 B8, .slice As ns cs, .int .i8 nn, .int .u64 bits] 34 (0, 0))).heap[w.heap.size + 1]? = some (.cells #[.int .u8 dO, .int .u8 A8, .int .u8 B8, .slice As ns cs, .int .i8 nn, .int .u64 bits] 34 (0, 0)) := by
    have := heap_alloc_new (w.alloc (.cells #[.pointer (some ⟨mp, 0, none⟩)] 26 (0, 0))) (.cells #[.int .u8 dO, .int .u8 A8, .int .u8 B8, .slice As ns cs, .int .i8 nn, .int .u64 bits] 34 (0, 0))
    rw [World.size_alloc] at this
    exact this
  generalize (w.alloc (.cells #[.pointer (some ⟨mp, 0, none⟩)] 26 (0, 0))).alloc (.cells #[.int .u8 dO, .int .u8 A8, .int .u8 B8, .slice As ns cs, .int .i8 nn, .int .u64 bits] 34 (0, 0)) = w2 at *
  obtain ⟨qm, hqm⟩ : ∃ qm, qm = w.heap.size := ⟨_, rfl⟩
  rw [← hqm] at hq1 hq2 ⊢
  obtain ⟨qs, hqs⟩ : ∃ qs, qs = qm + 1 := ⟨_, rfl⟩
  rw [← hqs] at hq2 ⊢
  have hqm1 : w.heap.size ≤ qm := by omega
  have hqm2 : qm < qs := by omega
  have hqs2 : qs < w2.heap.size := by omega
  clear hqm hqs hs2
  have HQ1 := Lib.hid hq1
  have HQ2 := Lib.hid hq2
  have m1 : w2.cell? ⟨qm, 0, none⟩ = some (.pointer (some ⟨mp, 0, none⟩)) := by rw [cell_of_blk hq1]; rfl
  have s0 : w2.cell? ⟨qs, 0, none⟩ = some (.int .u8 dO) := by rw [cell_of_blk hq2]; rfl
  have s1 : w2.cell? ⟨qs, 1, none⟩ = some (.int .u8 A8) := by rw [cell_of_blk hq2]; rfl
  have s2 : w2.cell? ⟨qs, 2, none⟩ = some (.int .u8 B8) := by rw [cell_of_blk hq2]; rfl
  have s3 : w2.cell? ⟨qs, 3, none⟩ = some (.slice As ns cs) := by rw [cell_of_blk hq2]; rfl
  have s4 : w2.cell? ⟨qs, 4, none⟩ = some (.int .i8 nn) := by rw [cell_of_blk hq2]; rfl
  have n0 : w2.cell? ⟨0, 0, none⟩ = some (.slice (some na) 4 nc) := cellk hb2 (by show 0 < w.heap.size; have := hn.lt; omega) hn1
  have n1 : w2.cell? (na.add iA) = some (txt kA) := cellk hb2 (by rw [block_of_add]; omega) hnA
  have n2 : w2.cell? (na.add iB) = some (txt kB) := cellk hb2 (by rw [block_of_add]; omega) hnB
  have i0 : (0 : Int) ≤ (iA : Int) := by omega
  have i1 : (iA : Int) < 4 := by omega
  have i2 : (0 : Int) ≤ (iB : Int) := by omega
  have i3 : (iB : Int) < 4 := by omega
  clear hq1 hq2 hnA hnB hn1 hn
  go_region_held3 (fun w' => w'.cell? ⟨qs, 1, none⟩ = some (.int .u8 A8) ∧ w'.cell? ⟨qs, 2, none⟩ = some (.int .u8 B8) ∧ w'.cell? ⟨0, 0, none⟩ = some (.slice (some na) 4 nc) ∧ w'.cell? (na.add iA) = some (txt kA) ∧ w'.cell? (na.add iB) = some (txt kB)) (first | exact ⟨s1, s2, n0, n1, n2⟩ | go_keep) (fail)
  clear s1 s2 n0 n1 n2 i0 i1 i2 i3
  obtain ⟨V, hm⟩ := HM.out
  have hm2 := hm.below hb2
  have HMap := Lib.hid hm2.map
  have hmt := hm2.lt
  have c0 : w2.cell? ⟨mp, 0, none⟩ = some (.map (some mb)) := hm2.c0
  obtain ⟨hrow, hown⟩ := hm2.file kA bs kept HF.out
  obtain ⟨Af, cf, hVf, hcf⟩ := hrow.form
  obtain ⟨nf, hnf⟩ : ∃ nf, nf = bs.length := ⟨_, rfl⟩
  rw [← hnf] at hVf hcf
  obtain ⟨kf, hkf⟩ : ∃ kf : Nat, kf = kept := ⟨_, rfl⟩
  have hr : ((F kA).map fun x => fileV (V kA) x.2) = some (.agg #[.slice Af nf cf, .int .i64 kf]) := by rw [HF.out, hkf]; simp [fileV, hVf]
  have HR := Lib.hid hr
  have HVF := Lib.hid hVf
  have HNF := Lib.hid hnf
  have HKF := Lib.hid hkf
  clear hr hVf hnf hkf hrow hown
  have HM2 := Lib.hid hm2
  clear hm hm2
  go_wp2_with (at_lookup; (refine wpList_look rfl _ _ 27 rfl 43 Tryd.underlying27 (zeroF' _) mb N _ rfl HMap.out kA rfl hkl _ HR.out ?_))
  have hba := ((Below.refl w2.heap.size w2).alloc (Nat.le_refl _) (.cells #[.slice Af nf cf, .int .i64 kf] 43 (0, 0))).drew
  have hqf := heap_alloc_new w2 (.cells #[.slice Af nf cf, .int .i64 kf] 43 (0, 0))
  have hsa := World.size_alloc w2 (.cells #[.slice Af nf cf, .int .i64 kf] 43 (0, 0))
  obtain ⟨qf, hqe⟩ : ∃ qf, qf = w2.heap.size := ⟨_, rfl⟩
  have hz2 := hb2.size
  have hltD := HD.out.lt
  have hltM : ∀ g, D g → g < w.heap.size := fun g hg => HM.out.lt hg
  have HB3 := Lib.hid (hb2.trans (hba.mono (by omega)))
  have HQ13 := Lib.hid ((hba.block _ (by omega)).trans HQ1.out)
  have HQ23 := Lib.hid ((hba.block _ (by omega)).trans HQ2.out)
  have HQ33 := Lib.hid (show ((w2.alloc (.cells #[.slice Af nf cf, .int .i64 kf] 43 (0, 0))).drew).heap[qf]? = some (.cells #[.slice Af nf cf, .int .i64 kf] 43 (0, 0)) by rw [hqe]; exact hqf)
  have HM3 := Lib.hid (HM2.out.below hba)
  have HD3 := Lib.hid ((HD.out.below hb2).below hba)
  have hs3 : ((w2.alloc (.cells #[.slice Af nf cf, .int .i64 kf] 43 (0, 0))).drew).heap.size = qf + 1 := by rw [hqe]; exact hsa
  rw [← hqe] at ⊢
  generalize (w2.alloc (.cells #[.slice Af nf cf, .int .i64 kf] 43 (0, 0))).drew = w3 at *
  have hqf1 : w.heap.size ≤ qf := by omega
  have hqsf : qs < qf := by omega
  have hnt : ∀ g, w.heap.size ≤ g → ¬ TouchD C pw g := fun g hg h => by have := hltD g h; omega
  have hnd : ∀ g, D g → ¬ TouchD C pw g := fun g hg h => by
    rcases h with h | h
    · exact hcd g h hg
    · exact hdp (h ▸ hg)
  have hqd : ∀ g, w.heap.size ≤ g → ¬ D g := fun g hg h => by have := hltM g h; omega
  have HNT := Lib.hid hnt
  have HND := Lib.hid hnd
  have HQD := Lib.hid hqd
  clear hba hqf hsa hqe HQ1 HQ2 HMap HM2 m1 s0 s3 s4 c0 hnt hnd hqd hmt HR
  refine (dsRemoveOff B C nb a pw t l u room F kA bs kept w3 HD3.out hl hu hkl HF.out).mono ?_
  rintro e w4 ⟨rfl, hb4⟩
  go_wp2_with (fail)
  exact ⟨rfl, rfl, HB3.out.trans (hb4.mono HB3.out.size)⟩
set_option maxHeartbeats 4000000 in
set_option maxRecDepth 100000 in
theorem doCutOff (B B' nb a pw t N mp mb dO A8 B8 bits ns cs : Nat) (As : Option Addr) (C D : Nat → Prop) (l u room : Int) (F : Files) (bs : List UInt8) (kept : Nat) (m : Nat) (w : World) (h : Both B w C D nb N a pw mp mb l u room F t) (hn : NamesLaid w B') (_hB' : B' ≤ w.heap.size) (_hd8 : dO < 256) (hA8 : A8 < 256) (hB8 : B8 < 256) (_hnb : nb < 1000000) (_hN : N < 1000000) (hdo : dO % 8 = 6) (hF : F (nameAt A8) = some (bs, kept)) (hl : 0 ≤ l) (hu : l ≤ u) (hm1 : m ≤ bs.length) (hm2 : m ≤ 127) :
    Calls Tryd.prog 7 #[.pointer (some ⟨mp, 0, none⟩), .pointer (some ⟨a, 0, none⟩), stepV dO A8 B8 (.slice As ns cs) (m : Int) bits] w (fun e w' => e = .panicked [{ v := offV, recovered := false }] ∧ Below w.heap.size w w') := by
  obtain ⟨na, nc, hn1, hn2, hn3⟩ := hn.at_
  have hnA := hn3 A8
  have hnB := hn3 B8
  obtain ⟨kA, hkA⟩ : ∃ kA, kA = nameAt A8 := ⟨_, rfl⟩
  obtain ⟨kB, hkB⟩ : ∃ kB, kB = nameAt B8 := ⟨_, rfl⟩
  obtain ⟨iA, hiA⟩ : ∃ iA, iA = A8 % 4 := ⟨_, rfl⟩
  obtain ⟨iB, hiB⟩ : ∃ iB, iB = B8 % 4 := ⟨_, rfl⟩
  rw [← hkA, ← hiA] at hnA
  rw [← hkB, ← hiB] at hnB
  have hA1 : (A8 : Int) % 4 = (iA : Int) := by omega
  have hA2 : (A8 : Int).tmod 4 = (iA : Int) := by rw [Int.tmod_eq_emod_of_nonneg (by omega)]; exact hA1
  have hA3 : IntKind.u8.wrap (iA : Int) = (iA : Int) := IntWalk.u8_in _ (by omega)
  have hB1 : (B8 : Int) % 4 = (iB : Int) := by omega
  have hB2 : (B8 : Int).tmod 4 = (iB : Int) := by rw [Int.tmod_eq_emod_of_nonneg (by omega)]; exact hB1
  have hB3 : IntKind.u8.wrap (iB : Int) = (iB : Int) := IntWalk.u8_in _ (by omega)
  have hiA4 : iA < 4 := by omega
  have hiB4 : iB < 4 := by omega
  have hO1 : (dO : Int) % 8 = 6 := by omega
  have hO2 : (dO : Int).tmod 8 = 6 := by rw [Int.tmod_eq_emod_of_nonneg (by omega)]; exact hO1
  have hO3 : IntKind.u8.wrap 6 = 6 := IntWalk.u8_in _ (by omega)
  have hw8 : IntKind.i64.wrap (m : Int) = (m : Int) := IntWalk.i64_in _ (by omega)
  clear hiA hiB hn3
  have HD := Lib.hid h.ds
  have HM := Lib.hid h.md
  have hcd := h.cd
  have hdp := h.dp
  have hdb := h.db
  have hF' : F kA = some (bs, kept) := by rw [hkA]; exact hF
  have HF := Lib.hid hF'
  have hkl : kA.length ≤ maxLen := by rw [hkA]; exact nameAt_len _
  have hkl2 : kB.length ≤ maxLen := by rw [hkB]; exact nameAt_len _
  have hBw := HD.out.size
  clear h hF hF' hkA hkB
  unfold stepV
  go_enter Tryd.func7, Tryd.ntmps7
  go_wp2_with (fail)
  have hb2 := ((Below.refl w.heap.size w).alloc (Nat.le_refl _) (.cells #[.pointer (some ⟨mp, 0, none⟩)] 26 (0, 0))).alloc (by rw [World.size_alloc]; omega) (.cells #[.int .u8 dO, .int .u8 A8, .int .u8 B8, .slice As ns cs, .int .i8 (m : Int), .int .u64 bits] 34 (0, 0))
  have hs2 : ((w.alloc (.cells #[.pointer (some ⟨mp, 0, none⟩)] 26 (0, 0))).alloc (.cells #[.int .u8 dO, .int .u8 A8, .int .u8 B8, .slice As ns cs, .int .i8 (m : Int), .int .u64 bits] 34 (0, 0))).heap.size = w.heap.size + 2 := by rw [World.size_alloc, World.size_alloc]
  have hq1 : ((w.alloc (.cells #[.pointer (some ⟨mp, 0, none⟩)] 26 (0, 0))).alloc (.cells #[.int .u8 dO, .int .u8 A8, .int .u8 B8, .slice As ns cs, .int .i8 (m : Int), .int .u64 bits] 34 (0, 0))).heap[w.heap.size]? = some (.cells #[.pointer (some ⟨mp, 0, none⟩)] 26 (0, 0)) := heap_alloc_keep (heap_alloc_new _ _) _
  have hq2 : ((w.alloc (.cells #[.pointer (some ⟨mp, 0, none⟩)] 26 (0, 0))).alloc (.cells #[.int .u8 dO, .int .u8 A8, .int .u8 B8, .slice As ns cs, .int .i8 (m : Int), .int .u64 bits] 34 (0, 0))).heap[w.heap.size + 1]? = some (.cells #[.int .u8 dO, .int .u8 A8, .int .u8 B8, .slice As ns cs, .int .i8 (m : Int), .int .u64 bits] 34 (0, 0)) := by
    have := heap_alloc_new (w.alloc (.cells #[.pointer (some ⟨mp, 0, none⟩)] 26 (0, 0))) (.cells #[.int .u8 dO, .int .u8 A8, .int .u8 B8, .slice As ns cs, .int .i8 (m : Int), .int .u64 bits] 34 (0, 0))
    rw [World.size_alloc] at this
    exact this
  generalize (w.alloc (.cells #[.pointer (some ⟨mp, 0, none⟩)] 26 (0, 0))).alloc (.cells #[.int .u8 dO, .int .u8 A8, .int .u8 B8, .slice As ns cs, .int .i8 (m : Int), .int .u64 bits] 34 (0, 0)) = w2 at *
  obtain ⟨qm, hqm⟩ : ∃ qm, qm = w.heap.size := ⟨_, rfl⟩
  rw [← hqm] at hq1 hq2 ⊢
  obtain ⟨qs, hqs⟩ : ∃ qs, qs = qm + 1 := ⟨_, rfl⟩
  rw [← hqs] at hq2 ⊢
  have hqm1 : w.heap.size ≤ qm := by omega
  have hqm2 : qm < qs := by omega
  have hqs2 : qs < w2.heap.size := by omega
  clear hqm hqs hs2
  have HQ1 := Lib.hid hq1
  have HQ2 := Lib.hid hq2
  have m1 : w2.cell? ⟨qm, 0, none⟩ = some (.pointer (some ⟨mp, 0, none⟩)) := by rw [cell_of_blk hq1]; rfl
  have s0 : w2.cell? ⟨qs, 0, none⟩ = some (.int .u8 dO) := by rw [cell_of_blk hq2]; rfl
  have s1 : w2.cell? ⟨qs, 1, none⟩ = some (.int .u8 A8) := by rw [cell_of_blk hq2]; rfl
  have s2 : w2.cell? ⟨qs, 2, none⟩ = some (.int .u8 B8) := by rw [cell_of_blk hq2]; rfl
  have s3 : w2.cell? ⟨qs, 3, none⟩ = some (.slice As ns cs) := by rw [cell_of_blk hq2]; rfl
  have s4 : w2.cell? ⟨qs, 4, none⟩ = some (.int .i8 (m : Int)) := by rw [cell_of_blk hq2]; rfl
  have n0 : w2.cell? ⟨0, 0, none⟩ = some (.slice (some na) 4 nc) := cellk hb2 (by show 0 < w.heap.size; have := hn.lt; omega) hn1
  have n1 : w2.cell? (na.add iA) = some (txt kA) := cellk hb2 (by rw [block_of_add]; omega) hnA
  have n2 : w2.cell? (na.add iB) = some (txt kB) := cellk hb2 (by rw [block_of_add]; omega) hnB
  have i0 : (0 : Int) ≤ (iA : Int) := by omega
  have i1 : (iA : Int) < 4 := by omega
  have i2 : (0 : Int) ≤ (iB : Int) := by omega
  have i3 : (iB : Int) < 4 := by omega
  clear hq1 hq2 hnA hnB hn1 hn
  go_region_held3 (fun w' => w'.cell? ⟨qs, 1, none⟩ = some (.int .u8 A8) ∧ w'.cell? ⟨qs, 2, none⟩ = some (.int .u8 B8) ∧ w'.cell? ⟨0, 0, none⟩ = some (.slice (some na) 4 nc) ∧ w'.cell? (na.add iA) = some (txt kA) ∧ w'.cell? (na.add iB) = some (txt kB)) (first | exact ⟨s1, s2, n0, n1, n2⟩ | go_keep) (fail)
  clear s1 s2 n0 n1 n2 i0 i1 i2 i3
  obtain ⟨V, hm⟩ := HM.out
  have hm2 := hm.below hb2
  have HMap := Lib.hid hm2.map
  have hmt := hm2.lt
  have c0 : w2.cell? ⟨mp, 0, none⟩ = some (.map (some mb)) := hm2.c0
  obtain ⟨hrow, hown⟩ := hm2.file kA bs kept HF.out
  obtain ⟨Af, cf, hVf, hcf⟩ := hrow.form
  obtain ⟨nf, hnf⟩ : ∃ nf, nf = bs.length := ⟨_, rfl⟩
  rw [← hnf] at hVf hcf
  obtain ⟨kf, hkf⟩ : ∃ kf : Nat, kf = kept := ⟨_, rfl⟩
  have hr : ((F kA).map fun x => fileV (V kA) x.2) = some (.agg #[.slice Af nf cf, .int .i64 kf]) := by rw [HF.out, hkf]; simp [fileV, hVf]
  have HR := Lib.hid hr
  have HVF := Lib.hid hVf
  have HNF := Lib.hid hnf
  have HKF := Lib.hid hkf
  clear hr hVf hnf hkf hrow hown
  have HM2 := Lib.hid hm2
  clear hm hm2
  go_wp2_with (at_lookup; (refine wpList_look rfl _ _ 27 rfl 43 Tryd.underlying27 (zeroF' _) mb N _ rfl HMap.out kA rfl hkl _ HR.out ?_))
  have hba := ((Below.refl w2.heap.size w2).alloc (Nat.le_refl _) (.cells #[.slice Af nf cf, .int .i64 kf] 43 (0, 0))).drew
  have hqf := heap_alloc_new w2 (.cells #[.slice Af nf cf, .int .i64 kf] 43 (0, 0))
  have hsa := World.size_alloc w2 (.cells #[.slice Af nf cf, .int .i64 kf] 43 (0, 0))
  obtain ⟨qf, hqe⟩ : ∃ qf, qf = w2.heap.size := ⟨_, rfl⟩
  have hz2 := hb2.size
  have hltD := HD.out.lt
  have hltM : ∀ g, D g → g < w.heap.size := fun g hg => HM.out.lt hg
  have HB3 := Lib.hid (hb2.trans (hba.mono (by omega)))
  have HQ13 := Lib.hid ((hba.block _ (by omega)).trans HQ1.out)
  have HQ23 := Lib.hid ((hba.block _ (by omega)).trans HQ2.out)
  have HQ33 := Lib.hid (show ((w2.alloc (.cells #[.slice Af nf cf, .int .i64 kf] 43 (0, 0))).drew).heap[qf]? = some (.cells #[.slice Af nf cf, .int .i64 kf] 43 (0, 0)) by rw [hqe]; exact hqf)
  have HM3 := Lib.hid (HM2.out.below hba)
  have HD3 := Lib.hid ((HD.out.below hb2).below hba)
  have hs3 : ((w2.alloc (.cells #[.slice Af nf cf, .int .i64 kf] 43 (0, 0))).drew).heap.size = qf + 1 := by rw [hqe]; exact hsa
  rw [← hqe] at ⊢
  generalize (w2.alloc (.cells #[.slice Af nf cf, .int .i64 kf] 43 (0, 0))).drew = w3 at *
  have hqf1 : w.heap.size ≤ qf := by omega
  have hqsf : qs < qf := by omega
  have hnt : ∀ g, w.heap.size ≤ g → ¬ TouchD C pw g := fun g hg h => by have := hltD g h; omega
  have hnd : ∀ g, D g → ¬ TouchD C pw g := fun g hg h => by
    rcases h with h | h
    · exact hcd g h hg
    · exact hdp (h ▸ hg)
  have hqd : ∀ g, w.heap.size ≤ g → ¬ D g := fun g hg h => by have := hltM g h; omega
  have HNT := Lib.hid hnt
  have HND := Lib.hid hnd
  have HQD := Lib.hid hqd
  clear hba hqf hsa hqe HQ1 HQ2 HMap HM2 m1 s0 s3 s4 c0 hnt hnd hqd hmt HR
  refine (dsCutOff B C nb a pw t m l u room F kA bs kept w3 HD3.out hl hu hkl HF.out hm1).mono ?_
  rintro e w4 ⟨rfl, hb4⟩
  go_wp2_with (fail)
  exact ⟨rfl, rfl, HB3.out.trans (hb4.mono HB3.out.size)⟩
set_option maxHeartbeats 4000000 in
set_option maxRecDepth 100000 in
theorem doAppOff (B B' nb a pw t N mp mb dO A8 B8 bits ns cs : Nat) (As : Option Addr) (C D : Nat → Prop) (l u room nn : Int) (F : Files) (bs : List UInt8) (kept : Nat) (v : Nat) (w : World) (h : Both B w C D nb N a pw mp mb l u room F t) (hn : NamesLaid w B') (_hB' : B' ≤ w.heap.size) (_hd8 : dO < 256) (hA8 : A8 < 256) (hB8 : B8 < 256) (_hnb : nb < 1000000) (_hN : N < 1000000) (_hv : v < 3) (hdo : dO % 8 = v) (hF : F (nameAt A8) = some (bs, kept)) (hl : 0 ≤ l) (hu : l ≤ u) (_hns : ns ≤ 1000) (hroom : (t : Int) + ns ≤ room) :
    Calls Tryd.prog 7 #[.pointer (some ⟨mp, 0, none⟩), .pointer (some ⟨a, 0, none⟩), stepV dO A8 B8 (.slice As ns cs) nn bits] w (fun e w' => e = .panicked [{ v := offV, recovered := false }] ∧ Below w.heap.size w w') := by
  obtain ⟨na, nc, hn1, hn2, hn3⟩ := hn.at_
  have hnA := hn3 A8
  have hnB := hn3 B8
  obtain ⟨kA, hkA⟩ : ∃ kA, kA = nameAt A8 := ⟨_, rfl⟩
  obtain ⟨kB, hkB⟩ : ∃ kB, kB = nameAt B8 := ⟨_, rfl⟩
  obtain ⟨iA, hiA⟩ : ∃ iA, iA = A8 % 4 := ⟨_, rfl⟩
  obtain ⟨iB, hiB⟩ : ∃ iB, iB = B8 % 4 := ⟨_, rfl⟩
  rw [← hkA, ← hiA] at hnA
  rw [← hkB, ← hiB] at hnB
  have hA1 : (A8 : Int) % 4 = (iA : Int) := by omega
  have hA2 : (A8 : Int).tmod 4 = (iA : Int) := by rw [Int.tmod_eq_emod_of_nonneg (by omega)]; exact hA1
  have hA3 : IntKind.u8.wrap (iA : Int) = (iA : Int) := IntWalk.u8_in _ (by omega)
  have hB1 : (B8 : Int) % 4 = (iB : Int) := by omega
  have hB2 : (B8 : Int).tmod 4 = (iB : Int) := by rw [Int.tmod_eq_emod_of_nonneg (by omega)]; exact hB1
  have hB3 : IntKind.u8.wrap (iB : Int) = (iB : Int) := IntWalk.u8_in _ (by omega)
  have hiA4 : iA < 4 := by omega
  have hiB4 : iB < 4 := by omega
  have hO1 : (dO : Int) % 8 = (v : Int) := by omega
  have hO2 : (dO : Int).tmod 8 = (v : Int) := by rw [Int.tmod_eq_emod_of_nonneg (by omega)]; exact hO1
  have hO3 : IntKind.u8.wrap (v : Int) = (v : Int) := IntWalk.u8_in _ (by omega)
  have e3 : (((v : Nat) : Int) == 3) = false := beq_eq_false_iff_ne.2 (by omega)
  have e4 : (((v : Nat) : Int) == 4) = false := beq_eq_false_iff_ne.2 (by omega)
  have e5 : (((v : Nat) : Int) == 5) = false := beq_eq_false_iff_ne.2 (by omega)
  have e6 : (((v : Nat) : Int) == 6) = false := beq_eq_false_iff_ne.2 (by omega)
  have e7 : (((v : Nat) : Int) == 7) = false := beq_eq_false_iff_ne.2 (by omega)
  clear hiA hiB hn3
  have HD := Lib.hid h.ds
  have HM := Lib.hid h.md
  have hcd := h.cd
  have hdp := h.dp
  have hdb := h.db
  have hF' : F kA = some (bs, kept) := by rw [hkA]; exact hF
  have HF := Lib.hid hF'
  have hkl : kA.length ≤ maxLen := by rw [hkA]; exact nameAt_len _
  have hkl2 : kB.length ≤ maxLen := by rw [hkB]; exact nameAt_len _
  have hBw := HD.out.size
  clear h hF hF' hkA hkB
  unfold stepV
  go_enter Tryd.func7, Tryd.ntmps7
  go_wp2_with (fail)
  have hb2 := ((Below.refl w.heap.size w).alloc (Nat.le_refl _) (.cells #[.pointer (some ⟨mp, 0, none⟩)] 26 (0, 0))).alloc (by rw [World.size_alloc]; omega) (.cells #[.int .u8 dO, .int .u8 A8, .int .u8 B8, .slice As ns cs, .int .i8 nn, .int .u64 bits] 34 (0, 0))
  have hs2 : ((w.alloc (.cells #[.pointer (some ⟨mp, 0, none⟩)] 26 (0, 0))).alloc (.cells #[.int .u8 dO, .int .u8 A8, .int .u8 B8, .slice As ns cs, .int .i8 nn, .int .u64 bits] 34 (0, 0))).heap.size = w.heap.size + 2 := by rw [World.size_alloc, World.size_alloc]
  have hq1 : ((w.alloc (.cells #[.pointer (some ⟨mp, 0, none⟩)] 26 (0, 0))).alloc (.cells #[.int .u8 dO, .int .u8 A8, .int .u8 B8, .slice As ns cs, .int .i8 nn, .int .u64 bits] 34 (0, 0))).heap[w.heap.size]? = some (.cells #[.pointer (some ⟨mp, 0, none⟩)] 26 (0, 0)) := heap_alloc_keep (heap_alloc_new _ _) _
  have hq2 : ((w.alloc (.cells #[.pointer (some ⟨mp, 0, none⟩)] 26 (0, 0))).alloc (.cells #[.int .u8 dO, .int .u8 A8, .int .u8 B8, .slice As ns cs, .int .i8 nn, .int .u64 bits] 34 (0, 0))).heap[w.heap.size + 1]? = some (.cells #[.int .u8 dO, .int .u8 A8, .int .u8 B8, .slice As ns cs, .int .i8 nn, .int .u64 bits] 34 (0, 0)) := by
    have := heap_alloc_new (w.alloc (.cells #[.pointer (some ⟨mp, 0, none⟩)] 26 (0, 0))) (.cells #[.int .u8 dO, .int .u8 A8, .int .u8 B8, .slice As ns cs, .int .i8 nn, .int .u64 bits] 34 (0, 0))
    rw [World.size_alloc] at this
    exact this
  generalize (w.alloc (.cells #[.pointer (some ⟨mp, 0, none⟩)] 26 (0, 0))).alloc (.cells #[.int .u8 dO, .int .u8 A8, .int .u8 B8, .slice As ns cs, .int .i8 nn, .int .u64 bits] 34 (0, 0)) = w2 at *
  obtain ⟨qm, hqm⟩ : ∃ qm, qm = w.heap.size := ⟨_, rfl⟩
  rw [← hqm] at hq1 hq2 ⊢
  obtain ⟨qs, hqs⟩ : ∃ qs, qs = qm + 1 := ⟨_, rfl⟩
  rw [← hqs] at hq2 ⊢
  have hqm1 : w.heap.size ≤ qm := by omega
  have hqm2 : qm < qs := by omega
  have hqs2 : qs < w2.heap.size := by omega
  clear hqm hqs hs2
  have HQ1 := Lib.hid hq1
  have HQ2 := Lib.hid hq2
  have m1 : w2.cell? ⟨qm, 0, none⟩ = some (.pointer (some ⟨mp, 0, none⟩)) := by rw [cell_of_blk hq1]; rfl
  have s0 : w2.cell? ⟨qs, 0, none⟩ = some (.int .u8 dO) := by rw [cell_of_blk hq2]; rfl
  have s1 : w2.cell? ⟨qs, 1, none⟩ = some (.int .u8 A8) := by rw [cell_of_blk hq2]; rfl
  have s2 : w2.cell? ⟨qs, 2, none⟩ = some (.int .u8 B8) := by rw [cell_of_blk hq2]; rfl
  have s3 : w2.cell? ⟨qs, 3, none⟩ = some (.slice As ns cs) := by rw [cell_of_blk hq2]; rfl
  have s4 : w2.cell? ⟨qs, 4, none⟩ = some (.int .i8 nn) := by rw [cell_of_blk hq2]; rfl
  have n0 : w2.cell? ⟨0, 0, none⟩ = some (.slice (some na) 4 nc) := cellk hb2 (by show 0 < w.heap.size; have := hn.lt; omega) hn1
  have n1 : w2.cell? (na.add iA) = some (txt kA) := cellk hb2 (by rw [block_of_add]; omega) hnA
  have n2 : w2.cell? (na.add iB) = some (txt kB) := cellk hb2 (by rw [block_of_add]; omega) hnB
  have i0 : (0 : Int) ≤ (iA : Int) := by omega
  have i1 : (iA : Int) < 4 := by omega
  have i2 : (0 : Int) ≤ (iB : Int) := by omega
  have i3 : (iB : Int) < 4 := by omega
  clear hq1 hq2 hnA hnB hn1 hn
  go_region_held3 (fun w' => w'.cell? ⟨qs, 1, none⟩ = some (.int .u8 A8) ∧ w'.cell? ⟨qs, 2, none⟩ = some (.int .u8 B8) ∧ w'.cell? ⟨0, 0, none⟩ = some (.slice (some na) 4 nc) ∧ w'.cell? (na.add iA) = some (txt kA) ∧ w'.cell? (na.add iB) = some (txt kB)) (first | exact ⟨s1, s2, n0, n1, n2⟩ | go_keep) (fail)
  clear s1 s2 n0 n1 n2 i0 i1 i2 i3
  obtain ⟨V, hm⟩ := HM.out
  have hm2 := hm.below hb2
  have HMap := Lib.hid hm2.map
  have hmt := hm2.lt
  have c0 : w2.cell? ⟨mp, 0, none⟩ = some (.map (some mb)) := hm2.c0
  obtain ⟨hrow, hown⟩ := hm2.file kA bs kept HF.out
  obtain ⟨Af, cf, hVf, hcf⟩ := hrow.form
  obtain ⟨nf, hnf⟩ : ∃ nf, nf = bs.length := ⟨_, rfl⟩
  rw [← hnf] at hVf hcf
  obtain ⟨kf, hkf⟩ : ∃ kf : Nat, kf = kept := ⟨_, rfl⟩
  have hr : ((F kA).map fun x => fileV (V kA) x.2) = some (.agg #[.slice Af nf cf, .int .i64 kf]) := by rw [HF.out, hkf]; simp [fileV, hVf]
  have HR := Lib.hid hr
  have HVF := Lib.hid hVf
  have HNF := Lib.hid hnf
  have HKF := Lib.hid hkf
  clear hr hVf hnf hkf hrow hown
  have HM2 := Lib.hid hm2
  clear hm hm2
  go_wp2_with (at_lookup; (refine wpList_look rfl _ _ 27 rfl 43 Tryd.underlying27 (zeroF' _) mb N _ rfl HMap.out kA rfl hkl _ HR.out ?_))
  have hba := ((Below.refl w2.heap.size w2).alloc (Nat.le_refl _) (.cells #[.slice Af nf cf, .int .i64 kf] 43 (0, 0))).drew
  have hqf := heap_alloc_new w2 (.cells #[.slice Af nf cf, .int .i64 kf] 43 (0, 0))
  have hsa := World.size_alloc w2 (.cells #[.slice Af nf cf, .int .i64 kf] 43 (0, 0))
  obtain ⟨qf, hqe⟩ : ∃ qf, qf = w2.heap.size := ⟨_, rfl⟩
  have hz2 := hb2.size
  have hltD := HD.out.lt
  have hltM : ∀ g, D g → g < w.heap.size := fun g hg => HM.out.lt hg
  have HB3 := Lib.hid (hb2.trans (hba.mono (by omega)))
  have HQ13 := Lib.hid ((hba.block _ (by omega)).trans HQ1.out)
  have HQ23 := Lib.hid ((hba.block _ (by omega)).trans HQ2.out)
  have HQ33 := Lib.hid (show ((w2.alloc (.cells #[.slice Af nf cf, .int .i64 kf] 43 (0, 0))).drew).heap[qf]? = some (.cells #[.slice Af nf cf, .int .i64 kf] 43 (0, 0)) by rw [hqe]; exact hqf)
  have HM3 := Lib.hid (HM2.out.below hba)
  have HD3 := Lib.hid ((HD.out.below hb2).below hba)
  have hs3 : ((w2.alloc (.cells #[.slice Af nf cf, .int .i64 kf] 43 (0, 0))).drew).heap.size = qf + 1 := by rw [hqe]; exact hsa
  rw [← hqe] at ⊢
  generalize (w2.alloc (.cells #[.slice Af nf cf, .int .i64 kf] 43 (0, 0))).drew = w3 at *
  have hqf1 : w.heap.size ≤ qf := by omega
  have hqsf : qs < qf := by omega
  have hnt : ∀ g, w.heap.size ≤ g → ¬ TouchD C pw g := fun g hg h => by have := hltD g h; omega
  have hnd : ∀ g, D g → ¬ TouchD C pw g := fun g hg h => by
    rcases h with h | h
    · exact hcd g h hg
    · exact hdp (h ▸ hg)
  have hqd : ∀ g, w.heap.size ≤ g → ¬ D g := fun g hg h => by have := hltM g h; omega
  have HNT := Lib.hid hnt
  have HND := Lib.hid hnd
  have HQD := Lib.hid hqd
  clear hba hqf hsa hqe HQ1 HQ2 HMap HM2 m1 s0 s3 s4 c0 hnt hnd hqd hmt HR
  refine (dsAppendOff B C nb a pw t l u room F kA As ns cs w3 HD3.out hl hu (by omega) hroom).mono ?_
  rintro e w4 ⟨rfl, hb4⟩
  go_wp2_with (fail)
  exact ⟨rfl, rfl, HB3.out.trans (hb4.mono HB3.out.size)⟩
set_option maxHeartbeats 4000000 in
set_option maxRecDepth 100000 in
theorem doAppNOff (B B' nb a pw t N mp mb dO A8 B8 bits ns cs : Nat) (As : Option Addr) (C D : Nat → Prop) (l u room nn : Int) (F : Files) (v : Nat) (w : World) (h : Both B w C D nb N a pw mp mb l u room F t) (hn : NamesLaid w B') (_hB' : B' ≤ w.heap.size) (_hd8 : dO < 256) (hA8 : A8 < 256) (hB8 : B8 < 256) (_hnb : nb < 1000000) (_hN : N < 1000000) (_hv : v < 3) (hdo : dO % 8 = v) (hF : F (nameAt A8) = none) (hl : 0 ≤ l) (hu : l ≤ u) (_hns : ns ≤ 1000) (hroom : (t : Int) + ns ≤ room) :
    Calls Tryd.prog 7 #[.pointer (some ⟨mp, 0, none⟩), .pointer (some ⟨a, 0, none⟩), stepV dO A8 B8 (.slice As ns cs) nn bits] w (fun e w' => e = .panicked [{ v := offV, recovered := false }] ∧ Below w.heap.size w w') := by
  obtain ⟨na, nc, hn1, hn2, hn3⟩ := hn.at_
  have hnA := hn3 A8
  have hnB := hn3 B8
  obtain ⟨kA, hkA⟩ : ∃ kA, kA = nameAt A8 := ⟨_, rfl⟩
  obtain ⟨kB, hkB⟩ : ∃ kB, kB = nameAt B8 := ⟨_, rfl⟩
  obtain ⟨iA, hiA⟩ : ∃ iA, iA = A8 % 4 := ⟨_, rfl⟩
  obtain ⟨iB, hiB⟩ : ∃ iB, iB = B8 % 4 := ⟨_, rfl⟩
  rw [← hkA, ← hiA] at hnA
  rw [← hkB, ← hiB] at hnB
  have hA1 : (A8 : Int) % 4 = (iA : Int) := by omega
  have hA2 : (A8 : Int).tmod 4 = (iA : Int) := by rw [Int.tmod_eq_emod_of_nonneg (by omega)]; exact hA1
  have hA3 : IntKind.u8.wrap (iA : Int) = (iA : Int) := IntWalk.u8_in _ (by omega)
  have hB1 : (B8 : Int) % 4 = (iB : Int) := by omega
  have hB2 : (B8 : Int).tmod 4 = (iB : Int) := by rw [Int.tmod_eq_emod_of_nonneg (by omega)]; exact hB1
  have hB3 : IntKind.u8.wrap (iB : Int) = (iB : Int) := IntWalk.u8_in _ (by omega)
  have hiA4 : iA < 4 := by omega
  have hiB4 : iB < 4 := by omega
  have hO1 : (dO : Int) % 8 = (v : Int) := by omega
  have hO2 : (dO : Int).tmod 8 = (v : Int) := by rw [Int.tmod_eq_emod_of_nonneg (by omega)]; exact hO1
  have hO3 : IntKind.u8.wrap (v : Int) = (v : Int) := IntWalk.u8_in _ (by omega)
  have e3 : (((v : Nat) : Int) == 3) = false := beq_eq_false_iff_ne.2 (by omega)
  have e4 : (((v : Nat) : Int) == 4) = false := beq_eq_false_iff_ne.2 (by omega)
  have e5 : (((v : Nat) : Int) == 5) = false := beq_eq_false_iff_ne.2 (by omega)
  have e6 : (((v : Nat) : Int) == 6) = false := beq_eq_false_iff_ne.2 (by omega)
  have e7 : (((v : Nat) : Int) == 7) = false := beq_eq_false_iff_ne.2 (by omega)
  clear hiA hiB hn3
  have HD := Lib.hid h.ds
  have HM := Lib.hid h.md
  have hcd := h.cd
  have hdp := h.dp
  have hdb := h.db
  have hF' : F kA = none := by rw [hkA]; exact hF
  have HF := Lib.hid hF'
  have hkl : kA.length ≤ maxLen := by rw [hkA]; exact nameAt_len _
  have hkl2 : kB.length ≤ maxLen := by rw [hkB]; exact nameAt_len _
  have hBw := HD.out.size
  clear h hF hF' hkA hkB
  unfold stepV
  go_enter Tryd.func7, Tryd.ntmps7
  go_wp2_with (fail)
  have hb2 := ((Below.refl w.heap.size w).alloc (Nat.le_refl _) (.cells #[.pointer (some ⟨mp, 0, none⟩)] 26 (0, 0))).alloc (by rw [World.size_alloc]; omega) (.cells #[.int .u8 dO, .int .u8 A8, .int .u8 B8, .slice As ns cs, .int .i8 nn, .int .u64 bits] 34 (0, 0))
  have hs2 : ((w.alloc (.cells #[.pointer (some ⟨mp, 0, none⟩)] 26 (0, 0))).alloc (.cells #[.int .u8 dO, .int .u8 A8, .int .u8 B8, .slice As ns cs, .int .i8 nn, .int .u64 bits] 34 (0, 0))).heap.size = w.heap.size + 2 := by rw [World.size_alloc, World.size_alloc]
  have hq1 : ((w.alloc (.cells #[.pointer (some ⟨mp, 0, none⟩)] 26 (0, 0))).alloc (.cells #[.int .u8 dO, .int .u8 A8, .int .u8 B8, .slice As ns cs, .int .i8 nn, .int .u64 bits] 34 (0, 0))).heap[w.heap.size]? = some (.cells #[.pointer (some ⟨mp, 0, none⟩)] 26 (0, 0)) := heap_alloc_keep (heap_alloc_new _ _) _
  have hq2 : ((w.alloc (.cells #[.pointer (some ⟨mp, 0, none⟩)] 26 (0, 0))).alloc (.cells #[.int .u8 dO, .int .u8 A8, .int .u8 B8, .slice As ns cs, .int .i8 nn, .int .u64 bits] 34 (0, 0))).heap[w.heap.size + 1]? = some (.cells #[.int .u8 dO, .int .u8 A8, .int .u8 B8, .slice As ns cs, .int .i8 nn, .int .u64 bits] 34 (0, 0)) := by
    have := heap_alloc_new (w.alloc (.cells #[.pointer (some ⟨mp, 0, none⟩)] 26 (0, 0))) (.cells #[.int .u8 dO, .int .u8 A8, .int .u8 B8, .slice As ns cs, .int .i8 nn, .int .u64 bits] 34 (0, 0))
    rw [World.size_alloc] at this
    exact this
  generalize (w.alloc (.cells #[.pointer (some ⟨mp, 0, none⟩)] 26 (0, 0))).alloc (.cells #[.int .u8 dO, .int .u8 A8, .int .u8 B8, .slice As ns cs, .int .i8 nn, .int .u64 bits] 34 (0, 0)) = w2 at *
  obtain ⟨qm, hqm⟩ : ∃ qm, qm = w.heap.size := ⟨_, rfl⟩
  rw [← hqm] at hq1 hq2 ⊢
  obtain ⟨qs, hqs⟩ : ∃ qs, qs = qm + 1 := ⟨_, rfl⟩
  rw [← hqs] at hq2 ⊢
  have hqm1 : w.heap.size ≤ qm := by omega
  have hqm2 : qm < qs := by omega
  have hqs2 : qs < w2.heap.size := by omega
  clear hqm hqs hs2
  have HQ1 := Lib.hid hq1
  have HQ2 := Lib.hid hq2
  have m1 : w2.cell? ⟨qm, 0, none⟩ = some (.pointer (some ⟨mp, 0, none⟩)) := by rw [cell_of_blk hq1]; rfl
  have s0 : w2.cell? ⟨qs, 0, none⟩ = some (.int .u8 dO) := by rw [cell_of_blk hq2]; rfl
  have s1 : w2.cell? ⟨qs, 1, none⟩ = some (.int .u8 A8) := by rw [cell_of_blk hq2]; rfl
  have s2 : w2.cell? ⟨qs, 2, none⟩ = some (.int .u8 B8) := by rw [cell_of_blk hq2]; rfl
  have s3 : w2.cell? ⟨qs, 3, none⟩ = some (.slice As ns cs) := by rw [cell_of_blk hq2]; rfl
  have s4 : w2.cell? ⟨qs, 4, none⟩ = some (.int .i8 nn) := by rw [cell_of_blk hq2]; rfl
  have n0 : w2.cell? ⟨0, 0, none⟩ = some (.slice (some na) 4 nc) := cellk hb2 (by show 0 < w.heap.size; have := hn.lt; omega) hn1
  have n1 : w2.cell? (na.add iA) = some (txt kA) := cellk hb2 (by rw [block_of_add]; omega) hnA
  have n2 : w2.cell? (na.add iB) = some (txt kB) := cellk hb2 (by rw [block_of_add]; omega) hnB
  have i0 : (0 : Int) ≤ (iA : Int) := by omega
  have i1 : (iA : Int) < 4 := by omega
  have i2 : (0 : Int) ≤ (iB : Int) := by omega
  have i3 : (iB : Int) < 4 := by omega
  clear hq1 hq2 hnA hnB hn1 hn
  go_region_held3 (fun w' => w'.cell? ⟨qs, 1, none⟩ = some (.int .u8 A8) ∧ w'.cell? ⟨qs, 2, none⟩ = some (.int .u8 B8) ∧ w'.cell? ⟨0, 0, none⟩ = some (.slice (some na) 4 nc) ∧ w'.cell? (na.add iA) = some (txt kA) ∧ w'.cell? (na.add iB) = some (txt kB)) (first | exact ⟨s1, s2, n0, n1, n2⟩ | go_keep) (fail)
  clear s1 s2 n0 n1 n2 i0 i1 i2 i3
  obtain ⟨V, hm⟩ := HM.out
  have hm2 := hm.below hb2
  have HMap := Lib.hid hm2.map
  have hmt := hm2.lt
  have c0 : w2.cell? ⟨mp, 0, none⟩ = some (.map (some mb)) := hm2.c0
  have HR := Lib.hid (show ((F kA).map fun x => fileV (V kA) x.2) = none by rw [HF.out]; rfl)
  have HM2 := Lib.hid hm2
  clear hm hm2
  go_wp2_with (at_lookup; (refine wpList_look rfl _ _ 27 rfl 43 Tryd.underlying27 (zeroF' _) mb N _ rfl HMap.out kA rfl hkl _ HR.out ?_))
  have hba := ((Below.refl w2.heap.size w2).alloc (Nat.le_refl _) (.cells #[.slice none 0 0, .int .i64 0] 43 (0, 0))).drew
  have hqf := heap_alloc_new w2 (.cells #[.slice none 0 0, .int .i64 0] 43 (0, 0))
  have hsa := World.size_alloc w2 (.cells #[.slice none 0 0, .int .i64 0] 43 (0, 0))
  obtain ⟨qf, hqe⟩ : ∃ qf, qf = w2.heap.size := ⟨_, rfl⟩
  have hz2 := hb2.size
  have hltD := HD.out.lt
  have hltM : ∀ g, D g → g < w.heap.size := fun g hg => HM.out.lt hg
  have HB3 := Lib.hid (hb2.trans (hba.mono (by omega)))
  have HQ13 := Lib.hid ((hba.block _ (by omega)).trans HQ1.out)
  have HQ23 := Lib.hid ((hba.block _ (by omega)).trans HQ2.out)
  have HQ33 := Lib.hid (show ((w2.alloc (.cells #[.slice none 0 0, .int .i64 0] 43 (0, 0))).drew).heap[qf]? = some (.cells #[.slice none 0 0, .int .i64 0] 43 (0, 0)) by rw [hqe]; exact hqf)
  have HM3 := Lib.hid (HM2.out.below hba)
  have HD3 := Lib.hid ((HD.out.below hb2).below hba)
  have hs3 : ((w2.alloc (.cells #[.slice none 0 0, .int .i64 0] 43 (0, 0))).drew).heap.size = qf + 1 := by rw [hqe]; exact hsa
  rw [← hqe] at ⊢
  generalize (w2.alloc (.cells #[.slice none 0 0, .int .i64 0] 43 (0, 0))).drew = w3 at *
  have hqf1 : w.heap.size ≤ qf := by omega
  have hqsf : qs < qf := by omega
  have hnt : ∀ g, w.heap.size ≤ g → ¬ TouchD C pw g := fun g hg h => by have := hltD g h; omega
  have hnd : ∀ g, D g → ¬ TouchD C pw g := fun g hg h => by
    rcases h with h | h
    · exact hcd g h hg
    · exact hdp (h ▸ hg)
  have hqd : ∀ g, w.heap.size ≤ g → ¬ D g := fun g hg h => by have := hltM g h; omega
  have HNT := Lib.hid hnt
  have HND := Lib.hid hnd
  have HQD := Lib.hid hqd
  clear hba hqf hsa hqe HQ1 HQ2 HMap HM2 m1 s0 s3 s4 c0 hnt hnd hqd hmt HR
  refine (dsAppendOff B C nb a pw t l u room F kA As ns cs w3 HD3.out hl hu (by omega) hroom).mono ?_
  rintro e w4 ⟨rfl, hb4⟩
  go_wp2_with (fail)
  exact ⟨rfl, rfl, HB3.out.trans (hb4.mono HB3.out.size)⟩
theorem doAllOff (B B' nb a pw t N mp mb dO A8 B8 bits ns cs : Nat) (As : Option Addr) (C D : Nat → Prop) (l u room nn : Int) (F : Files) (w : World) (h : Both B w C D nb N a pw mp mb l u room F t) (hn : NamesLaid w B') (hB' : B' ≤ w.heap.size) (hd8 : dO < 256) (hA8 : A8 < 256) (hB8 : B8 < 256) (hnb : nb < 1000000) (hN : N < 1000000)
    (hl : 0 ≤ l) (hu : l ≤ u) (hn1 : nn ≤ 127) (hns : ns ≤ 1000) (hs : stepB dO (F (nameAt A8)) ns nn room t = true) :
    Calls Tryd.prog 7 #[.pointer (some ⟨mp, 0, none⟩), .pointer (some ⟨a, 0, none⟩), stepV dO A8 B8 (.slice As ns cs) nn bits] w (fun e w' => e = .panicked [{ v := offV, recovered := false }] ∧ Below w.heap.size w w') := by
  have hv : dO % 8 < 8 := Nat.mod_lt _ (by omega)
  obtain ⟨v, hve⟩ : ∃ v, v = dO % 8 := ⟨_, rfl⟩
  unfold stepB at hs
  rw [← hve] at hv hs
  by_cases h3 : v < 3
  · rw [if_pos h3] at hs
    have hr : (t : Int) + ns ≤ room := by simpa using hs
    cases hF : F (nameAt A8) with
    | none => apply doAppNOff (h := h) (hn := hn) (hdo := hve.symm) <;> first | assumption | omega
    | some x =>
      obtain ⟨bs, kept⟩ := x
      apply doAppOff (h := h) (hn := hn) (hdo := hve.symm) (hF := hF) <;> first | assumption | omega
  · rw [if_neg h3] at hs
    have hc : v = 3 ∨ v = 4 ∨ v = 5 ∨ v = 6 ∨ v = 7 := by omega
    cases hF : F (nameAt A8) with
    | none => rw [hF] at hs; rcases hc with rfl | rfl | rfl | rfl | rfl <;> simp at hs
    | some x =>
      obtain ⟨bs, kept⟩ := x
      rw [hF] at hs
      rcases hc with rfl | rfl | rfl | rfl | rfl
      · apply doSyncOff (h := h) (hn := hn) (hF := hF) <;> first | assumption | omega
      · apply doMoveOff (h := h) (hn := hn) (hF := hF) <;> first | assumption | omega
      · apply doRemoveOff (h := h) (hn := hn) (hF := hF) <;> first | assumption | omega
      · have hr : 0 ≤ nn ∧ nn ≤ (bs.length : Int) := by simpa using hs
        obtain ⟨m, rfl⟩ := Int.eq_ofNat_of_zero_le hr.1
        apply doCutOff (h := h) (hn := hn) (hF := hF) <;> first | assumption | omega
      · simp at hs
end Go.Proofs.YtfccoiofpmhbdaaDoor
