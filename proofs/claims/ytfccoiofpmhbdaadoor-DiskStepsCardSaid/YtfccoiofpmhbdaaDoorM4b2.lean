/- selionlaw04.M.Do: an append, on a disk and on the law's own. Condition: both are as told. -/
import Derived.Test.YtfccoiofpmhbdaaDoorM4b
namespace Go.Proofs.YtfccoiofpmhbdaaDoor
open Go Go.Proofs Go.RowKit

set_option maxHeartbeats 4000000 in
set_option maxRecDepth 100000 in
theorem doAppX (B B' nb a pw t N mp mb dO A8 B8 bits ns cs : Nat) (As : Option Addr) (C D : Nat → Prop) (l u room nn : Int) (F : Files) (bs : List UInt8) (kept : Nat) (v : Nat) (ds : List UInt8) (w : World) (h : Both B w C D nb N a pw mp mb l u room F t) (hn : NamesLaid w B') (_hB' : B' ≤ w.heap.size) (_hd8 : dO < 256) (hA8 : A8 < 256) (hB8 : B8 < 256) (hnb : nb < 1000000) (_hN : N < 1000000) (_hv : v < 3) (hdo : dO % 8 = v) (hF : F (nameAt A8) = some (bs, kept)) (_hrd : Reads w B' 1 As ns (bv ds)) (_hBB : B' ≤ B) (_hns : ns ≤ 1000) (_htm : t ≤ 1000000) (hroom : room < (t : Int) + ns) :
    Calls Tryd.prog 7 #[.pointer (some ⟨mp, 0, none⟩), .pointer (some ⟨a, 0, none⟩), stepV dO A8 B8 (.slice As ns cs) nn bits] w (RetB w B C D (nb + 1) (N + 1) a pw mp mb l u room) := by
  obtain ⟨na, nc, hn1, hn2, hn3⟩ := hn.at_
  have hnA := hn3 A8
  have hnB := hn3 B8
  obtain ⟨kA, hkA⟩ : ∃ kA, kA = nameAt A8 := ⟨_, rfl⟩
  obtain ⟨kB, hkB⟩ : ∃ kB, kB = nameAt B8 := ⟨_, rfl⟩
  obtain ⟨iA, hiA⟩ : ∃ iA, iA = A8 % 4 := ⟨_, rfl⟩
  obtain ⟨iB, hiB⟩ : ∃ iB, iB = B8 % 4 := ⟨_, rfl⟩
  rw [← hkA, ← hiA] at hnA
  rw [← hkB, ← hiB] at hnB
  have hA1 : (A8 : Int) % 4 = (iA : Int) := by omega
  have hA2 : (A8 : Int).tmod 4 = (iA : Int) := by rw [Int.tmod_eq_emod_of_nonneg (by omega)]; exact hA1
  have hA3 : IntKind.u8.wrap (iA : Int) = (iA : Int) := IntWalk.u8_in _ (by omega)
  have hB1 : (B8 : Int) % 4 = (iB : Int) := by omega
  have hB2 : (B8 : Int).tmod 4 = (iB : Int) := by rw [Int.tmod_eq_emod_of_nonneg (by omega)]; exact hB1
  have hB3 : IntKind.u8.wrap (iB : Int) = (iB : Int) := IntWalk.u8_in _ (by omega)
  have hiA4 : iA < 4 := by omega
  have hiB4 : iB < 4 := by omega
  have hO1 : (dO : Int) % 8 = (v : Int) := by omega
  have hO2 : (dO : Int).tmod 8 = (v : Int) := by rw [Int.tmod_eq_emod_of_nonneg (by omega)]; exact hO1
  have hO3 : IntKind.u8.wrap (v : Int) = (v : Int) := IntWalk.u8_in _ (by omega)
  have e3 : (((v : Nat) : Int) == 3) = false := beq_eq_false_iff_ne.2 (by omega)
  have e4 : (((v : Nat) : Int) == 4) = false := beq_eq_false_iff_ne.2 (by omega)
  have e5 : (((v : Nat) : Int) == 5) = false := beq_eq_false_iff_ne.2 (by omega)
  have e6 : (((v : Nat) : Int) == 6) = false := beq_eq_false_iff_ne.2 (by omega)
  have e7 : (((v : Nat) : Int) == 7) = false := beq_eq_false_iff_ne.2 (by omega)
  clear hiA hiB hn3
  have HD := Lib.hid h.ds
  have HM := Lib.hid h.md
  have hcd := h.cd
  have hdp := h.dp
  have hdb := h.db
  have hF' : F kA = some (bs, kept) := by rw [hkA]; exact hF
  have HF := Lib.hid hF'
  have hkl : kA.length ≤ maxLen := by rw [hkA]; exact nameAt_len _
  have hkl2 : kB.length ≤ maxLen := by rw [hkB]; exact nameAt_len _
  have hBw := HD.out.size
  clear h hF hF' hkA hkB
  unfold stepV
  go_enter Tryd.func7, Tryd.ntmps7
  go_wp2_with (fail)
  have hb2 := ((Below.refl w.heap.size w).alloc (Nat.le_refl _) (.cells #[.pointer (some ⟨mp, 0, none⟩)] 26 (0, 0))).alloc (by rw [World.size_alloc]; omega) (.cells #[.int .u8 dO, .int .u8 A8, .int .u8 B8, .slice As ns cs, .int .i8 nn, .int .u64 bits] 34 (0, 0))
  have hs2 : ((w.alloc (.cells #[.pointer (some ⟨mp, 0, none⟩)] 26 (0, 0))).alloc (.cells #[.int .u8 dO, .int .u8 A8, .int .u8 B8, .slice As ns cs, .int .i8 nn, .int .u64 bits] 34 (0, 0))).heap.size = w.heap.size + 2 := by rw [World.size_alloc, World.size_alloc]
  have hq1 : ((w.alloc (.cells #[.pointer (some ⟨mp, 0, none⟩)] 26 (0, 0))).alloc (.cells #[.int .u8 dO, .int .u8 A8, .int .u8 B8, .slice As ns cs, .int .i8 nn, .int .u64 bits] 34 (0, 0))).heap[w.heap.size]? = some (.cells #[.pointer (some ⟨mp, 0, none⟩)] 26 (0, 0)) := heap_alloc_keep (heap_alloc_new _ _) _
  have hq2 : ((w.alloc (.cells #[.pointer (some ⟨mp, 0, none⟩)] 26 (0, 0))).alloc (.cells #[.int .u8 dO, .int .u8 A8, .int .u8 B8, .slice As ns cs, .int .i8 nn, .int .u64 bits] 34 (0, 0))).heap[w.heap.size + 1]? = some (.cells #[.int .u8 dO, .int .u8 A8, .int .u8 B8, .slice As ns cs, .int .i8 nn, .int .u64 bits] 34 (0, 0)) := by
    have := heap_alloc_new (w.alloc (.cells #[.pointer (some ⟨mp, 0, none⟩)] 26 (0, 0))) (.cells #[.int .u8 dO, .int .u8 A8, .int .u8 B8, .slice As ns cs, .int .i8 nn, .int .u64 bits] 34 (0, 0))
    rw [World.size_alloc] at this
    exact this
  generalize (w.alloc (.cells #[.pointer (some ⟨mp, 0, none⟩)] 26 (0, 0))).alloc (.cells #[.int .u8 dO, .int .u8 A8, .int .u8 B8, .slice As ns cs, .int .i8 nn, .int .u64 bits] 34 (0, 0)) = w2 at *
  obtain ⟨qm, hqm⟩ : ∃ qm, qm = w.heap.size := ⟨_, rfl⟩
  rw [← hqm] at hq1 hq2 ⊢
  obtain ⟨qs, hqs⟩ : ∃ qs, qs = qm + 1 := ⟨_, rfl⟩
  rw [← hqs] at hq2 ⊢
  have hqm1 : w.heap.size ≤ qm := by omega
  have hqm2 : qm < qs := by omega
  have hqs2 : qs < w2.heap.size := by omega
  clear hqm hqs hs2
  have HQ1 := Lib.hid hq1
  have HQ2 := Lib.hid hq2
  have m1 : w2.cell? ⟨qm, 0, none⟩ = some (.pointer (some ⟨mp, 0, none⟩)) := by rw [cell_of_blk hq1]; rfl
  have s0 : w2.cell? ⟨qs, 0, none⟩ = some (.int .u8 dO) := by rw [cell_of_blk hq2]; rfl
  have s1 : w2.cell? ⟨qs, 1, none⟩ = some (.int .u8 A8) := by rw [cell_of_blk hq2]; rfl
  have s2 : w2.cell? ⟨qs, 2, none⟩ = some (.int .u8 B8) := by rw [cell_of_blk hq2]; rfl
  have s3 : w2.cell? ⟨qs, 3, none⟩ = some (.slice As ns cs) := by rw [cell_of_blk hq2]; rfl
  have s4 : w2.cell? ⟨qs, 4, none⟩ = some (.int .i8 nn) := by rw [cell_of_blk hq2]; rfl
  have n0 : w2.cell? ⟨0, 0, none⟩ = some (.slice (some na) 4 nc) := cellk hb2 (by show 0 < w.heap.size; have := hn.lt; omega) hn1
  have n1 : w2.cell? (na.add iA) = some (txt kA) := cellk hb2 (by rw [block_of_add]; omega) hnA
  have n2 : w2.cell? (na.add iB) = some (txt kB) := cellk hb2 (by rw [block_of_add]; omega) hnB
  have i0 : (0 : Int) ≤ (iA : Int) := by omega
  have i1 : (iA : Int) < 4 := by omega
  have i2 : (0 : Int) ≤ (iB : Int) := by omega
  have i3 : (iB : Int) < 4 := by omega
  clear hq1 hq2 hnA hnB hn1 hn
  go_region_held3 (fun w' => w'.cell? ⟨qs, 1, none⟩ = some (.int .u8 A8) ∧ w'.cell? ⟨qs, 2, none⟩ = some (.int .u8 B8) ∧ w'.cell? ⟨0, 0, none⟩ = some (.slice (some na) 4 nc) ∧ w'.cell? (na.add iA) = some (txt kA) ∧ w'.cell? (na.add iB) = some (txt kB)) (first | exact ⟨s1, s2, n0, n1, n2⟩ | go_keep) (fail)
  clear s1 s2 n0 n1 n2 i0 i1 i2 i3
  obtain ⟨V, hm⟩ := HM.out
  have hm2 := hm.below hb2
  have HMap := Lib.hid hm2.map
  have hmt := hm2.lt
  have c0 : w2.cell? ⟨mp, 0, none⟩ = some (.map (some mb)) := hm2.c0
  obtain ⟨hrow, hown⟩ := hm2.file kA bs kept HF.out
  obtain ⟨Af, cf, hVf, hcf⟩ := hrow.form
  obtain ⟨nf, hnf⟩ : ∃ nf, nf = bs.length := ⟨_, rfl⟩
  rw [← hnf] at hVf hcf
  obtain ⟨kf, hkf⟩ : ∃ kf : Nat, kf = kept := ⟨_, rfl⟩
  have hr : ((F kA).map fun x => fileV (V kA) x.2) = some (.agg #[.slice Af nf cf, .int .i64 kf]) := by rw [HF.out, hkf]; simp [fileV, hVf]
  have HR := Lib.hid hr
  have HVF := Lib.hid hVf
  have HNF := Lib.hid hnf
  have HKF := Lib.hid hkf
  clear hr hVf hnf hkf hrow hown
  have HM2 := Lib.hid hm2
  clear hm hm2
  go_wp2_with (at_lookup; (refine wpList_look rfl _ _ 27 rfl 43 Tryd.underlying27 (zeroF' _) mb N _ rfl HMap.out kA rfl hkl _ HR.out ?_))
  have hba := ((Below.refl w2.heap.size w2).alloc (Nat.le_refl _) (.cells #[.slice Af nf cf, .int .i64 kf] 43 (0, 0))).drew
  have hqf := heap_alloc_new w2 (.cells #[.slice Af nf cf, .int .i64 kf] 43 (0, 0))
  have hsa := World.size_alloc w2 (.cells #[.slice Af nf cf, .int .i64 kf] 43 (0, 0))
  obtain ⟨qf, hqe⟩ : ∃ qf, qf = w2.heap.size := ⟨_, rfl⟩
  have hz2 := hb2.size
  have hltD := HD.out.lt
  have hltM : ∀ g, D g → g < w.heap.size := fun g hg => HM.out.lt hg
  have HB3 := Lib.hid (hb2.trans (hba.mono (by omega)))
  have HQ13 := Lib.hid ((hba.block _ (by omega)).trans HQ1.out)
  have HQ23 := Lib.hid ((hba.block _ (by omega)).trans HQ2.out)
  have HQ33 := Lib.hid (show ((w2.alloc (.cells #[.slice Af nf cf, .int .i64 kf] 43 (0, 0))).drew).heap[qf]? = some (.cells #[.slice Af nf cf, .int .i64 kf] 43 (0, 0)) by rw [hqe]; exact hqf)
  have HM3 := Lib.hid (HM2.out.below hba)
  have HD3 := Lib.hid ((HD.out.below hb2).below hba)
  have hs3 : ((w2.alloc (.cells #[.slice Af nf cf, .int .i64 kf] 43 (0, 0))).drew).heap.size = qf + 1 := by rw [hqe]; exact hsa
  rw [← hqe] at ⊢
  generalize (w2.alloc (.cells #[.slice Af nf cf, .int .i64 kf] 43 (0, 0))).drew = w3 at *
  have hqf1 : w.heap.size ≤ qf := by omega
  have hqsf : qs < qf := by omega
  have hnt : ∀ g, w.heap.size ≤ g → ¬ TouchD C pw g := fun g hg h => by have := hltD g h; omega
  have hnd : ∀ g, D g → ¬ TouchD C pw g := fun g hg h => by
    rcases h with h | h
    · exact hcd g h hg
    · exact hdp (h ▸ hg)
  have hqd : ∀ g, w.heap.size ≤ g → ¬ D g := fun g hg h => by have := hltM g h; omega
  have HNT := Lib.hid hnt
  have HND := Lib.hid hnd
  have HQD := Lib.hid hqd
  clear hba hqf hsa hqe HQ1 HQ2 HMap HM2 m1 s0 s3 s4 c0 hnt hnd hqd hmt HR
  have HT := Lib.hid HD3.out.tot
  refine (dsAppendFail B C nb a pw t l u room F kA As ns cs w3 HD3.out (by omega) hroom).mono ?_
  rintro e w4 ⟨rfl, hb4⟩
  obtain ⟨C4, hC4⟩ : ∃ C4 : Nat → Prop, C4 = C := ⟨_, rfl⟩
  have hm4 : Mod (TouchD C pw) w3 w4 := Mod.of_below hb4
  have hd4 : DS B w4 C4 nb a pw l u room F t := by rw [hC4]; exact HD3.out.below hb4
  have hc4 : ∀ g, C4 g → C g ∨ w3.heap.size ≤ g := fun g hg => .inl (by rw [← hC4]; exact hg)
  have hb34 := HB3.out.trans (hb4.mono (by have := HB3.out.size; omega))
  have HB34 := Lib.hid hb34
  clear hb4 hC4 hb34
  have hz4 := hm4.size
  have HQ14 := Lib.hid (hm4.blk HQ13.out (HNT.out _ (by omega)))
  have HQ24 := Lib.hid (hm4.blk HQ23.out (HNT.out _ (by omega)))
  have HQ34 := Lib.hid (hm4.blk HQ33.out (HNT.out _ (by omega)))
  have HM4 := Lib.hid (HM3.out.mod hm4 HND.out)
  have HMO := Lib.hid ((Mod.of_below (F := TouchD C pw) HB3.out).trans hm4 (fun _ _ h => h))
  have HD4 := Lib.hid hd4
  have HCQ := Lib.hid (show ¬ C4 qf from fun h => by
    rcases hc4 qf h with h | h
    · exact HNT.out qf hqf1 (.inl h)
    · omega)
  have HC4 := Lib.hid (show ∀ g, C4 g → C g ∨ w.heap.size ≤ g from fun g hg => by
    rcases hc4 g hg with h | h
    · exact .inl h
    · exact .inr (by omega))
  clear hm4 hd4 hc4 HQ13 HQ23 HQ33 HM3 HD3
  have HMap4 := Lib.hid HM4.out.map
  have m4 : w4.cell? ⟨qm, 0, none⟩ = some (.pointer (some ⟨mp, 0, none⟩)) := by rw [cell_of_blk HQ14.out]; rfl
  have c4 : w4.cell? ⟨mp, 0, none⟩ = some (.map (some mb)) := HM4.out.c0
  have f0 : w4.cell? ⟨qf, 0, none⟩ = some (.slice Af nf cf) := by rw [cell_of_blk HQ34.out]; rfl
  have f1 : w4.cell? ⟨qf, 1, none⟩ = some (.int .i64 kf) := by rw [cell_of_blk HQ34.out]; rfl
  have g1 : w4.frozen? ⟨qf, 1, none⟩ = false := frozen_of_blk HQ34.out 1
  have hdl4 := HM4.out.lt
  have g0 : decide (room < (t : Int) + (ns : Int)) = true := decide_eq_true hroom
  have mm4 : w4.cell? ⟨mp, 1, none⟩ = some (.int .i64 room) := HM4.out.c1
  have hwt : IntKind.i64.wrap ((t : Int) + (ns : Int)) = (t : Int) + (ns : Int) := IntWalk.i64_in _ (by omega)
  have s34 : w4.cell? ⟨qs, 3, none⟩ = some (.slice As ns cs) := by rw [cell_of_blk HQ24.out]; rfl
  have hlq := lt_of_heap HQ14.out
  have hlq2 := lt_of_heap HQ24.out
  have hlq3 := hdl4 mp HM4.out.dm
  clear m4 c4 f0 f1 g1 HMap4
  have m4 : w4.cell? ⟨qm, 0, none⟩ = some (.pointer (some ⟨mp, 0, none⟩)) := by rw [cell_of_blk HQ14.out]; rfl
  go_wp2_with (fail)
  go_region_held3 (fun w' => w'.cell? ⟨qm, 0, none⟩ = some (.pointer (some ⟨mp, 0, none⟩)) ∧ w'.cell? ⟨qs, 3, none⟩ = some (.slice As ns cs) ∧ w'.cell? ⟨mp, 1, none⟩ = some (.int .i64 room)) (first | exact ⟨m4, s34, mm4⟩ | exact ⟨cellk HBU.out hlq m4, cellk HBU.out hlq2 s34, cellk HBU.out hlq3 mm4⟩ | go_keep) ((go_at_call 12; refine (usedM D N mp mb t room F w4.drew ⟨V, HM4.out.below ((Below.refl _ _).drew)⟩ HT.out (by omega)).mono ?_; rintro e wu ⟨rfl, hbu⟩; have HBU := Lib.hid (((Below.refl w4.heap.size w4).drew).trans hbu); clear hbu))
  clear m4 s34 mm4
  go_wp2_with (fail)
  go_ret
  have hbz := HB34.out.trans (HBU.out.mono (by have := HB34.out.size; omega))
  exact retB_same (t := t) ⟨HD.out.below hbz, HM.out.below hbz, hcd, hdp, hdb⟩ hnb hbz
set_option maxHeartbeats 4000000 in
set_option maxRecDepth 100000 in
theorem doApp (B B' nb a pw t N mp mb dO A8 B8 bits ns cs : Nat) (As : Option Addr) (C D : Nat → Prop) (l u room nn : Int) (F : Files) (bs : List UInt8) (kept : Nat) (v : Nat) (ds : List UInt8) (w : World) (h : Both B w C D nb N a pw mp mb l u room F t) (hn : NamesLaid w B') (hB' : B' ≤ w.heap.size) (_hd8 : dO < 256) (hA8 : A8 < 256) (hB8 : B8 < 256) (hnb : nb < 1000000) (_hN : N < 1000000) (_hv : v < 3) (hdo : dO % 8 = v) (hF : F (nameAt A8) = some (bs, kept)) (hl : l < 0 ∨ u < l) (hrd : Reads w B' 1 As ns (bv ds)) (hBB : B' ≤ B) (_hns : ns ≤ 1000) (_htm : t ≤ 1000000) (hroom : (t : Int) + ns ≤ room) (hsm : bs.length ≤ 1000000) :
    Calls Tryd.prog 7 #[.pointer (some ⟨mp, 0, none⟩), .pointer (some ⟨a, 0, none⟩), stepV dO A8 B8 (.slice As ns cs) nn bits] w (RetB w B C D (nb + 1) (N + 1) a pw mp mb l (u + 1) room) := by
  obtain ⟨na, nc, hn1, hn2, hn3⟩ := hn.at_
  have hnA := hn3 A8
  have hnB := hn3 B8
  obtain ⟨kA, hkA⟩ : ∃ kA, kA = nameAt A8 := ⟨_, rfl⟩
  obtain ⟨kB, hkB⟩ : ∃ kB, kB = nameAt B8 := ⟨_, rfl⟩
  obtain ⟨iA, hiA⟩ : ∃ iA, iA = A8 % 4 := ⟨_, rfl⟩
  obtain ⟨iB, hiB⟩ : ∃ iB, iB = B8 % 4 := ⟨_, rfl⟩
  rw [← hkA, ← hiA] at hnA
  rw [← hkB, ← hiB] at hnB
  have hA1 : (A8 : Int) % 4 = (iA : Int) := by omega
  have hA2 : (A8 : Int).tmod 4 = (iA : Int) := by rw [Int.tmod_eq_emod_of_nonneg (by omega)]; exact hA1
  have hA3 : IntKind.u8.wrap (iA : Int) = (iA : Int) := IntWalk.u8_in _ (by omega)
  have hB1 : (B8 : Int) % 4 = (iB : Int) := by omega
  have hB2 : (B8 : Int).tmod 4 = (iB : Int) := by rw [Int.tmod_eq_emod_of_nonneg (by omega)]; exact hB1
  have hB3 : IntKind.u8.wrap (iB : Int) = (iB : Int) := IntWalk.u8_in _ (by omega)
  have hiA4 : iA < 4 := by omega
  have hiB4 : iB < 4 := by omega
  have hO1 : (dO : Int) % 8 = (v : Int) := by omega
  have hO2 : (dO : Int).tmod 8 = (v : Int) := by rw [Int.tmod_eq_emod_of_nonneg (by omega)]; exact hO1
  have hO3 : IntKind.u8.wrap (v : Int) = (v : Int) := IntWalk.u8_in _ (by omega)
  have e3 : (((v : Nat) : Int) == 3) = false := beq_eq_false_iff_ne.2 (by omega)
  have e4 : (((v : Nat) : Int) == 4) = false := beq_eq_false_iff_ne.2 (by omega)
  have e5 : (((v : Nat) : Int) == 5) = false := beq_eq_false_iff_ne.2 (by omega)
  have e6 : (((v : Nat) : Int) == 6) = false := beq_eq_false_iff_ne.2 (by omega)
  have e7 : (((v : Nat) : Int) == 7) = false := beq_eq_false_iff_ne.2 (by omega)
  clear hiA hiB hn3
  have HD := Lib.hid h.ds
  have HM := Lib.hid h.md
  have hcd := h.cd
  have hdp := h.dp
  have hdb := h.db
  have hF' : F kA = some (bs, kept) := by rw [hkA]; exact hF
  have HF := Lib.hid hF'
  have hkl : kA.length ≤ maxLen := by rw [hkA]; exact nameAt_len _
  have hkl2 : kB.length ≤ maxLen := by rw [hkB]; exact nameAt_len _
  have hBw := HD.out.size
  clear h hF hF' hkA hkB
  unfold stepV
  go_enter Tryd.func7, Tryd.ntmps7
  go_wp2_with (fail)
  have hb2 := ((Below.refl w.heap.size w).alloc (Nat.le_refl _) (.cells #[.pointer (some ⟨mp, 0, none⟩)] 26 (0, 0))).alloc (by rw [World.size_alloc]; omega) (.cells #[.int .u8 dO, .int .u8 A8, .int .u8 B8, .slice As ns cs, .int .i8 nn, .int .u64 bits] 34 (0, 0))
  have hs2 : ((w.alloc (.cells #[.pointer (some ⟨mp, 0, none⟩)] 26 (0, 0))).alloc (.cells #[.int .u8 dO, .int .u8 A8, .int .u8 B8, .slice As ns cs, .int .i8 nn, .int .u64 bits] 34 (0, 0))).heap.size = w.heap.size + 2 := by rw [World.size_alloc, World.size_alloc]
  have hq1 : ((w.alloc (.cells #[.pointer (some ⟨mp, 0, none⟩)] 26 (0, 0))).alloc (.cells #[.int .u8 dO, .int .u8 A8, .int .u8 B8, .slice As ns cs, .int .i8 nn, .int .u64 bits] 34 (0, 0))).heap[w.heap.size]? = some (.cells #[.pointer (some ⟨mp, 0, none⟩)] 26 (0, 0)) := heap_alloc_keep (heap_alloc_new _ _) _
  have hq2 : ((w.alloc (.cells #[.pointer (some ⟨mp, 0, none⟩)] 26 (0, 0))).alloc (.cells #[.int .u8 dO, .int .u8 A8, .int .u8 B8, .slice As ns cs, .int .i8 nn, .int .u64 bits] 34 (0, 0))).heap[w.heap.size + 1]? = some (.cells #[.int .u8 dO, .int .u8 A8, .int .u8 B8, .slice As ns cs, .int .i8 nn, .int .u64 bits] 34 (0, 0)) := by
    have := heap_alloc_new (w.alloc (.cells #[.pointer (some ⟨mp, 0, none⟩)] 26 (0, 0))) (.cells #[.int .u8 dO, .int .u8 A8, .int .u8 B8, .slice As ns cs, .int .i8 nn, .int .u64 bits] 34 (0, 0))
    rw [World.size_alloc] at this
    exact this
  generalize (w.alloc (.cells #[.pointer (some ⟨mp, 0, none⟩)] 26 (0, 0))).alloc (.cells #[.int .u8 dO, .int .u8 A8, .int .u8 B8, .slice As ns cs, .int .i8 nn, .int .u64 bits] 34 (0, 0)) = w2 at *
  obtain ⟨qm, hqm⟩ : ∃ qm, qm = w.heap.size := ⟨_, rfl⟩
  rw [← hqm] at hq1 hq2 ⊢
  obtain ⟨qs, hqs⟩ : ∃ qs, qs = qm + 1 := ⟨_, rfl⟩
  rw [← hqs] at hq2 ⊢
  have hqm1 : w.heap.size ≤ qm := by omega
  have hqm2 : qm < qs := by omega
  have hqs2 : qs < w2.heap.size := by omega
  clear hqm hqs hs2
  have HQ1 := Lib.hid hq1
  have HQ2 := Lib.hid hq2
  have m1 : w2.cell? ⟨qm, 0, none⟩ = some (.pointer (some ⟨mp, 0, none⟩)) := by rw [cell_of_blk hq1]; rfl
  have s0 : w2.cell? ⟨qs, 0, none⟩ = some (.int .u8 dO) := by rw [cell_of_blk hq2]; rfl
  have s1 : w2.cell? ⟨qs, 1, none⟩ = some (.int .u8 A8) := by rw [cell_of_blk hq2]; rfl
  have s2 : w2.cell? ⟨qs, 2, none⟩ = some (.int .u8 B8) := by rw [cell_of_blk hq2]; rfl
  have s3 : w2.cell? ⟨qs, 3, none⟩ = some (.slice As ns cs) := by rw [cell_of_blk hq2]; rfl
  have s4 : w2.cell? ⟨qs, 4, none⟩ = some (.int .i8 nn) := by rw [cell_of_blk hq2]; rfl
  have n0 : w2.cell? ⟨0, 0, none⟩ = some (.slice (some na) 4 nc) := cellk hb2 (by show 0 < w.heap.size; have := hn.lt; omega) hn1
  have n1 : w2.cell? (na.add iA) = some (txt kA) := cellk hb2 (by rw [block_of_add]; omega) hnA
  have n2 : w2.cell? (na.add iB) = some (txt kB) := cellk hb2 (by rw [block_of_add]; omega) hnB
  have i0 : (0 : Int) ≤ (iA : Int) := by omega
  have i1 : (iA : Int) < 4 := by omega
  have i2 : (0 : Int) ≤ (iB : Int) := by omega
  have i3 : (iB : Int) < 4 := by omega
  clear hq1 hq2 hnA hnB hn1 hn
  go_region_held3 (fun w' => w'.cell? ⟨qs, 1, none⟩ = some (.int .u8 A8) ∧ w'.cell? ⟨qs, 2, none⟩ = some (.int .u8 B8) ∧ w'.cell? ⟨0, 0, none⟩ = some (.slice (some na) 4 nc) ∧ w'.cell? (na.add iA) = some (txt kA) ∧ w'.cell? (na.add iB) = some (txt kB)) (first | exact ⟨s1, s2, n0, n1, n2⟩ | go_keep) (fail)
  clear s1 s2 n0 n1 n2 i0 i1 i2 i3
  obtain ⟨V, hm⟩ := HM.out
  have hm2 := hm.below hb2
  have HMap := Lib.hid hm2.map
  have hmt := hm2.lt
  have c0 : w2.cell? ⟨mp, 0, none⟩ = some (.map (some mb)) := hm2.c0
  obtain ⟨hrow, hown⟩ := hm2.file kA bs kept HF.out
  obtain ⟨Af, cf, hVf, hcf⟩ := hrow.form
  obtain ⟨nf, hnf⟩ : ∃ nf, nf = bs.length := ⟨_, rfl⟩
  rw [← hnf] at hVf hcf
  obtain ⟨kf, hkf⟩ : ∃ kf : Nat, kf = kept := ⟨_, rfl⟩
  have hr : ((F kA).map fun x => fileV (V kA) x.2) = some (.agg #[.slice Af nf cf, .int .i64 kf]) := by rw [HF.out, hkf]; simp [fileV, hVf]
  have HR := Lib.hid hr
  have HVF := Lib.hid hVf
  have HNF := Lib.hid hnf
  have HKF := Lib.hid hkf
  clear hr hVf hnf hkf hrow hown
  have HM2 := Lib.hid hm2
  clear hm hm2
  go_wp2_with (at_lookup; (refine wpList_look rfl _ _ 27 rfl 43 Tryd.underlying27 (zeroF' _) mb N _ rfl HMap.out kA rfl hkl _ HR.out ?_))
  have hba := ((Below.refl w2.heap.size w2).alloc (Nat.le_refl _) (.cells #[.slice Af nf cf, .int .i64 kf] 43 (0, 0))).drew
  have hqf := heap_alloc_new w2 (.cells #[.slice Af nf cf, .int .i64 kf] 43 (0, 0))
  have hsa := World.size_alloc w2 (.cells #[.slice Af nf cf, .int .i64 kf] 43 (0, 0))
  obtain ⟨qf, hqe⟩ : ∃ qf, qf = w2.heap.size := ⟨_, rfl⟩
  have hz2 := hb2.size
  have hltD := HD.out.lt
  have hltM : ∀ g, D g → g < w.heap.size := fun g hg => HM.out.lt hg
  have HB3 := Lib.hid (hb2.trans (hba.mono (by omega)))
  have HQ13 := Lib.hid ((hba.block _ (by omega)).trans HQ1.out)
  have HQ23 := Lib.hid ((hba.block _ (by omega)).trans HQ2.out)
  have HQ33 := Lib.hid (show ((w2.alloc (.cells #[.slice Af nf cf, .int .i64 kf] 43 (0, 0))).drew).heap[qf]? = some (.cells #[.slice Af nf cf, .int .i64 kf] 43 (0, 0)) by rw [hqe]; exact hqf)
  have HM3 := Lib.hid (HM2.out.below hba)
  have HD3 := Lib.hid ((HD.out.below hb2).below hba)
  have hs3 : ((w2.alloc (.cells #[.slice Af nf cf, .int .i64 kf] 43 (0, 0))).drew).heap.size = qf + 1 := by rw [hqe]; exact hsa
  rw [← hqe] at ⊢
  generalize (w2.alloc (.cells #[.slice Af nf cf, .int .i64 kf] 43 (0, 0))).drew = w3 at *
  have hqf1 : w.heap.size ≤ qf := by omega
  have hqsf : qs < qf := by omega
  have hnt : ∀ g, w.heap.size ≤ g → ¬ TouchD C pw g := fun g hg h => by have := hltD g h; omega
  have hnd : ∀ g, D g → ¬ TouchD C pw g := fun g hg h => by
    rcases h with h | h
    · exact hcd g h hg
    · exact hdp (h ▸ hg)
  have hqd : ∀ g, w.heap.size ≤ g → ¬ D g := fun g hg h => by have := hltM g h; omega
  have HNT := Lib.hid hnt
  have HND := Lib.hid hnd
  have HQD := Lib.hid hqd
  clear hba hqf hsa hqe HQ1 HQ2 HMap HM2 m1 s0 s3 s4 c0 hnt hnd hqd hmt HR
  have HT := Lib.hid HD3.out.tot
  refine (dsAppend B B' C nb a pw t l u room F kA ds As ns cs w3 HD3.out hnb hl hkl hroom (hrd.below (HB3.out.mono hB')) (by have := HB3.out.size; omega) (fun g hg hn => by
    obtain ⟨ad, h1, h2, _⟩ := hrd.2 hn
    rw [h1] at hg
    have hg' : ad.block = g := by simpa using hg
    refine ⟨fun h' => ?_, fun h' => ?_⟩
    · have := HD.out.base g h'; omega
    · have := HD.out.pbase; omega)).mono ?_
  rintro e w4 ⟨rfl, C4, hd4, hc4, hm4, hb4⟩
  have HDS := Lib.hid ((hrd.below (HB3.out.mono hB')).below (hb4.mono hBB))
  have hz4 := hm4.size
  have HQ14 := Lib.hid (hm4.blk HQ13.out (HNT.out _ (by omega)))
  have HQ24 := Lib.hid (hm4.blk HQ23.out (HNT.out _ (by omega)))
  have HQ34 := Lib.hid (hm4.blk HQ33.out (HNT.out _ (by omega)))
  have HM4 := Lib.hid (HM3.out.mod hm4 HND.out)
  have HMO := Lib.hid ((Mod.of_below (F := TouchD C pw) HB3.out).trans hm4 (fun _ _ h => h))
  have HD4 := Lib.hid hd4
  have HCQ := Lib.hid (show ¬ C4 qf from fun h => by
    rcases hc4 qf h with h | h
    · exact HNT.out qf hqf1 (.inl h)
    · omega)
  have HC4 := Lib.hid (show ∀ g, C4 g → C g ∨ w.heap.size ≤ g from fun g hg => by
    rcases hc4 g hg with h | h
    · exact .inl h
    · exact .inr (by omega))
  clear hm4 hd4 hc4 HQ13 HQ23 HQ33 HM3 HD3
  have HMap4 := Lib.hid HM4.out.map
  have m4 : w4.cell? ⟨qm, 0, none⟩ = some (.pointer (some ⟨mp, 0, none⟩)) := by rw [cell_of_blk HQ14.out]; rfl
  have c4 : w4.cell? ⟨mp, 0, none⟩ = some (.map (some mb)) := HM4.out.c0
  have f0 : w4.cell? ⟨qf, 0, none⟩ = some (.slice Af nf cf) := by rw [cell_of_blk HQ34.out]; rfl
  have f1 : w4.cell? ⟨qf, 1, none⟩ = some (.int .i64 kf) := by rw [cell_of_blk HQ34.out]; rfl
  have g1 : w4.frozen? ⟨qf, 1, none⟩ = false := frozen_of_blk HQ34.out 1
  have hdl4 := HM4.out.lt
  have g0 : decide (room < (t : Int) + (ns : Int)) = false := decide_eq_false (by omega)
  have mm4 : w4.cell? ⟨mp, 1, none⟩ = some (.int .i64 room) := HM4.out.c1
  have hwt : IntKind.i64.wrap ((t : Int) + (ns : Int)) = (t : Int) + (ns : Int) := IntWalk.i64_in _ (by omega)
  have s34 : w4.cell? ⟨qs, 3, none⟩ = some (.slice As ns cs) := by rw [cell_of_blk HQ24.out]; rfl
  have hlq := lt_of_heap HQ14.out
  have hlq2 := lt_of_heap HQ24.out
  have hlq3 := hdl4 mp HM4.out.dm
  clear m4 c4 f0 f1 g1 HMap4
  have m4 : w4.cell? ⟨qm, 0, none⟩ = some (.pointer (some ⟨mp, 0, none⟩)) := by rw [cell_of_blk HQ14.out]; rfl
  go_wp2_with (fail)
  go_region_held3 (fun w' => w'.cell? ⟨qm, 0, none⟩ = some (.pointer (some ⟨mp, 0, none⟩)) ∧ w'.cell? ⟨qs, 3, none⟩ = some (.slice As ns cs) ∧ w'.cell? ⟨mp, 1, none⟩ = some (.int .i64 room)) (first | exact ⟨m4, s34, mm4⟩ | exact ⟨cellk HBU.out hlq m4, cellk HBU.out hlq2 s34, cellk HBU.out hlq3 mm4⟩ | go_keep) ((go_at_call 12; refine (usedM D N mp mb t room F w4.drew ⟨V, HM4.out.below ((Below.refl _ _).drew)⟩ HT.out (by omega)).mono ?_; rintro e wu ⟨rfl, hbu⟩; have HBU := Lib.hid (((Below.refl w4.heap.size w4).drew).trans hbu); clear hbu))
  clear m4 s34 mm4
  have hrow4 := (HM4.out.file kA bs kept HF.out).1
  rw [HVF.out, ← HNF.out] at hrow4
  rw [← HNF.out] at hsm
  have HRD := Lib.hid ((hrow4.reads).below HBU.out)
  clear hrow4
  have hmbl := hltM mb HM4.out.db
  have hq1 : mb ≠ qm := by omega
  have hq2 : mb ≠ qs := by omega
  have hq3 : mb ≠ qf := by omega
  have hzu := HBU.out.size
  have HQ1u := Lib.hid ((HBU.out.block _ hlq).trans HQ14.out)
  have HQ2u := Lib.hid ((HBU.out.block _ hlq2).trans HQ24.out)
  have HQ3u := Lib.hid ((HBU.out.block _ (lt_of_heap HQ34.out)).trans HQ34.out)
  have HMu := Lib.hid (HM4.out.below HBU.out)
  have hSu : (wu.cell? ⟨qm, 0, none⟩ = some (.pointer (some ⟨mp, 0, none⟩)) ∧ wu.cell? ⟨mp, 0, none⟩ = some (.map (some mb)) ∧ wu.cell? ⟨qf, 0, none⟩ = some (.slice Af nf cf) ∧ wu.cell? ⟨qf, 1, none⟩ = some (.int .i64 kf) ∧ wu.cell? ⟨qs, 3, none⟩ = some (.slice As ns cs) ∧ wu.cell? ⟨qs, 4, none⟩ = some (.int .i8 nn)) := ⟨by rw [cell_of_blk HQ1u.out]; rfl, HMu.out.c0, by rw [cell_of_blk HQ3u.out]; rfl, by rw [cell_of_blk HQ3u.out]; rfl, by rw [cell_of_blk HQ2u.out]; rfl, by rw [cell_of_blk HQ2u.out]; rfl⟩
  have s3u : wu.cell? ⟨qs, 3, none⟩ = some (.slice As ns cs) := hSu.2.2.2.2.1
  obtain ⟨i0, hi, hz0, hz1, hz2⟩ := info_parts info_u8
  have hB44 : B' ≤ w4.heap.size := by have := HB3.out.size; omega
  have hBu : B' ≤ wu.heap.size := by have := HB3.out.size; omega
  go_wp2_with (fail)
  clear s3u
  go_region_held3 (fun w' => w'.cell? ⟨qm, 0, none⟩ = some (.pointer (some ⟨mp, 0, none⟩)) ∧ w'.cell? ⟨mp, 0, none⟩ = some (.map (some mb)) ∧ w'.cell? ⟨qf, 0, none⟩ = some (.slice Af nf cf) ∧ w'.cell? ⟨qf, 1, none⟩ = some (.int .i64 kf) ∧ w'.cell? ⟨qs, 3, none⟩ = some (.slice As ns cs) ∧ w'.cell? ⟨qs, 4, none⟩ = some (.int .i8 nn)) (first | exact S8 | exact S7 | exact S5 | exact hSu | go_keep) ((first
    | (refine step_of_wp rfl (wp_append_any _ _ _ 30 rfl wu.heap.size 5 i0 (.int .u8 0) 1 1 Tryd.underlying30 hi hz0 hz1 hz2 rfl (by decide) (.slice A5 nf c5) nf (bv bs) rfl HO5.out B' As ns cs (bv ds) rfl (HDS.out.below ((HBU.out.trans (HB5.out.mono hzu)).mono hB44)) (bv_one _) (by unfold maxLen; omega) (by omega) HB5.out.size ?_); intro v7 w7 hown7 hgr7 hor7; obtain ⟨A7, c7, rfl, hc7⟩ := owns_form hown7; have HB7 := Lib.hid (HB5.out.grown hgr7 HB5.out.size (fun j hj => (HO5.out.lt j hj).1)); obtain ⟨w8, hrun8, HM8, HG8, S7, S8⟩ := put_run HMu.out HB7.out (by unfold maxLen; omega) HQ1u.out HQ2u.out HQ3u.out hq1 hq2 hq3 hkl (.agg #[.slice A7 (nf + ns) c7, .int .i64 kf]); have HO7 := Lib.hid hown7; clear hown7 hgr7 hor7)
    | (go_at_call 25; refine (cloneB Af nf cf _ (bv bs) _ (show Reads wu.drew _ 1 Af nf _ from HRD.out) (by exact hzu) (bv_one _) (by omega)).mono ?_; rintro e w5 ⟨v5, rfl, hown5, hb5⟩; obtain ⟨A5, c5, rfl, hc5⟩ := owns_form hown5; have HB5 := Lib.hid (((Below.refl wu.heap.size wu).drew).trans hb5); obtain ⟨_, _, _, _, S5, _⟩ := put_run HMu.out HB5.out (by unfold maxLen; omega) HQ1u.out HQ2u.out HQ3u.out hq1 hq2 hq3 hkl (.agg #[.slice A5 nf c5, .int .i64 kf]); have HO5 := Lib.hid hown5; clear hown5 hb5)))
  go_wp2_with (fail)
  go_ret
  have hdl : ds.length = ns := by have := hrd.1; rw [bv_length] at this; omega
  have hbl : bs.length = nf := HNF.out.symm
  have hlm : (bs ++ ds).length = nf + ns := by rw [List.length_append, hdl, hbl]
  have hrow7 : RowW w7 5 (.slice A7 (nf + ns) c7) (bs ++ ds).length (bv (bs ++ ds)) := by rw [hlm, bv_append]; exact RowW.of_owns HO7.out
  have hm7 := (HMu.out.below HB7.out).put (k := kA) (bs := bs ++ ds) (kept := kf) (v := .slice A7 (nf + ns) c7) hrow7 (fun g hg => hrow7.lt hg) HM8.out HG8.out
  have hdf : dataF F kA = bs := dataF_of HF.out
  have hkf : keptF F kA = kf := (keptF_of HF.out).trans HKF.out.symm
  refine retB_of (E := fun g => g = qf) (by have := HD4.out; rw [hdf, hkf] at this; exact this) ⟨_, hm7⟩ HC4.out (fun g hg => ?_) HMO.out ((Mod.of_below (F := fun g => g = mb) (HBU.out.trans (HB7.out.mono hzu))).trans ((Mod.refl (fun g => g = mb) w7).grown HG8.out (fun g hg _ => by injection hg with hg; exact hg.symm)) (fun _ _ h => h) |>.mono fun g _ e => .inl (by rw [e]; exact HM4.out.db)) (fun g hg => ⟨by rw [hg]; exact hqf1, by rw [hg]; exact HCQ.out⟩) (hltD pw (.inr rfl)) hcd hdp hdb hltM hBw
  rcases hg with h | h
  · exact .inl h
  · have := (HO7.out.lt g h).1
    exact .inr (by omega)
set_option maxHeartbeats 4000000 in
set_option maxRecDepth 100000 in
theorem doAppNX (B B' nb a pw t N mp mb dO A8 B8 bits ns cs : Nat) (As : Option Addr) (C D : Nat → Prop) (l u room nn : Int) (F : Files) (v : Nat) (ds : List UInt8) (w : World) (h : Both B w C D nb N a pw mp mb l u room F t) (hn : NamesLaid w B') (_hB' : B' ≤ w.heap.size) (_hd8 : dO < 256) (hA8 : A8 < 256) (hB8 : B8 < 256) (hnb : nb < 1000000) (_hN : N < 1000000) (_hv : v < 3) (hdo : dO % 8 = v) (hF : F (nameAt A8) = none) (_hrd : Reads w B' 1 As ns (bv ds)) (_hBB : B' ≤ B) (_hns : ns ≤ 1000) (_htm : t ≤ 1000000) (hroom : room < (t : Int) + ns) :
    Calls Tryd.prog 7 #[.pointer (some ⟨mp, 0, none⟩), .pointer (some ⟨a, 0, none⟩), stepV dO A8 B8 (.slice As ns cs) nn bits] w (RetB w B C D (nb + 1) (N + 1) a pw mp mb l u room) := by
  obtain ⟨na, nc, hn1, hn2, hn3⟩ := hn.at_
  have hnA := hn3 A8
  have hnB := hn3 B8
  obtain ⟨kA, hkA⟩ : ∃ kA, kA = nameAt A8 := ⟨_, rfl⟩
  obtain ⟨kB, hkB⟩ : ∃ kB, kB = nameAt B8 := ⟨_, rfl⟩
  obtain ⟨iA, hiA⟩ : ∃ iA, iA = A8 % 4 := ⟨_, rfl⟩
  obtain ⟨iB, hiB⟩ : ∃ iB, iB = B8 % 4 := ⟨_, rfl⟩
  rw [← hkA, ← hiA] at hnA
  rw [← hkB, ← hiB] at hnB
  have hA1 : (A8 : Int) % 4 = (iA : Int) := by omega
  have hA2 : (A8 : Int).tmod 4 = (iA : Int) := by rw [Int.tmod_eq_emod_of_nonneg (by omega)]; exact hA1
  have hA3 : IntKind.u8.wrap (iA : Int) = (iA : Int) := IntWalk.u8_in _ (by omega)
  have hB1 : (B8 : Int) % 4 = (iB : Int) := by omega
  have hB2 : (B8 : Int).tmod 4 = (iB : Int) := by rw [Int.tmod_eq_emod_of_nonneg (by omega)]; exact hB1
  have hB3 : IntKind.u8.wrap (iB : Int) = (iB : Int) := IntWalk.u8_in _ (by omega)
  have hiA4 : iA < 4 := by omega
  have hiB4 : iB < 4 := by omega
  have hO1 : (dO : Int) % 8 = (v : Int) := by omega
  have hO2 : (dO : Int).tmod 8 = (v : Int) := by rw [Int.tmod_eq_emod_of_nonneg (by omega)]; exact hO1
  have hO3 : IntKind.u8.wrap (v : Int) = (v : Int) := IntWalk.u8_in _ (by omega)
  have e3 : (((v : Nat) : Int) == 3) = false := beq_eq_false_iff_ne.2 (by omega)
  have e4 : (((v : Nat) : Int) == 4) = false := beq_eq_false_iff_ne.2 (by omega)
  have e5 : (((v : Nat) : Int) == 5) = false := beq_eq_false_iff_ne.2 (by omega)
  have e6 : (((v : Nat) : Int) == 6) = false := beq_eq_false_iff_ne.2 (by omega)
  have e7 : (((v : Nat) : Int) == 7) = false := beq_eq_false_iff_ne.2 (by omega)
  clear hiA hiB hn3
  have HD := Lib.hid h.ds
  have HM := Lib.hid h.md
  have hcd := h.cd
  have hdp := h.dp
  have hdb := h.db
  have hF' : F kA = none := by rw [hkA]; exact hF
  have HF := Lib.hid hF'
  have hkl : kA.length ≤ maxLen := by rw [hkA]; exact nameAt_len _
  have hkl2 : kB.length ≤ maxLen := by rw [hkB]; exact nameAt_len _
  have hBw := HD.out.size
  clear h hF hF' hkA hkB
  unfold stepV
  go_enter Tryd.func7, Tryd.ntmps7
  go_wp2_with (fail)
  have hb2 := ((Below.refl w.heap.size w).alloc (Nat.le_refl _) (.cells #[.pointer (some ⟨mp, 0, none⟩)] 26 (0, 0))).alloc (by rw [World.size_alloc]; omega) (.cells #[.int .u8 dO, .int .u8 A8, .int .u8 B8, .slice As ns cs, .int .i8 nn, .int .u64 bits] 34 (0, 0))
  have hs2 : ((w.alloc (.cells #[.pointer (some ⟨mp, 0, none⟩)] 26 (0, 0))).alloc (.cells #[.int .u8 dO, .int .u8 A8, .int .u8 B8, .slice As ns cs, .int .i8 nn, .int .u64 bits] 34 (0, 0))).heap.size = w.heap.size + 2 := by rw [World.size_alloc, World.size_alloc]
  have hq1 : ((w.alloc (.cells #[.pointer (some ⟨mp, 0, none⟩)] 26 (0, 0))).alloc (.cells #[.int .u8 dO, .int .u8 A8, .int .u8 B8, .slice As ns cs, .int .i8 nn, .int .u64 bits] 34 (0, 0))).heap[w.heap.size]? = some (.cells #[.pointer (some ⟨mp, 0, none⟩)] 26 (0, 0)) := heap_alloc_keep (heap_alloc_new _ _) _
  have hq2 : ((w.alloc (.cells #[.pointer (some ⟨mp, 0, none⟩)] 26 (0, 0))).alloc (.cells #[.int .u8 dO, .int .u8 A8, .int .u8 B8, .slice As ns cs, .int .i8 nn, .int .u64 bits] 34 (0, 0))).heap[w.heap.size + 1]? = some (.cells #[.int .u8 dO, .int .u8 A8, .int .u8 B8, .slice As ns cs, .int .i8 nn, .int .u64 bits] 34 (0, 0)) := by
    have := heap_alloc_new (w.alloc (.cells #[.pointer (some ⟨mp, 0, none⟩)] 26 (0, 0))) (.cells #[.int .u8 dO, .int .u8 A8, .int .u8 B8, .slice As ns cs, .int .i8 nn, .int .u64 bits] 34 (0, 0))
    rw [World.size_alloc] at this
    exact this
  generalize (w.alloc (.cells #[.pointer (some ⟨mp, 0, none⟩)] 26 (0, 0))).alloc (.cells #[.int .u8 dO, .int .u8 A8, .int .u8 B8, .slice As ns cs, .int .i8 nn, .int .u64 bits] 34 (0, 0)) = w2 at *
  obtain ⟨qm, hqm⟩ : ∃ qm, qm = w.heap.size := ⟨_, rfl⟩
  rw [← hqm] at hq1 hq2 ⊢
  obtain ⟨qs, hqs⟩ : ∃ qs, qs = qm + 1 := ⟨_, rfl⟩
  rw [← hqs] at hq2 ⊢
  have hqm1 : w.heap.size ≤ qm := by omega
  have hqm2 : qm < qs := by omega
  have hqs2 : qs < w2.heap.size := by omega
  clear hqm hqs hs2
  have HQ1 := Lib.hid hq1
  have HQ2 := Lib.hid hq2
  have m1 : w2.cell? ⟨qm, 0, none⟩ = some (.pointer (some ⟨mp, 0, none⟩)) := by rw [cell_of_blk hq1]; rfl
  have s0 : w2.cell? ⟨qs, 0, none⟩ = some (.int .u8 dO) := by rw [cell_of_blk hq2]; rfl
  have s1 : w2.cell? ⟨qs, 1, none⟩ = some (.int .u8 A8) := by rw [cell_of_blk hq2]; rfl
  have s2 : w2.cell? ⟨qs, 2, none⟩ = some (.int .u8 B8) := by rw [cell_of_blk hq2]; rfl
  have s3 : w2.cell? ⟨qs, 3, none⟩ = some (.slice As ns cs) := by rw [cell_of_blk hq2]; rfl
  have s4 : w2.cell? ⟨qs, 4, none⟩ = some (.int .i8 nn) := by rw [cell_of_blk hq2]; rfl
  have n0 : w2.cell? ⟨0, 0, none⟩ = some (.slice (some na) 4 nc) := cellk hb2 (by show 0 < w.heap.size; have := hn.lt; omega) hn1
  have n1 : w2.cell? (na.add iA) = some (txt kA) := cellk hb2 (by rw [block_of_add]; omega) hnA
  have n2 : w2.cell? (na.add iB) = some (txt kB) := cellk hb2 (by rw [block_of_add]; omega) hnB
  have i0 : (0 : Int) ≤ (iA : Int) := by omega
  have i1 : (iA : Int) < 4 := by omega
  have i2 : (0 : Int) ≤ (iB : Int) := by omega
  have i3 : (iB : Int) < 4 := by omega
  clear hq1 hq2 hnA hnB hn1 hn
  go_region_held3 (fun w' => w'.cell? ⟨qs, 1, none⟩ = some (.int .u8 A8) ∧ w'.cell? ⟨qs, 2, none⟩ = some (.int .u8 B8) ∧ w'.cell? ⟨0, 0, none⟩ = some (.slice (some na) 4 nc) ∧ w'.cell? (na.add iA) = some (txt kA) ∧ w'.cell? (na.add iB) = some (txt kB)) (first | exact ⟨s1, s2, n0, n1, n2⟩ | go_keep) (fail)
  clear s1 s2 n0 n1 n2 i0 i1 i2 i3
  obtain ⟨V, hm⟩ := HM.out
  have hm2 := hm.below hb2
  have HMap := Lib.hid hm2.map
  have hmt := hm2.lt
  have c0 : w2.cell? ⟨mp, 0, none⟩ = some (.map (some mb)) := hm2.c0
  have HR := Lib.hid (show ((F kA).map fun x => fileV (V kA) x.2) = none by rw [HF.out]; rfl)
  have HM2 := Lib.hid hm2
  clear hm hm2
  go_wp2_with (at_lookup; (refine wpList_look rfl _ _ 27 rfl 43 Tryd.underlying27 (zeroF' _) mb N _ rfl HMap.out kA rfl hkl _ HR.out ?_))
  have hba := ((Below.refl w2.heap.size w2).alloc (Nat.le_refl _) (.cells #[.slice none 0 0, .int .i64 0] 43 (0, 0))).drew
  have hqf := heap_alloc_new w2 (.cells #[.slice none 0 0, .int .i64 0] 43 (0, 0))
  have hsa := World.size_alloc w2 (.cells #[.slice none 0 0, .int .i64 0] 43 (0, 0))
  obtain ⟨qf, hqe⟩ : ∃ qf, qf = w2.heap.size := ⟨_, rfl⟩
  have hz2 := hb2.size
  have hltD := HD.out.lt
  have hltM : ∀ g, D g → g < w.heap.size := fun g hg => HM.out.lt hg
  have HB3 := Lib.hid (hb2.trans (hba.mono (by omega)))
  have HQ13 := Lib.hid ((hba.block _ (by omega)).trans HQ1.out)
  have HQ23 := Lib.hid ((hba.block _ (by omega)).trans HQ2.out)
  have HQ33 := Lib.hid (show ((w2.alloc (.cells #[.slice none 0 0, .int .i64 0] 43 (0, 0))).drew).heap[qf]? = some (.cells #[.slice none 0 0, .int .i64 0] 43 (0, 0)) by rw [hqe]; exact hqf)
  have HM3 := Lib.hid (HM2.out.below hba)
  have HD3 := Lib.hid ((HD.out.below hb2).below hba)
  have hs3 : ((w2.alloc (.cells #[.slice none 0 0, .int .i64 0] 43 (0, 0))).drew).heap.size = qf + 1 := by rw [hqe]; exact hsa
  rw [← hqe] at ⊢
  generalize (w2.alloc (.cells #[.slice none 0 0, .int .i64 0] 43 (0, 0))).drew = w3 at *
  have hqf1 : w.heap.size ≤ qf := by omega
  have hqsf : qs < qf := by omega
  have hnt : ∀ g, w.heap.size ≤ g → ¬ TouchD C pw g := fun g hg h => by have := hltD g h; omega
  have hnd : ∀ g, D g → ¬ TouchD C pw g := fun g hg h => by
    rcases h with h | h
    · exact hcd g h hg
    · exact hdp (h ▸ hg)
  have hqd : ∀ g, w.heap.size ≤ g → ¬ D g := fun g hg h => by have := hltM g h; omega
  have HNT := Lib.hid hnt
  have HND := Lib.hid hnd
  have HQD := Lib.hid hqd
  clear hba hqf hsa hqe HQ1 HQ2 HMap HM2 m1 s0 s3 s4 c0 hnt hnd hqd hmt HR
  have HT := Lib.hid HD3.out.tot
  refine (dsAppendFail B C nb a pw t l u room F kA As ns cs w3 HD3.out (by omega) hroom).mono ?_
  rintro e w4 ⟨rfl, hb4⟩
  obtain ⟨C4, hC4⟩ : ∃ C4 : Nat → Prop, C4 = C := ⟨_, rfl⟩
  have hm4 : Mod (TouchD C pw) w3 w4 := Mod.of_below hb4
  have hd4 : DS B w4 C4 nb a pw l u room F t := by rw [hC4]; exact HD3.out.below hb4
  have hc4 : ∀ g, C4 g → C g ∨ w3.heap.size ≤ g := fun g hg => .inl (by rw [← hC4]; exact hg)
  have hb34 := HB3.out.trans (hb4.mono (by have := HB3.out.size; omega))
  have HB34 := Lib.hid hb34
  clear hb4 hC4 hb34
  have hz4 := hm4.size
  have HQ14 := Lib.hid (hm4.blk HQ13.out (HNT.out _ (by omega)))
  have HQ24 := Lib.hid (hm4.blk HQ23.out (HNT.out _ (by omega)))
  have HQ34 := Lib.hid (hm4.blk HQ33.out (HNT.out _ (by omega)))
  have HM4 := Lib.hid (HM3.out.mod hm4 HND.out)
  have HMO := Lib.hid ((Mod.of_below (F := TouchD C pw) HB3.out).trans hm4 (fun _ _ h => h))
  have HD4 := Lib.hid hd4
  have HCQ := Lib.hid (show ¬ C4 qf from fun h => by
    rcases hc4 qf h with h | h
    · exact HNT.out qf hqf1 (.inl h)
    · omega)
  have HC4 := Lib.hid (show ∀ g, C4 g → C g ∨ w.heap.size ≤ g from fun g hg => by
    rcases hc4 g hg with h | h
    · exact .inl h
    · exact .inr (by omega))
  clear hm4 hd4 hc4 HQ13 HQ23 HQ33 HM3 HD3
  have HMap4 := Lib.hid HM4.out.map
  have m4 : w4.cell? ⟨qm, 0, none⟩ = some (.pointer (some ⟨mp, 0, none⟩)) := by rw [cell_of_blk HQ14.out]; rfl
  have c4 : w4.cell? ⟨mp, 0, none⟩ = some (.map (some mb)) := HM4.out.c0
  have f0 : w4.cell? ⟨qf, 0, none⟩ = some (.slice none 0 0) := by rw [cell_of_blk HQ34.out]; rfl
  have f1 : w4.cell? ⟨qf, 1, none⟩ = some (.int .i64 0) := by rw [cell_of_blk HQ34.out]; rfl
  have g1 : w4.frozen? ⟨qf, 1, none⟩ = false := frozen_of_blk HQ34.out 1
  have hdl4 := HM4.out.lt
  have g0 : decide (room < (t : Int) + (ns : Int)) = true := decide_eq_true hroom
  have mm4 : w4.cell? ⟨mp, 1, none⟩ = some (.int .i64 room) := HM4.out.c1
  have hwt : IntKind.i64.wrap ((t : Int) + (ns : Int)) = (t : Int) + (ns : Int) := IntWalk.i64_in _ (by omega)
  have s34 : w4.cell? ⟨qs, 3, none⟩ = some (.slice As ns cs) := by rw [cell_of_blk HQ24.out]; rfl
  have hlq := lt_of_heap HQ14.out
  have hlq2 := lt_of_heap HQ24.out
  have hlq3 := hdl4 mp HM4.out.dm
  clear m4 c4 f0 f1 g1 HMap4
  have m4 : w4.cell? ⟨qm, 0, none⟩ = some (.pointer (some ⟨mp, 0, none⟩)) := by rw [cell_of_blk HQ14.out]; rfl
  go_wp2_with (fail)
  go_region_held3 (fun w' => w'.cell? ⟨qm, 0, none⟩ = some (.pointer (some ⟨mp, 0, none⟩)) ∧ w'.cell? ⟨qs, 3, none⟩ = some (.slice As ns cs) ∧ w'.cell? ⟨mp, 1, none⟩ = some (.int .i64 room)) (first | exact ⟨m4, s34, mm4⟩ | exact ⟨cellk HBU.out hlq m4, cellk HBU.out hlq2 s34, cellk HBU.out hlq3 mm4⟩ | go_keep) ((go_at_call 12; refine (usedM D N mp mb t room F w4.drew ⟨V, HM4.out.below ((Below.refl _ _).drew)⟩ HT.out (by omega)).mono ?_; rintro e wu ⟨rfl, hbu⟩; have HBU := Lib.hid (((Below.refl w4.heap.size w4).drew).trans hbu); clear hbu))
  clear m4 s34 mm4
  go_wp2_with (fail)
  go_ret
  have hbz := HB34.out.trans (HBU.out.mono (by have := HB34.out.size; omega))
  exact retB_same (t := t) ⟨HD.out.below hbz, HM.out.below hbz, hcd, hdp, hdb⟩ hnb hbz
set_option maxHeartbeats 4000000 in
set_option maxRecDepth 100000 in
theorem doAppN (B B' nb a pw t N mp mb dO A8 B8 bits ns cs : Nat) (As : Option Addr) (C D : Nat → Prop) (l u room nn : Int) (F : Files) (v : Nat) (ds : List UInt8) (w : World) (h : Both B w C D nb N a pw mp mb l u room F t) (hn : NamesLaid w B') (hB' : B' ≤ w.heap.size) (_hd8 : dO < 256) (hA8 : A8 < 256) (hB8 : B8 < 256) (hnb : nb < 1000000) (_hN : N < 1000000) (_hv : v < 3) (hdo : dO % 8 = v) (hF : F (nameAt A8) = none) (hl : l < 0 ∨ u < l) (hrd : Reads w B' 1 As ns (bv ds)) (hBB : B' ≤ B) (_hns : ns ≤ 1000) (_htm : t ≤ 1000000) (hroom : (t : Int) + ns ≤ room) :
    Calls Tryd.prog 7 #[.pointer (some ⟨mp, 0, none⟩), .pointer (some ⟨a, 0, none⟩), stepV dO A8 B8 (.slice As ns cs) nn bits] w (RetB w B C D (nb + 1) (N + 1) a pw mp mb l (u + 1) room) := by
  obtain ⟨na, nc, hn1, hn2, hn3⟩ := hn.at_
  have hnA := hn3 A8
  have hnB := hn3 B8
  obtain ⟨kA, hkA⟩ : ∃ kA, kA = nameAt A8 := ⟨_, rfl⟩
  obtain ⟨kB, hkB⟩ : ∃ kB, kB = nameAt B8 := ⟨_, rfl⟩
  obtain ⟨iA, hiA⟩ : ∃ iA, iA = A8 % 4 := ⟨_, rfl⟩
  obtain ⟨iB, hiB⟩ : ∃ iB, iB = B8 % 4 := ⟨_, rfl⟩
  rw [← hkA, ← hiA] at hnA
  rw [← hkB, ← hiB] at hnB
  have hA1 : (A8 : Int) % 4 = (iA : Int) := by omega
  have hA2 : (A8 : Int).tmod 4 = (iA : Int) := by rw [Int.tmod_eq_emod_of_nonneg (by omega)]; exact hA1
  have hA3 : IntKind.u8.wrap (iA : Int) = (iA : Int) := IntWalk.u8_in _ (by omega)
  have hB1 : (B8 : Int) % 4 = (iB : Int) := by omega
  have hB2 : (B8 : Int).tmod 4 = (iB : Int) := by rw [Int.tmod_eq_emod_of_nonneg (by omega)]; exact hB1
  have hB3 : IntKind.u8.wrap (iB : Int) = (iB : Int) := IntWalk.u8_in _ (by omega)
  have hiA4 : iA < 4 := by omega
  have hiB4 : iB < 4 := by omega
  have hO1 : (dO : Int) % 8 = (v : Int) := by omega
  have hO2 : (dO : Int).tmod 8 = (v : Int) := by rw [Int.tmod_eq_emod_of_nonneg (by omega)]; exact hO1
  have hO3 : IntKind.u8.wrap (v : Int) = (v : Int) := IntWalk.u8_in _ (by omega)
  have e3 : (((v : Nat) : Int) == 3) = false := beq_eq_false_iff_ne.2 (by omega)
  have e4 : (((v : Nat) : Int) == 4) = false := beq_eq_false_iff_ne.2 (by omega)
  have e5 : (((v : Nat) : Int) == 5) = false := beq_eq_false_iff_ne.2 (by omega)
  have e6 : (((v : Nat) : Int) == 6) = false := beq_eq_false_iff_ne.2 (by omega)
  have e7 : (((v : Nat) : Int) == 7) = false := beq_eq_false_iff_ne.2 (by omega)
  clear hiA hiB hn3
  have HD := Lib.hid h.ds
  have HM := Lib.hid h.md
  have hcd := h.cd
  have hdp := h.dp
  have hdb := h.db
  have hF' : F kA = none := by rw [hkA]; exact hF
  have HF := Lib.hid hF'
  have hkl : kA.length ≤ maxLen := by rw [hkA]; exact nameAt_len _
  have hkl2 : kB.length ≤ maxLen := by rw [hkB]; exact nameAt_len _
  have hBw := HD.out.size
  clear h hF hF' hkA hkB
  unfold stepV
  go_enter Tryd.func7, Tryd.ntmps7
  go_wp2_with (fail)
  have hb2 := ((Below.refl w.heap.size w).alloc (Nat.le_refl _) (.cells #[.pointer (some ⟨mp, 0, none⟩)] 26 (0, 0))).alloc (by rw [World.size_alloc]; omega) (.cells #[.int .u8 dO, .int .u8 A8, .int .u8 B8, .slice As ns cs, .int .i8 nn, .int .u64 bits] 34 (0, 0))
  have hs2 : ((w.alloc (.cells #[.pointer (some ⟨mp, 0, none⟩)] 26 (0, 0))).alloc (.cells #[.int .u8 dO, .int .u8 A8, .int .u8 B8, .slice As ns cs, .int .i8 nn, .int .u64 bits] 34 (0, 0))).heap.size = w.heap.size + 2 := by rw [World.size_alloc, World.size_alloc]
  have hq1 : ((w.alloc (.cells #[.pointer (some ⟨mp, 0, none⟩)] 26 (0, 0))).alloc (.cells #[.int .u8 dO, .int .u8 A8, .int .u8 B8, .slice As ns cs, .int .i8 nn, .int .u64 bits] 34 (0, 0))).heap[w.heap.size]? = some (.cells #[.pointer (some ⟨mp, 0, none⟩)] 26 (0, 0)) := heap_alloc_keep (heap_alloc_new _ _) _
  have hq2 : ((w.alloc (.cells #[.pointer (some ⟨mp, 0, none⟩)] 26 (0, 0))).alloc (.cells #[.int .u8 dO, .int .u8 A8, .int .u8 B8, .slice As ns cs, .int .i8 nn, .int .u64 bits] 34 (0, 0))).heap[w.heap.size + 1]? = some (.cells #[.int .u8 dO, .int .u8 A8, .int .u8 B8, .slice As ns cs, .int .i8 nn, .int .u64 bits] 34 (0, 0)) := by
    have := heap_alloc_new (w.alloc (.cells #[.pointer (some ⟨mp, 0, none⟩)] 26 (0, 0))) (.cells #[.int .u8 dO, .int .u8 A8, .int .u8 B8, .slice As ns cs, .int .i8 nn, .int .u64 bits] 34 (0, 0))
    rw [World.size_alloc] at this
    exact this
  generalize (w.alloc (.cells #[.pointer (some ⟨mp, 0, none⟩)] 26 (0, 0))).alloc (.cells #[.int .u8 dO, .int .u8 A8, .int .u8 B8, .slice As ns cs, .int .i8 nn, .int .u64 bits] 34 (0, 0)) = w2 at *
  obtain ⟨qm, hqm⟩ : ∃ qm, qm = w.heap.size := ⟨_, rfl⟩
  rw [← hqm] at hq1 hq2 ⊢
  obtain ⟨qs, hqs⟩ : ∃ qs, qs = qm + 1 := ⟨_, rfl⟩
  rw [← hqs] at hq2 ⊢
  have hqm1 : w.heap.size ≤ qm := by omega
  have hqm2 : qm < qs := by omega
  have hqs2 : qs < w2.heap.size := by omega
  clear hqm hqs hs2
  have HQ1 := Lib.hid hq1
  have HQ2 := Lib.hid hq2
  have m1 : w2.cell? ⟨qm, 0, none⟩ = some (.pointer (some ⟨mp, 0, none⟩)) := by rw [cell_of_blk hq1]; rfl
  have s0 : w2.cell? ⟨qs, 0, none⟩ = some (.int .u8 dO) := by rw [cell_of_blk hq2]; rfl
  have s1 : w2.cell? ⟨qs, 1, none⟩ = some (.int .u8 A8) := by rw [cell_of_blk hq2]; rfl
  have s2 : w2.cell? ⟨qs, 2, none⟩ = some (.int .u8 B8) := by rw [cell_of_blk hq2]; rfl
  have s3 : w2.cell? ⟨qs, 3, none⟩ = some (.slice As ns cs) := by rw [cell_of_blk hq2]; rfl
  have s4 : w2.cell? ⟨qs, 4, none⟩ = some (.int .i8 nn) := by rw [cell_of_blk hq2]; rfl
  have n0 : w2.cell? ⟨0, 0, none⟩ = some (.slice (some na) 4 nc) := cellk hb2 (by show 0 < w.heap.size; have := hn.lt; omega) hn1
  have n1 : w2.cell? (na.add iA) = some (txt kA) := cellk hb2 (by rw [block_of_add]; omega) hnA
  have n2 : w2.cell? (na.add iB) = some (txt kB) := cellk hb2 (by rw [block_of_add]; omega) hnB
  have i0 : (0 : Int) ≤ (iA : Int) := by omega
  have i1 : (iA : Int) < 4 := by omega
  have i2 : (0 : Int) ≤ (iB : Int) := by omega
  have i3 : (iB : Int) < 4 := by omega
  clear hq1 hq2 hnA hnB hn1 hn
  go_region_held3 (fun w' => w'.cell? ⟨qs, 1, none⟩ = some (.int .u8 A8) ∧ w'.cell? ⟨qs, 2, none⟩ = some (.int .u8 B8) ∧ w'.cell? ⟨0, 0, none⟩ = some (.slice (some na) 4 nc) ∧ w'.cell? (na.add iA) = some (txt kA) ∧ w'.cell? (na.add iB) = some (txt kB)) (first | exact ⟨s1, s2, n0, n1, n2⟩ | go_keep) (fail)
  clear s1 s2 n0 n1 n2 i0 i1 i2 i3
  obtain ⟨V, hm⟩ := HM.out
  have hm2 := hm.below hb2
  have HMap := Lib.hid hm2.map
  have hmt := hm2.lt
  have c0 : w2.cell? ⟨mp, 0, none⟩ = some (.map (some mb)) := hm2.c0
  have HR := Lib.hid (show ((F kA).map fun x => fileV (V kA) x.2) = none by rw [HF.out]; rfl)
  have HM2 := Lib.hid hm2
  clear hm hm2
  go_wp2_with (at_lookup; (refine wpList_look rfl _ _ 27 rfl 43 Tryd.underlying27 (zeroF' _) mb N _ rfl HMap.out kA rfl hkl _ HR.out ?_))
  have hba := ((Below.refl w2.heap.size w2).alloc (Nat.le_refl _) (.cells #[.slice none 0 0, .int .i64 0] 43 (0, 0))).drew
  have hqf := heap_alloc_new w2 (.cells #[.slice none 0 0, .int .i64 0] 43 (0, 0))
  have hsa := World.size_alloc w2 (.cells #[.slice none 0 0, .int .i64 0] 43 (0, 0))
  obtain ⟨qf, hqe⟩ : ∃ qf, qf = w2.heap.size := ⟨_, rfl⟩
  have hz2 := hb2.size
  have hltD := HD.out.lt
  have hltM : ∀ g, D g → g < w.heap.size := fun g hg => HM.out.lt hg
  have HB3 := Lib.hid (hb2.trans (hba.mono (by omega)))
  have HQ13 := Lib.hid ((hba.block _ (by omega)).trans HQ1.out)
  have HQ23 := Lib.hid ((hba.block _ (by omega)).trans HQ2.out)
  have HQ33 := Lib.hid (show ((w2.alloc (.cells #[.slice none 0 0, .int .i64 0] 43 (0, 0))).drew).heap[qf]? = some (.cells #[.slice none 0 0, .int .i64 0] 43 (0, 0)) by rw [hqe]; exact hqf)
  have HM3 := Lib.hid (HM2.out.below hba)
  have HD3 := Lib.hid ((HD.out.below hb2).below hba)
  have hs3 : ((w2.alloc (.cells #[.slice none 0 0, .int .i64 0] 43 (0, 0))).drew).heap.size = qf + 1 := by rw [hqe]; exact hsa
  rw [← hqe] at ⊢
  generalize (w2.alloc (.cells #[.slice none 0 0, .int .i64 0] 43 (0, 0))).drew = w3 at *
  have hqf1 : w.heap.size ≤ qf := by omega
  have hqsf : qs < qf := by omega
  have hnt : ∀ g, w.heap.size ≤ g → ¬ TouchD C pw g := fun g hg h => by have := hltD g h; omega
  have hnd : ∀ g, D g → ¬ TouchD C pw g := fun g hg h => by
    rcases h with h | h
    · exact hcd g h hg
    · exact hdp (h ▸ hg)
  have hqd : ∀ g, w.heap.size ≤ g → ¬ D g := fun g hg h => by have := hltM g h; omega
  have HNT := Lib.hid hnt
  have HND := Lib.hid hnd
  have HQD := Lib.hid hqd
  clear hba hqf hsa hqe HQ1 HQ2 HMap HM2 m1 s0 s3 s4 c0 hnt hnd hqd hmt HR
  have HT := Lib.hid HD3.out.tot
  refine (dsAppend B B' C nb a pw t l u room F kA ds As ns cs w3 HD3.out hnb hl hkl hroom (hrd.below (HB3.out.mono hB')) (by have := HB3.out.size; omega) (fun g hg hn => by
    obtain ⟨ad, h1, h2, _⟩ := hrd.2 hn
    rw [h1] at hg
    have hg' : ad.block = g := by simpa using hg
    refine ⟨fun h' => ?_, fun h' => ?_⟩
    · have := HD.out.base g h'; omega
    · have := HD.out.pbase; omega)).mono ?_
  rintro e w4 ⟨rfl, C4, hd4, hc4, hm4, hb4⟩
  have HDS := Lib.hid ((hrd.below (HB3.out.mono hB')).below (hb4.mono hBB))
  have hz4 := hm4.size
  have HQ14 := Lib.hid (hm4.blk HQ13.out (HNT.out _ (by omega)))
  have HQ24 := Lib.hid (hm4.blk HQ23.out (HNT.out _ (by omega)))
  have HQ34 := Lib.hid (hm4.blk HQ33.out (HNT.out _ (by omega)))
  have HM4 := Lib.hid (HM3.out.mod hm4 HND.out)
  have HMO := Lib.hid ((Mod.of_below (F := TouchD C pw) HB3.out).trans hm4 (fun _ _ h => h))
  have HD4 := Lib.hid hd4
  have HCQ := Lib.hid (show ¬ C4 qf from fun h => by
    rcases hc4 qf h with h | h
    · exact HNT.out qf hqf1 (.inl h)
    · omega)
  have HC4 := Lib.hid (show ∀ g, C4 g → C g ∨ w.heap.size ≤ g from fun g hg => by
    rcases hc4 g hg with h | h
    · exact .inl h
    · exact .inr (by omega))
  clear hm4 hd4 hc4 HQ13 HQ23 HQ33 HM3 HD3
  have HMap4 := Lib.hid HM4.out.map
  have m4 : w4.cell? ⟨qm, 0, none⟩ = some (.pointer (some ⟨mp, 0, none⟩)) := by rw [cell_of_blk HQ14.out]; rfl
  have c4 : w4.cell? ⟨mp, 0, none⟩ = some (.map (some mb)) := HM4.out.c0
  have f0 : w4.cell? ⟨qf, 0, none⟩ = some (.slice none 0 0) := by rw [cell_of_blk HQ34.out]; rfl
  have f1 : w4.cell? ⟨qf, 1, none⟩ = some (.int .i64 0) := by rw [cell_of_blk HQ34.out]; rfl
  have g1 : w4.frozen? ⟨qf, 1, none⟩ = false := frozen_of_blk HQ34.out 1
  have hdl4 := HM4.out.lt
  have g0 : decide (room < (t : Int) + (ns : Int)) = false := decide_eq_false (by omega)
  have mm4 : w4.cell? ⟨mp, 1, none⟩ = some (.int .i64 room) := HM4.out.c1
  have hwt : IntKind.i64.wrap ((t : Int) + (ns : Int)) = (t : Int) + (ns : Int) := IntWalk.i64_in _ (by omega)
  have s34 : w4.cell? ⟨qs, 3, none⟩ = some (.slice As ns cs) := by rw [cell_of_blk HQ24.out]; rfl
  have hlq := lt_of_heap HQ14.out
  have hlq2 := lt_of_heap HQ24.out
  have hlq3 := hdl4 mp HM4.out.dm
  clear m4 c4 f0 f1 g1 HMap4
  have m4 : w4.cell? ⟨qm, 0, none⟩ = some (.pointer (some ⟨mp, 0, none⟩)) := by rw [cell_of_blk HQ14.out]; rfl
  go_wp2_with (fail)
  go_region_held3 (fun w' => w'.cell? ⟨qm, 0, none⟩ = some (.pointer (some ⟨mp, 0, none⟩)) ∧ w'.cell? ⟨qs, 3, none⟩ = some (.slice As ns cs) ∧ w'.cell? ⟨mp, 1, none⟩ = some (.int .i64 room)) (first | exact ⟨m4, s34, mm4⟩ | exact ⟨cellk HBU.out hlq m4, cellk HBU.out hlq2 s34, cellk HBU.out hlq3 mm4⟩ | go_keep) ((go_at_call 12; refine (usedM D N mp mb t room F w4.drew ⟨V, HM4.out.below ((Below.refl _ _).drew)⟩ HT.out (by omega)).mono ?_; rintro e wu ⟨rfl, hbu⟩; have HBU := Lib.hid (((Below.refl w4.heap.size w4).drew).trans hbu); clear hbu))
  clear m4 s34 mm4
  have HRD := Lib.hid (show Reads wu w4.heap.size 1 none 0 (bv []) from Reads.none_)
  have hmbl := hltM mb HM4.out.db
  have hq1 : mb ≠ qm := by omega
  have hq2 : mb ≠ qs := by omega
  have hq3 : mb ≠ qf := by omega
  have hzu := HBU.out.size
  have HQ1u := Lib.hid ((HBU.out.block _ hlq).trans HQ14.out)
  have HQ2u := Lib.hid ((HBU.out.block _ hlq2).trans HQ24.out)
  have HQ3u := Lib.hid ((HBU.out.block _ (lt_of_heap HQ34.out)).trans HQ34.out)
  have HMu := Lib.hid (HM4.out.below HBU.out)
  have hSu : (wu.cell? ⟨qm, 0, none⟩ = some (.pointer (some ⟨mp, 0, none⟩)) ∧ wu.cell? ⟨mp, 0, none⟩ = some (.map (some mb)) ∧ wu.cell? ⟨qf, 0, none⟩ = some (.slice none 0 0) ∧ wu.cell? ⟨qf, 1, none⟩ = some (.int .i64 0) ∧ wu.cell? ⟨qs, 3, none⟩ = some (.slice As ns cs) ∧ wu.cell? ⟨qs, 4, none⟩ = some (.int .i8 nn)) := ⟨by rw [cell_of_blk HQ1u.out]; rfl, HMu.out.c0, by rw [cell_of_blk HQ3u.out]; rfl, by rw [cell_of_blk HQ3u.out]; rfl, by rw [cell_of_blk HQ2u.out]; rfl, by rw [cell_of_blk HQ2u.out]; rfl⟩
  have s3u : wu.cell? ⟨qs, 3, none⟩ = some (.slice As ns cs) := hSu.2.2.2.2.1
  obtain ⟨i0, hi, hz0, hz1, hz2⟩ := info_parts info_u8
  have hB44 : B' ≤ w4.heap.size := by have := HB3.out.size; omega
  have hBu : B' ≤ wu.heap.size := by have := HB3.out.size; omega
  go_wp2_with (fail)
  clear s3u
  go_region_held3 (fun w' => w'.cell? ⟨qm, 0, none⟩ = some (.pointer (some ⟨mp, 0, none⟩)) ∧ w'.cell? ⟨mp, 0, none⟩ = some (.map (some mb)) ∧ w'.cell? ⟨qf, 0, none⟩ = some (.slice none 0 0) ∧ w'.cell? ⟨qf, 1, none⟩ = some (.int .i64 0) ∧ w'.cell? ⟨qs, 3, none⟩ = some (.slice As ns cs) ∧ w'.cell? ⟨qs, 4, none⟩ = some (.int .i8 nn)) (first | exact S8 | exact S7 | exact S5 | exact hSu | go_keep) ((first
    | (refine step_of_wp rfl (wp_append_any _ _ _ 30 rfl wu.heap.size 5 i0 (.int .u8 0) 1 1 Tryd.underlying30 hi hz0 hz1 hz2 rfl (by decide) (.slice A5 0 c5) 0 (bv ([] : List UInt8)) rfl HO5.out B' As ns cs (bv ds) rfl (HDS.out.below ((HBU.out.trans (HB5.out.mono hzu)).mono hB44)) (bv_one _) (by unfold maxLen; omega) (by omega) HB5.out.size ?_); intro v7 w7 hown7 hgr7 hor7; rw [Nat.zero_add] at hown7; obtain ⟨A7, c7, rfl, hc7⟩ := owns_form hown7; have HB7 := Lib.hid (HB5.out.grown hgr7 HB5.out.size (fun j hj => (HO5.out.lt j hj).1)); obtain ⟨w8, hrun8, HM8, HG8, S7, S8⟩ := put_run HMu.out HB7.out (by unfold maxLen; omega) HQ1u.out HQ2u.out HQ3u.out hq1 hq2 hq3 hkl (.agg #[.slice A7 ns c7, .int .i64 0]); have HO7 := Lib.hid hown7; clear hown7 hgr7 hor7)
    | (go_at_call 25; refine (cloneB none 0 0 _ (bv ([] : List UInt8)) _ (show Reads wu.drew _ 1 none 0 _ from HRD.out) (by exact hzu) (bv_one _) (by omega)).mono ?_; rintro e w5 ⟨v5, rfl, hown5, hb5⟩; obtain ⟨A5, c5, rfl, hc5⟩ := owns_form hown5; have HB5 := Lib.hid (((Below.refl wu.heap.size wu).drew).trans hb5); obtain ⟨_, _, _, _, S5, _⟩ := put_run HMu.out HB5.out (by unfold maxLen; omega) HQ1u.out HQ2u.out HQ3u.out hq1 hq2 hq3 hkl (.agg #[.slice A5 0 c5, .int .i64 0]); have HO5 := Lib.hid hown5; clear hown5 hb5)))
  go_wp2_with (fail)
  go_ret
  have hdl : ds.length = ns := by have := hrd.1; rw [bv_length] at this; omega
  have hbl : ([] : List UInt8).length = 0 := rfl
  have hlm : (([] : List UInt8) ++ ds).length = ns := by rw [List.length_append, hdl, hbl, Nat.zero_add]
  have hrow7 : RowW w7 5 (.slice A7 ns c7) (([] : List UInt8) ++ ds).length (bv (([] : List UInt8) ++ ds)) := by rw [hlm, bv_append]; exact RowW.of_owns HO7.out
  have hm7 := (HMu.out.below HB7.out).put (k := kA) (bs := ([] : List UInt8) ++ ds) (kept := 0) (v := .slice A7 ns c7) hrow7 (fun g hg => hrow7.lt hg) HM8.out HG8.out
  have hdf : dataF F kA = ([] : List UInt8) := by simp [dataF, HF.out]
  have hkf : keptF F kA = 0 := by simp [keptF, HF.out]
  refine retB_of (E := fun g => g = qf) (by have := HD4.out; rw [hdf, hkf] at this; exact this) ⟨_, hm7⟩ HC4.out (fun g hg => ?_) HMO.out ((Mod.of_below (F := fun g => g = mb) (HBU.out.trans (HB7.out.mono hzu))).trans ((Mod.refl (fun g => g = mb) w7).grown HG8.out (fun g hg _ => by injection hg with hg; exact hg.symm)) (fun _ _ h => h) |>.mono fun g _ e => .inl (by rw [e]; exact HM4.out.db)) (fun g hg => ⟨by rw [hg]; exact hqf1, by rw [hg]; exact HCQ.out⟩) (hltD pw (.inr rfl)) hcd hdp hdb hltM hBw
  rcases hg with h | h
  · exact .inl h
  · have := (HO7.out.lt g h).1
    exact .inr (by omega)
end Go.Proofs.YtfccoiofpmhbdaaDoor
