/- Layer 4's law DiskSteps: which steps are steps; the one at which the power goes isn't done. Condition: the slice of steps is laid, each with its bytes. -/
import Derived.Test.YtfccoiofpmhbdaaDoorLawPlays
import Derived.Test.YtfccoiofpmhbdaaDoorStepsC
namespace Go.Proofs.YtfccoiofpmhbdaaDoor
open Go Go.Proofs Go.RowKit

/-- All ways through a piece of code end alike: one frame, and what is said of the world. -/
theorem wp_one {P : Program} {c : Code} {Q : Exit → Act → World → Prop} {a0 : Act} {w0 : World} {fr : Act} {R : World → Prop} (h : c.wp P (fun e a w => e = .normal ∧ a = fr ∧ R w) a0 w0) (k : ∀ w, R w → Q .normal fr w) : c.wp P Q a0 w0 :=
  Code.wp_mono (fun e a w h => by obtain ⟨rfl, rfl, hR⟩ := h; exact k w hR) h
set_option maxHeartbeats 4000000 in
set_option maxRecDepth 100000 in
theorem diskSteps (lim n c : Nat) (A : Option Addr) (L : List StepT) (W : World) (hN : NoneLaid W) (hn : NamesLaid W W.heap.size) (hr : lim < 256) (hs : StepsAt W W.heap.size A n L) :
    Calls Tryd.prog 4 #[.slice A n c, .int .u8 lim] W fun e w' => e = .returned (.bool true) ∧ Below W.heap.size W w' := by
  have HS := Lib.hid hs
  have HNL := Lib.hid hn
  clear hs hn
  obtain ⟨lm, hlm⟩ : ∃ lm, lm = lim % 40 := ⟨_, rfl⟩
  have hl1 : (lim : Int) % 40 = (lm : Int) := by omega
  have hl2 : (lim : Int).tmod 40 = (lm : Int) := by rw [Int.tmod_eq_emod_of_nonneg (by omega)]; exact hl1
  have hl3 : IntKind.u8.wrap (lm : Int) = (lm : Int) := IntWalk.u8_in _ (by omega)
  have hl4 : IntKind.i64.wrap (lm : Int) = (lm : Int) := IntWalk.i64_in _ (by omega)
  have hlm2 : lm < 40 := by omega
  clear hlm
  go_enter Tryd.func4, Tryd.ntmps4
  go_wp2_with (fail)
  refine (awake4_any _ hN).mono ?_
  rintro e w0 ⟨rfl, hb0⟩
  by_cases h60 : 60 < n
  · have g0 : decide ((60 : Int) < (n : Int)) = true := decide_eq_true (by omega)
    go_wp2_with (fail)
    go_ret
    exact ⟨rfl, hb0⟩
  · have g0 : decide ((60 : Int) < (n : Int)) = false := decide_eq_false (by omega)
    go_wp2_with (fail)
    refine (newPower lm w0).mono ?_
    rintro e w1 ⟨rfl, hp1, hb1, hz1⟩
    obtain ⟨pw, hpw⟩ : ∃ pw, pw = w0.heap.size := ⟨_, rfl⟩
    have hmm := @run_makeMap Tryd.prog
    rw [← hpw] at hp1 ⊢
    have HP1 := Lib.hid hp1
    have HB1 := Lib.hid hb1
    have HB0 := Lib.hid hb0
    have hpw0 : w0.heap.size ≤ pw := by omega
    have hpw1 : pw < w1.heap.size := by omega
    have hz01 : w0.heap.size ≤ w1.heap.size := by omega
    clear hp1 hb1 hb0 hpw hz1
    go_wp2_with (fail)
    refine (newDisk pw 500 w1).mono ?_
    rintro e w2 ⟨rfl, hd2, hb2, hz2⟩
    have hbw : W.heap.size ≤ w0.heap.size := HB0.out.size
    have hds : DS w0.heap.size w2 (fun b => b = w1.heap.size ∨ b = w1.heap.size + 1) 0 (w1.heap.size + 1) pw lm 0 500 (fun _ => none) 0 :=
      ⟨⟨0, Nat.le_refl _, hd2⟩, (show PwAt w1 pw lm 0 from HP1.out).below hb2, fun h => by rcases h with h | h <;> omega, Total.none_, fun k bs kept h => by (cases h), fun b h => by rcases h with h | h <;> omega, hpw0, by omega, by omega, by omega, by omega, by omega, by omega⟩
    have HDS := Lib.hid hds
    have HB2 := Lib.hid ((HB0.out.trans (HB1.out.mono hbw)).trans (hb2.mono (by omega)))
    obtain ⟨a, ha⟩ : ∃ a, a = w1.heap.size + 1 := ⟨_, rfl⟩
    obtain ⟨C, hC⟩ : ∃ C : Nat → Prop, C = (fun b => b = w1.heap.size ∨ b = w1.heap.size + 1) := ⟨_, rfl⟩
    rw [← hC, ← ha] at HDS
    rw [← ha]
    have hz02 : w0.heap.size ≤ w2.heap.size := by omega
    clear hd2 hds hb2 hz2 ha hC HP1 HB1 hpw1 hz01
    go_wp2_with (fail)
    clear hmm
    have hz3 : ((((w2.alloc (.map #[] 0)).alloc (.cells #[.map (some w2.heap.size), .int .i64 500] 29 (0, 0))).alloc (.cells #[.pointer (some ⟨a, 0, none⟩)] 24 (0, 0))).alloc (.cells #[.pointer (some ⟨w2.heap.size + 1, 0, none⟩)] 26 (0, 0))).heap.size = w2.heap.size + 4 := by rw [World.size_alloc, World.size_alloc, World.size_alloc, World.size_alloc]
    have hb3 : Below w2.heap.size w2 ((((w2.alloc (.map #[] 0)).alloc (.cells #[.map (some w2.heap.size), .int .i64 500] 29 (0, 0))).alloc (.cells #[.pointer (some ⟨a, 0, none⟩)] 24 (0, 0))).alloc (.cells #[.pointer (some ⟨w2.heap.size + 1, 0, none⟩)] 26 (0, 0))) := ((((Below.refl w2.heap.size w2).alloc (Nat.le_refl _) _).alloc (by rw [World.size_alloc]; omega) _).alloc (by rw [World.size_alloc, World.size_alloc]; omega) _).alloc (by rw [World.size_alloc, World.size_alloc, World.size_alloc]; omega) _
    have hlt2 := HDS.out.lt
    have hbo : Both w0.heap.size ((((w2.alloc (.map #[] 0)).alloc (.cells #[.map (some w2.heap.size), .int .i64 500] 29 (0, 0))).alloc (.cells #[.pointer (some ⟨a, 0, none⟩)] 24 (0, 0))).alloc (.cells #[.pointer (some ⟨w2.heap.size + 1, 0, none⟩)] 26 (0, 0))) C (fun b => b = w2.heap.size ∨ b = w2.heap.size + 1) 0 0 a pw (w2.heap.size + 1) w2.heap.size lm 0 500 (fun _ => none) 0 := by
      refine ⟨HDS.out.below hb3, ⟨fun _ => .slice none 0 0, heap_alloc_keep (heap_alloc_keep (heap_new_at (by rw [World.size_alloc])) _) _, (((MapAt.made w2).alloc _).alloc _).alloc _, (fun k bs kept hk => by cases hk), .inr rfl, .inl rfl, fun g hg => ?_⟩, fun g hg h => ?_, fun h => ?_, fun g hg => ?_⟩
      · rw [hz3]; rcases hg with h | h <;> omega
      · have := hlt2 g (.inl hg); rcases h with h | h <;> omega
      · have := hlt2 pw (.inr rfl); rcases h with h | h <;> omega
      · rcases hg with h | h <;> omega
    have hvd : ((((w2.alloc (.map #[] 0)).alloc (.cells #[.map (some w2.heap.size), .int .i64 500] 29 (0, 0))).alloc (.cells #[.pointer (some ⟨a, 0, none⟩)] 24 (0, 0))).alloc (.cells #[.pointer (some ⟨w2.heap.size + 1, 0, none⟩)] 26 (0, 0))).heap[w2.heap.size + 1 + 1]? = some (.cells #[.pointer (some ⟨a, 0, none⟩)] 24 (0, 0)) := heap_alloc_keep (heap_new_at (by rw [World.size_alloc, World.size_alloc])) _
    have hvm : ((((w2.alloc (.map #[] 0)).alloc (.cells #[.map (some w2.heap.size), .int .i64 500] 29 (0, 0))).alloc (.cells #[.pointer (some ⟨a, 0, none⟩)] 24 (0, 0))).alloc (.cells #[.pointer (some ⟨w2.heap.size + 1, 0, none⟩)] 26 (0, 0))).heap[w2.heap.size + 1 + 1 + 1]? = some (.cells #[.pointer (some ⟨w2.heap.size + 1, 0, none⟩)] 26 (0, 0)) := heap_new_at (by rw [World.size_alloc, World.size_alloc, World.size_alloc])
    have HBO := Lib.hid hbo
    have HVD := Lib.hid hvd
    have HVM := Lib.hid hvm
    have hsz2 := HB2.out.size
    have HB3 := Lib.hid (HB2.out.trans (hb3.mono hsz2))
    obtain ⟨mb, hmb⟩ : ∃ mb, mb = w2.heap.size := ⟨_, rfl⟩
    obtain ⟨mp, hmp⟩ : ∃ mp, mp = mb + 1 := ⟨_, rfl⟩
    obtain ⟨vd, hvde⟩ : ∃ vd, vd = mp + 1 := ⟨_, rfl⟩
    obtain ⟨vm, hvme⟩ : ∃ vm, vm = vd + 1 := ⟨_, rfl⟩
    obtain ⟨D, hD⟩ : ∃ D : Nat → Prop, D = (fun b => b = mb ∨ b = mp) := ⟨_, rfl⟩
    have HNV : Hid (¬ C vd ∧ ¬ C vm ∧ ¬ D vd ∧ ¬ D vm) := Lib.hid ⟨fun h => by have := hlt2 vd (.inl h); omega, fun h => by have := hlt2 vm (.inl h); omega, fun h => by rw [hD] at h; rcases h with h | h <;> omega, fun h => by rw [hD] at h; rcases h with h | h <;> omega⟩
    have hvpw : vd ≠ pw ∧ vm ≠ pw ∧ w0.heap.size ≤ vd ∧ w0.heap.size ≤ vm := by
      have := hlt2 pw (.inr rfl)
      refine ⟨?_, ?_, ?_, ?_⟩ <;> omega
    obtain ⟨hv1, hv2, hv3, hv4⟩ := hvpw
    have hv5 : vd ≠ vm := by omega
    clear hbo hb3 hz3 hlt2 hvd hvm hsz2
    generalize ((((w2.alloc (.map #[] 0)).alloc (.cells #[.map (some w2.heap.size), .int .i64 500] 29 (0, 0))).alloc (.cells #[.pointer (some ⟨a, 0, none⟩)] 24 (0, 0))).alloc (.cells #[.pointer (some ⟨w2.heap.size + 1, 0, none⟩)] 26 (0, 0))) = w3 at *
    rw [← hmb, ← hmp, ← hvde] at HVD ⊢
    rw [← hmb, ← hmp, ← hvde, ← hvme] at HVM
    rw [← hvme]
    rw [← hmb, ← hmp, ← hD] at HBO
    clear hmb hmp hvde hvme hD HDS HB2 hz02
    go_loopw [8, 37] (fun q i wr => ∃ (k t u : Nat) (C D : Nat → Prop) (F : Files), k ≤ n ∧ i = .int .i64 k ∧ q = .int .i64 u ∧ u ≤ k ∧ u ≤ lm ∧ Hid (Both w0.heap.size wr C D k k a pw mp mb lm u 500 F t) ∧ Hid (wr.heap[vd]? = some (.cells #[.pointer (some ⟨a, 0, none⟩)] 24 (0, 0))) ∧ Hid (wr.heap[vm]? = some (.cells #[.pointer (some ⟨mp, 0, none⟩)] 26 (0, 0))) ∧ Hid (¬ C vd ∧ ¬ C vm ∧ ¬ D vd ∧ ¬ D vm) ∧ Hid (Below W.heap.size W wr)) (fun _ i _ => n - (intOf i).toNat)
    case atStart => exact ⟨0, 0, 0, C, D, _, by omega, rfl, rfl, by omega, by omega, HBO, HVD, HVM, HNV, HB3⟩
    case round =>
      obtain ⟨k, t, u, C', D', F, hk, rfl, rfl, huk, hul, HBR, HVDr, HVMr, HNVr, HB⟩ := hrel
      have hszr := HB.out.size
      by_cases hkn : k < n
      · have g0 : decide ((k : Int) < (n : Int)) = true := decide_eq_true (by omega)
        have hwk : IntKind.i64.wrap ((k : Int) + 1) = ((k + 1 : Nat) : Int) := by rw [IntWalk.i64_in _ (by omega)]; push_cast; rfl
        have k0 : (0 : Int) ≤ (k : Int) := by omega
        have k1 : (k : Int) < (n : Int) := by omega
        obtain ⟨s, hs⟩ : ∃ s, L[k]? = some s := ⟨_, List.getElem?_eq_getElem (by rw [HS.out.len]; exact hkn)⟩
        obtain ⟨ad, rfl, ha1, ha2⟩ := HS.out.cell (by omega)
        obtain ⟨p0, p1, p2, p3, p4, p5⟩ := ha2 k s hs
        have r0 := cellk HB.out (by rw [block_of_add]; exact ha1) p0
        have r1 := cellk HB.out (by show (ad.add (k * 6)).block < _; rw [block_of_add]; exact ha1) p1
        have r2 := cellk HB.out (by show (ad.add (k * 6)).block < _; rw [block_of_add]; exact ha1) p2
        have r3 := cellk HB.out (by show (ad.add (k * 6)).block < _; rw [block_of_add]; exact ha1) p3
        have r4 := cellk HB.out (by show (ad.add (k * 6)).block < _; rw [block_of_add]; exact ha1) p4
        have r5 := cellk HB.out (by show (ad.add (k * 6)).block < _; rw [block_of_add]; exact ha1) p5
        have hone := HS.out.one s (List.mem_of_getElem? hs)
        obtain ⟨o0, o1, o2, ⟨o3, o4⟩, o5, o6⟩ := hone
        have HRD := Lib.hid o6
        clear p0 p1 p2 p3 p4 p5 ha2 o6
        by_cases hns : 60 < s.ns
        · have g1 : decide ((60 : Int) < (s.ns : Int)) = true := decide_eq_true (by omega)
          go_wp2_with (fail)
          go_ret
          exact ⟨rfl, HB.out.alloc hszr _⟩
        · have g1 : decide ((60 : Int) < (s.ns : Int)) = false := decide_eq_false (by omega)
          go_wp2_with (fail)
          have hb6 : Below wr.heap.size wr (wr.alloc (.cells #[.int .u8 s.dO, .int .u8 s.A8, .int .u8 s.B8, .slice s.As s.ns s.cs, .int .i8 s.nn, .int .u64 s.bits] 34 (0, 0))) := (Below.refl wr.heap.size wr).alloc (Nat.le_refl _) _
          have hz6 : (wr.alloc (.cells #[.int .u8 s.dO, .int .u8 s.A8, .int .u8 s.B8, .slice s.As s.ns s.cs, .int .i8 s.nn, .int .u64 s.bits] 34 (0, 0))).heap.size = wr.heap.size + 1 := World.size_alloc _ _
          have hqs : (wr.alloc (.cells #[.int .u8 s.dO, .int .u8 s.A8, .int .u8 s.B8, .slice s.As s.ns s.cs, .int .i8 s.nn, .int .u64 s.bits] 34 (0, 0))).heap[wr.heap.size]? = some (.cells #[.int .u8 s.dO, .int .u8 s.A8, .int .u8 s.B8, .slice s.As s.ns s.cs, .int .i8 s.nn, .int .u64 s.bits] 34 (0, 0)) := heap_alloc_new _ _
          have HBR6 := Lib.hid (HBR.out.below hb6)
          have HB6 := Lib.hid (HB.out.trans (hb6.mono hszr))
          have HVD6 := Lib.hid ((hb6.block _ (lt_of_heap HVDr.out)).trans HVDr.out)
          have HVM6 := Lib.hid ((hb6.block _ (lt_of_heap HVMr.out)).trans HVMr.out)
          have hvdl := lt_of_heap HVDr.out
          have hvml := lt_of_heap HVMr.out
          have hbl := HBR.out.ds.lt
          have hbm := HBR.out.md
          obtain ⟨qs, hqse⟩ : ∃ qs, qs = wr.heap.size := ⟨_, rfl⟩
          rw [← hqse] at hqs hbl hvdl hvml ⊢
          have hql : ∀ g, D' g → g < qs := fun g hg => by rw [hqse]; exact hbm.lt hg
          generalize (wr.alloc (.cells #[.int .u8 s.dO, .int .u8 s.A8, .int .u8 s.B8, .slice s.As s.ns s.cs, .int .i8 s.nn, .int .u64 s.bits] 34 (0, 0))) = w6 at *
          have hqs6 : qs < w6.heap.size := by omega
          have hqsW : W.heap.size ≤ qs := by omega
          have hq7 : w6.heap.size ≤ qs + 1 := by omega
          have HQS := Lib.hid hqs
          have HLC := Lib.hid hbl
          have HLD := Lib.hid hql
          clear hb6 hz6 hqse hbl hql hbm r0 r1 r2 r3 r4 r5 HBR HB HVDr HVMr hszr hqs
          have u6 : w6.cell? ⟨pw, 1, none⟩ = some (.int .i64 (u : Int)) := by rw [cell_of_blk HBR6.out.ds.pow]; rfl
          refine (used_any pw u _ u6).mono ?_
          rintro e w7 ⟨rfl, rfl⟩
          obtain ⟨na, nc, hn1, hn2, hn3⟩ := (HNL.out.below HB6.out).at_
          obtain ⟨kA, hkA⟩ : ∃ kA, kA = nameAt s.A8 := ⟨_, rfl⟩
          obtain ⟨iA, hiA⟩ : ∃ iA, iA = s.A8 % 4 := ⟨_, rfl⟩
          have hnA := hn3 s.A8
          rw [← hkA, ← hiA] at hnA
          have hA1 : (s.A8 : Int) % 4 = (iA : Int) := by omega
          have hA2 : (s.A8 : Int).tmod 4 = (iA : Int) := by rw [Int.tmod_eq_emod_of_nonneg (by omega)]; exact hA1
          have hA3 : IntKind.u8.wrap (iA : Int) = (iA : Int) := IntWalk.u8_in _ (by omega)
          have i0 : (0 : Int) ≤ (iA : Int) := by omega
          have i1 : (iA : Int) < 4 := by omega
          have hkl : kA.length ≤ maxLen := by rw [hkA]; exact nameAt_len _
          have cm : w7.cell? ⟨vm, 0, none⟩ = some (.pointer (some ⟨mp, 0, none⟩)) := by rw [cell_of_blk HVM6.out]; rfl
          have s1 : w7.cell? ⟨qs, 1, none⟩ = some (.int .u8 s.A8) := by rw [cell_of_blk HQS.out]; rfl
          obtain ⟨V, hmi⟩ := HBR6.out.md
          have c0 : w7.cell? ⟨mp, 0, none⟩ = some (.map (some mb)) := hmi.c0
          obtain ⟨Af, cf, hfv, hrdf⟩ := hmi.look kA
          obtain ⟨nd, hnd⟩ : ∃ nd, nd = (dataF F kA).length := ⟨_, rfl⟩
          obtain ⟨kp, hkp⟩ : ∃ kp, kp = keptF F kA := ⟨_, rfl⟩
          obtain ⟨ok, hok⟩ : ∃ ok, ok = (F kA).isSome := ⟨_, rfl⟩
          obtain ⟨rf, hrf⟩ : ∃ rf, rf = (F kA).map fun x => fileV (V kA) x.2 := ⟨_, rfl⟩
          have hok' : ok = rf.isSome := by rw [hok, hrf, Option.isSome_map]
          rw [← hrf, ← hnd, ← hkp] at hfv
          have HMI := Lib.hid hmi
          have HFV := Lib.hid hfv
          have HR := Lib.hid hrf.symm
          have HOK := Lib.hid hok'
          have HO2 := Lib.hid hok
          have HND := Lib.hid hnd
          have HKA := Lib.hid hkA
          clear hn3 hfv hrf hok hok' hnd hkp hkA hiA hmi hrdf u6
          go_wp2_with (at_lookup; (refine wpList_look rfl _ _ 27 rfl 43 Tryd.underlying27 (zeroF' _) mb k _ rfl HMI.out.map kA rfl hkl rf HR.out ?_); rw [HFV.out, ← HOK.out])
          have hlk := (HMI.out.map.drew).look (t := 27) (e := 43) Tryd.underlying27 (zeroF' _) hkl
          rw [HR.out, HFV.out, ← HOK.out] at hlk
          have hlk2 := ((HMI.out.map.alloc (.cells #[.slice none 0 0, .int .i64 0] 43 (0, 0))).drew).look (t := 27) (e := 43) Tryd.underlying27 (zeroF' _) hkl
          rw [HR.out, HFV.out, ← HOK.out] at hlk2
          have ne1 := World.new_ne w7 _ cm
          have ne2 := World.new_ne w7 _ c0
          have ne3 := World.new_ne w7 _ s1
          have ne4 := World.new_ne w7 _ hn1
          have ne5 := World.new_ne w7 _ hnA
          refine' wp_one (R := fun w8 => Below w7.heap.size w7 w8 ∧ w8.heap[w7.heap.size]? = some (.cells #[.slice Af nd cf, .int .i64 kp] 43 (0, 0))) ?reg ?k
          case reg =>
            go_region_held3 (fun w' => w'.cell? ⟨vm, 0, none⟩ = some (.pointer (some ⟨mp, 0, none⟩)) ∧ w'.cell? ⟨mp, 0, none⟩ = some (.map (some mb)) ∧ w'.cell? ⟨qs, 1, none⟩ = some (.int .u8 s.A8) ∧ w'.cell? ⟨0, 0, none⟩ = some (.slice (some na) 4 nc) ∧ w'.cell? (na.add iA) = some (txt kA)) (first | exact ⟨cm, c0, s1, hn1, hnA⟩ | go_keep) (fail)
            all_goals refine ⟨rfl, rfl, ?_, ?_⟩
            all_goals first
              | exact heap_alloc_new _ _
              | exact ((Below.refl w7.heap.size w7).alloc (Nat.le_refl _) _).drew
          rintro w8 ⟨hb78, hq8⟩
          have hlt8 : w7.heap.size < w8.heap.size := lt_of_heap hq8
          clear hlk hlk2 ne1 ne2 ne3 ne4 ne5 hq8
          have cm8 := cellk hb78 (World.block_lt_of_cell? _ _ cm) cm
          have c08 := cellk hb78 (World.block_lt_of_cell? _ _ c0) c0
          have s18 := cellk hb78 (World.block_lt_of_cell? _ _ s1) s1
          have hn18 := cellk hb78 (World.block_lt_of_cell? _ _ hn1) hn1
          have hnA8 := cellk hb78 (World.block_lt_of_cell? _ _ hnA) hnA
          have HB78 := Lib.hid hb78
          have HM8 := Lib.hid (HMI.out.below hb78)
          clear hb78 cm c0 s1 hn1 hnA HMI
          go_wp2_with (fail)
          have hlk := (HM8.out.map.drew).look1 (t := 27) (e := 43) Tryd.underlying27 (zeroF' _) hkl
          rw [HR.out, HFV.out] at hlk
          have hlk2 := ((HM8.out.map.alloc (.cells #[.slice none 0 0, .int .i64 0] 43 (0, 0))).drew).look1 (t := 27) (e := 43) Tryd.underlying27 (zeroF' _) hkl
          rw [HR.out, HFV.out] at hlk2
          have ne1 := World.new_ne w8 _ cm8
          have ne2 := World.new_ne w8 _ c08
          have ne3 := World.new_ne w8 _ s18
          have ne4 := World.new_ne w8 _ hn18
          have ne5 := World.new_ne w8 _ hnA8
          refine' wp_one (R := fun w9 => Below w8.heap.size w8 w9 ∧ w9.heap[w8.heap.size]? = some (.cells #[.slice Af nd cf, .int .i64 kp] 43 (0, 0))) ?reg2 ?k2
          case reg2 =>
            go_region_held3 (fun w' => w'.cell? ⟨vm, 0, none⟩ = some (.pointer (some ⟨mp, 0, none⟩)) ∧ w'.cell? ⟨mp, 0, none⟩ = some (.map (some mb)) ∧ w'.cell? ⟨qs, 1, none⟩ = some (.int .u8 s.A8) ∧ w'.cell? ⟨0, 0, none⟩ = some (.slice (some na) 4 nc) ∧ w'.cell? (na.add iA) = some (txt kA)) (first | exact ⟨cm8, c08, s18, hn18, hnA8⟩ | go_keep) (fail)
            all_goals refine ⟨rfl, rfl, ?_, ?_⟩
            all_goals first
              | exact heap_alloc_new _ _
              | exact ((Below.refl w8.heap.size w8).alloc (Nat.le_refl _) _).drew
          rintro w9 ⟨hb89, hq9⟩
          have hlt9 : w8.heap.size < w9.heap.size := lt_of_heap hq9
          have HQ9 := Lib.hid hq9
          have HB89 := Lib.hid hb89
          clear hlk hlk2 ne1 ne2 ne3 ne4 ne5 hq9 hb89
          go_wp2_with (fail)
          have HB79 := Lib.hid (HB78.out.trans (HB89.out.mono (Nat.le_of_lt hlt8)))
          have hz79 := HB79.out.size
          have q0 : w9.cell? ⟨qs, 0, none⟩ = some (.int .u8 s.dO) := cellk HB79.out hqs6 (by rw [cell_of_blk HQS.out]; rfl)
          have q3 : w9.cell? ⟨qs, 3, none⟩ = some (.slice s.As s.ns s.cs) := cellk HB79.out hqs6 (by rw [cell_of_blk HQS.out]; rfl)
          have q4 : w9.cell? ⟨qs, 4, none⟩ = some (.int .i8 s.nn) := cellk HB79.out hqs6 (by rw [cell_of_blk HQS.out]; rfl)
          have qm : w9.cell? ⟨vm, 0, none⟩ = some (.pointer (some ⟨mp, 0, none⟩)) := cellk HB79.out (lt_of_heap HVM6.out) (by rw [cell_of_blk HVM6.out]; rfl)
          have qf : w9.cell? ⟨w8.heap.size, 0, none⟩ = some (.slice Af nd cf) := by rw [cell_of_blk HQ9.out]; rfl
          have htot := HBR6.out.ds.t1
          have htr := HBR6.out.ds.r1
          have hdat := HBR6.out.ds.tot.one kA
          have hndl : nd ≤ 1000000 := by
            have h1 := lenF_data F kA
            have h2 := HND.out
            omega
          obtain ⟨v, hv⟩ : ∃ v, v = s.dO % 8 := ⟨_, rfl⟩
          have hv1 : (s.dO : Int).tmod 8 = (v : Int) := by rw [Int.tmod_eq_emod_of_nonneg (by omega)]; omega
          have hv2 : (s.dO : Int) % 8 = (v : Int) := by omega
          have hv3 : IntKind.u8.wrap (v : Int) = (v : Int) := IntWalk.u8_in _ (by omega)
          have hv8 : v < 8 := by omega
          obtain ⟨st, hst⟩ : ∃ st, st = stepB s.dO (F (nameAt s.A8)) s.ns s.nn 500 t := ⟨_, rfl⟩
          have HST := Lib.hid hst
          have HV := Lib.hid hv
          have wr1 : IntKind.i64.wrap ((t : Int) + (s.ns : Int)) = (t : Int) + (s.ns : Int) := IntWalk.i64_in _ (by omega)
          have wr2 : IntKind.i64.wrap s.nn = s.nn := IntWalk.i64_in _ (by omega)
          have hFok : Hid (∀ bs kept, F kA = some (bs, kept) → nd = bs.length) := Lib.hid fun bs kept hF => by
            rw [HND.out]
            unfold dataF
            rw [hF]
          have htle : t ≤ 1000000 := by omega
          clear hst hv htot htr hdat
          go_cut [15] from 72 to 122 (fun s15 wx => s15 = .bool st ∧ Hid (Below w9.heap.size w9 wx))
          case first =>
            by_cases h3 : v < 3
            · have b3 : decide ((v : Int) < 3) = true := decide_eq_true (by omega)
              have b3' : decide ((3 : Int) ≤ (v : Int)) = false := decide_eq_false (by omega)
              have b6 : ((v : Int) == 6) = false := beq_eq_false_iff_ne.2 (by omega)
              by_cases hr : (t : Int) + s.ns ≤ 500
              · have br : decide ((t : Int) + (s.ns : Int) ≤ 500) = true := decide_eq_true hr
                have HS1 : Hid (st = true) := Lib.hid (by rw [HST.out]; unfold stepB; rw [← HV.out, if_pos h3]; exact br)
                refine wp_region_held_drew (S := fun w' => w'.cell? ⟨vm, 0, none⟩ = some (.pointer (some ⟨mp, 0, none⟩)) ∧ w'.cell? ⟨qs, 0, none⟩ = some (.int .u8 s.dO) ∧ w'.cell? ⟨qs, 3, none⟩ = some (.slice s.As s.ns s.cs)) (by kernel_rfl) ⟨qm, q0, q3⟩ (fun hSS => ?_)
                refine' wpAnyH_take (i := 0) (oi := _) (v := ?vA_0) rfl (by kernel_rfl) (by kernel_rfl) (by kernel_rfl) (fun _ _ _ h => h) (Or.inl ⟨by rfl, ?hyA_0⟩) hSS ?restA_0
                case hyA_0 => ((intro w' hSw; (try dsimp only at hSw)); go_simp <;> with_reducible rfl)
                set_option linter.unusedSimpArgs false in try simp only [Act.put, List.setIfInBounds_toArray, List.set_cons_zero, List.set_cons_succ, List.getElem_toArray, List.getElem_cons_zero, List.getElem_cons_succ]
                refine' wpAnyH_take (i := 1) (oi := _) (v := ?vA_1) rfl (by kernel_rfl) (by kernel_rfl) (by kernel_rfl) (fun _ _ _ h => h) (Or.inl ⟨by rfl, ?hyA_1⟩) hSS ?restA_1
                case hyA_1 => ((intro w' hSw; (try dsimp only at hSw)); go_simp <;> with_reducible rfl)
                set_option linter.unusedSimpArgs false in try simp only [Act.put, List.setIfInBounds_toArray, List.set_cons_zero, List.set_cons_succ, List.getElem_toArray, List.getElem_cons_zero, List.getElem_cons_succ]
                refine' wpAnyH_take (i := 2) (oi := _) (v := ?vA_2) rfl (by kernel_rfl) (by kernel_rfl) (by kernel_rfl) (fun _ _ _ h => h) (Or.inl ⟨by rfl, ?hyA_2⟩) hSS ?restA_2
                case hyA_2 => ((intro w' hSw; (try dsimp only at hSw)); go_simp <;> with_reducible rfl)
                set_option linter.unusedSimpArgs false in try simp only [Act.put, List.setIfInBounds_toArray, List.set_cons_zero, List.set_cons_succ, List.getElem_toArray, List.getElem_cons_zero, List.getElem_cons_succ]
                refine' wpAnyH_take (i := 3) (oi := _) (v := ?vA_3) rfl (by kernel_rfl) (by kernel_rfl) (by kernel_rfl) (fun _ _ _ h => h) (Or.inl ⟨by rfl, ?hyA_3⟩) hSS ?restA_3
                case hyA_3 => ((intro w' hSw; (try dsimp only at hSw)); go_simp <;> with_reducible rfl)
                set_option linter.unusedSimpArgs false in try simp only [Act.put, List.setIfInBounds_toArray, List.set_cons_zero, List.set_cons_succ, List.getElem_toArray, List.getElem_cons_zero, List.getElem_cons_succ]
                refine' wpAnyH_take (i := 4) (oi := _) (v := ?vA_4) rfl (by kernel_rfl) (by kernel_rfl) (by kernel_rfl) (fun _ _ _ h => h) (Or.inl ⟨by rfl, ?hyA_4⟩) hSS ?restA_4
                case hyA_4 => ((intro w' hSw; (try dsimp only at hSw)); go_simp <;> with_reducible rfl)
                set_option linter.unusedSimpArgs false in try simp only [Act.put, List.setIfInBounds_toArray, List.set_cons_zero, List.set_cons_succ, List.getElem_toArray, List.getElem_cons_zero, List.getElem_cons_succ]
                refine' wpAnyH_take (i := 5) (oi := _) (v := ?vA_5) rfl (by kernel_rfl) (by kernel_rfl) (by kernel_rfl) (fun _ _ _ h => h) (Or.inl ⟨by rfl, ?hyA_5⟩) hSS ?restA_5
                case hyA_5 => ((intro w' hSw; (try dsimp only at hSw)); go_simp <;> with_reducible rfl)
                set_option linter.unusedSimpArgs false in try simp only [Act.put, List.setIfInBounds_toArray, List.set_cons_zero, List.set_cons_succ, List.getElem_toArray, List.getElem_cons_zero, List.getElem_cons_succ]
                refine' wpAnyH_take (i := 7) (oi := _) (v := ?vA_7) rfl (by kernel_rfl) (by kernel_rfl) (by kernel_rfl) (fun _ _ _ h => h) (Or.inl ⟨by rfl, ?hyA_7⟩) hSS ?restA_7
                case hyA_7 => ((intro w' hSw; (try dsimp only at hSw)); go_simp <;> with_reducible rfl)
                set_option linter.unusedSimpArgs false in try simp only [Act.put, List.setIfInBounds_toArray, List.set_cons_zero, List.set_cons_succ, List.getElem_toArray, List.getElem_cons_zero, List.getElem_cons_succ]
                refine' wpAnyH_take (i := 8) (oi := _) (v := ?vA_8) rfl (by kernel_rfl) (by kernel_rfl) (by kernel_rfl) (fun _ _ _ h => h) (Or.inl ⟨by rfl, ?hyA_8⟩) hSS ?restA_8
                case hyA_8 => ((intro w' hSw; (try dsimp only at hSw)); go_simp <;> with_reducible rfl)
                set_option linter.unusedSimpArgs false in try simp only [Act.put, List.setIfInBounds_toArray, List.set_cons_zero, List.set_cons_succ, List.getElem_toArray, List.getElem_cons_zero, List.getElem_cons_succ]
                refine' wpAnyH_take (i := 9) (oi := _) (v := ?vA_9) rfl (by kernel_rfl) (by kernel_rfl) (by kernel_rfl) (fun _ _ _ h => h) (Or.inl ⟨by rfl, ?hyA_9⟩) hSS ?restA_9
                case hyA_9 => ((intro w' hSw; (try dsimp only at hSw)); go_simp <;> with_reducible rfl)
                set_option linter.unusedSimpArgs false in try simp only [Act.put, List.setIfInBounds_toArray, List.set_cons_zero, List.set_cons_succ, List.getElem_toArray, List.getElem_cons_zero, List.getElem_cons_succ]
                refine wpAnyH_ready (rs := [6]) (by kernel_rfl) (by simp) ?_
                refine AllReadyH.cons rfl (fun K hK => ?_) AllReadyH.nil
                go_simp
                go_at_call 12
                refine (usedM D' k mp mb t 500 F _ (HBR6.out.md.below (HB79.out.drew)) HBR6.out.ds.tot (by omega)).mono ?_
                rintro e wu ⟨rfl, hbu⟩
                have HBU := Lib.hid (((Below.refl w9.heap.size w9).drew).trans hbu)
                clear hbu
                refine hK.out _ _ ⟨cellk HBU.out (World.block_lt_of_cell? _ _ qm) qm, cellk HBU.out (World.block_lt_of_cell? _ _ q0) q0, cellk HBU.out (World.block_lt_of_cell? _ _ q3) q3⟩ (fun hSS => ?_)
                clear hK K
                set_option linter.unusedSimpArgs false in try simp only [Act.put, List.setIfInBounds_toArray, List.set_cons_zero, List.set_cons_succ, List.getElem_toArray, List.getElem_cons_zero, List.getElem_cons_succ]
                refine' wpAnyH_take (i := 10) (oi := _) (v := ?vA_10) rfl (by kernel_rfl) (by kernel_rfl) (by kernel_rfl) (fun _ _ _ h => h) (Or.inl ⟨by rfl, ?hyA_10⟩) hSS ?restA_10
                case hyA_10 => ((intro w' hSw; (try dsimp only at hSw)); go_simp <;> with_reducible rfl)
                set_option linter.unusedSimpArgs false in try simp only [Act.put, List.setIfInBounds_toArray, List.set_cons_zero, List.set_cons_succ, List.getElem_toArray, List.getElem_cons_zero, List.getElem_cons_succ]
                refine' wpAnyH_take (i := 11) (oi := _) (v := ?vA_11) rfl (by kernel_rfl) (by kernel_rfl) (by kernel_rfl) (fun _ _ _ h => h) (Or.inl ⟨by rfl, ?hyA_11⟩) hSS ?restA_11
                case hyA_11 => ((intro w' hSw; (try dsimp only at hSw)); go_simp <;> with_reducible rfl)
                set_option linter.unusedSimpArgs false in try simp only [Act.put, List.setIfInBounds_toArray, List.set_cons_zero, List.set_cons_succ, List.getElem_toArray, List.getElem_cons_zero, List.getElem_cons_succ]
                refine' wpAnyH_take (i := 12) (oi := _) (v := ?vA_12) rfl (by kernel_rfl) (by kernel_rfl) (by kernel_rfl) (fun _ _ _ h => h) (Or.inl ⟨by rfl, ?hyA_12⟩) hSS ?restA_12
                case hyA_12 => ((intro w' hSw; (try dsimp only at hSw)); go_simp <;> with_reducible rfl)
                set_option linter.unusedSimpArgs false in try simp only [Act.put, List.setIfInBounds_toArray, List.set_cons_zero, List.set_cons_succ, List.getElem_toArray, List.getElem_cons_zero, List.getElem_cons_succ]
                refine' wpAnyH_take (i := 13) (oi := _) (v := ?vA_13) rfl (by kernel_rfl) (by kernel_rfl) (by kernel_rfl) (fun _ _ _ h => h) (Or.inl ⟨by rfl, ?hyA_13⟩) hSS ?restA_13
                case hyA_13 => ((intro w' hSw; (try dsimp only at hSw)); go_simp <;> with_reducible rfl)
                set_option linter.unusedSimpArgs false in try simp only [Act.put, List.setIfInBounds_toArray, List.set_cons_zero, List.set_cons_succ, List.getElem_toArray, List.getElem_cons_zero, List.getElem_cons_succ]
                refine' wpAnyH_take (i := 14) (oi := _) (v := _) rfl (by kernel_rfl) (by kernel_rfl) (by kernel_rfl) (fun _ _ _ h => h) (Or.inr ⟨by rfl, rfl⟩) hSS ?restA_14
                set_option linter.unusedSimpArgs false in try simp only [Act.put, List.setIfInBounds_toArray, List.set_cons_zero, List.set_cons_succ, List.getElem_toArray, List.getElem_cons_zero, List.getElem_cons_succ]
                refine' wpAnyH_take (i := 15) (oi := _) (v := _) rfl (by kernel_rfl) (by kernel_rfl) (by kernel_rfl) (fun _ _ _ h => h) (Or.inr ⟨by rfl, rfl⟩) hSS ?restA_15
                set_option linter.unusedSimpArgs false in try simp only [Act.put, List.setIfInBounds_toArray, List.set_cons_zero, List.set_cons_succ, List.getElem_toArray, List.getElem_cons_zero, List.getElem_cons_succ]
                refine' wpAnyH_take (i := 16) (oi := _) (v := _) rfl (by kernel_rfl) (by kernel_rfl) (by kernel_rfl) (fun _ _ _ h => h) (Or.inr ⟨by rfl, rfl⟩) hSS ?restA_16
                set_option linter.unusedSimpArgs false in try simp only [Act.put, List.setIfInBounds_toArray, List.set_cons_zero, List.set_cons_succ, List.getElem_toArray, List.getElem_cons_zero, List.getElem_cons_succ]
                refine' wpAnyH_take (i := 17) (oi := _) (v := _) rfl (by kernel_rfl) (by kernel_rfl) (by kernel_rfl) (fun _ _ _ h => h) (Or.inr ⟨by rfl, rfl⟩) hSS ?restA_17
                set_option linter.unusedSimpArgs false in try simp only [Act.put, List.setIfInBounds_toArray, List.set_cons_zero, List.set_cons_succ, List.getElem_toArray, List.getElem_cons_zero, List.getElem_cons_succ]
                refine' wpAnyH_take (i := 18) (oi := _) (v := _) rfl (by kernel_rfl) (by kernel_rfl) (by kernel_rfl) (fun _ _ _ h => h) (Or.inr ⟨by rfl, rfl⟩) hSS ?restA_18
                set_option linter.unusedSimpArgs false in try simp only [Act.put, List.setIfInBounds_toArray, List.set_cons_zero, List.set_cons_succ, List.getElem_toArray, List.getElem_cons_zero, List.getElem_cons_succ]
                refine' wpAnyH_take (i := 19) (oi := _) (v := _) rfl (by kernel_rfl) (by kernel_rfl) (by kernel_rfl) (fun _ _ _ h => h) (Or.inr ⟨by rfl, rfl⟩) hSS ?restA_19
                set_option linter.unusedSimpArgs false in try simp only [Act.put, List.setIfInBounds_toArray, List.set_cons_zero, List.set_cons_succ, List.getElem_toArray, List.getElem_cons_zero, List.getElem_cons_succ]
                refine' wpAnyH_take (i := 20) (oi := _) (v := _) rfl (by kernel_rfl) (by kernel_rfl) (by kernel_rfl) (fun _ _ _ h => h) (Or.inr ⟨by rfl, rfl⟩) hSS ?restA_20
                set_option linter.unusedSimpArgs false in try simp only [Act.put, List.setIfInBounds_toArray, List.set_cons_zero, List.set_cons_succ, List.getElem_toArray, List.getElem_cons_zero, List.getElem_cons_succ]
                refine' wpAnyH_take (i := 21) (oi := _) (v := _) rfl (by kernel_rfl) (by kernel_rfl) (by kernel_rfl) (fun _ _ _ h => h) (Or.inr ⟨by rfl, rfl⟩) hSS ?restA_21
                set_option linter.unusedSimpArgs false in try simp only [Act.put, List.setIfInBounds_toArray, List.set_cons_zero, List.set_cons_succ, List.getElem_toArray, List.getElem_cons_zero, List.getElem_cons_succ]
                refine' wpAnyH_take (i := 22) (oi := _) (v := _) rfl (by kernel_rfl) (by kernel_rfl) (by kernel_rfl) (fun _ _ _ h => h) (Or.inr ⟨by rfl, rfl⟩) hSS ?restA_22
                set_option linter.unusedSimpArgs false in try simp only [Act.put, List.setIfInBounds_toArray, List.set_cons_zero, List.set_cons_succ, List.getElem_toArray, List.getElem_cons_zero, List.getElem_cons_succ]
                refine' wpAnyH_take (i := 23) (oi := _) (v := _) rfl (by kernel_rfl) (by kernel_rfl) (by kernel_rfl) (fun _ _ _ h => h) (Or.inr ⟨by rfl, rfl⟩) hSS ?restA_23
                set_option linter.unusedSimpArgs false in try simp only [Act.put, List.setIfInBounds_toArray, List.set_cons_zero, List.set_cons_succ, List.getElem_toArray, List.getElem_cons_zero, List.getElem_cons_succ]
                refine' wpAnyH_take (i := 24) (oi := _) (v := _) rfl (by kernel_rfl) (by kernel_rfl) (by kernel_rfl) (fun _ _ _ h => h) (Or.inr ⟨by rfl, rfl⟩) hSS ?restA_24
                set_option linter.unusedSimpArgs false in try simp only [Act.put, List.setIfInBounds_toArray, List.set_cons_zero, List.set_cons_succ, List.getElem_toArray, List.getElem_cons_zero, List.getElem_cons_succ]
                refine' wpAnyH_take (i := 25) (oi := _) (v := _) rfl (by kernel_rfl) (by kernel_rfl) (by kernel_rfl) (fun _ _ _ h => h) (Or.inr ⟨by rfl, rfl⟩) hSS ?restA_25
                set_option linter.unusedSimpArgs false in try simp only [Act.put, List.setIfInBounds_toArray, List.set_cons_zero, List.set_cons_succ, List.getElem_toArray, List.getElem_cons_zero, List.getElem_cons_succ]
                refine' wpAnyH_take (i := 26) (oi := _) (v := _) rfl (by kernel_rfl) (by kernel_rfl) (by kernel_rfl) (fun _ _ _ h => h) (Or.inr ⟨by rfl, rfl⟩) hSS ?restA_26
                set_option linter.unusedSimpArgs false in try simp only [Act.put, List.setIfInBounds_toArray, List.set_cons_zero, List.set_cons_succ, List.getElem_toArray, List.getElem_cons_zero, List.getElem_cons_succ]
                refine' wpAnyH_take (i := 27) (oi := _) (v := ?vA_27) rfl (by kernel_rfl) (by kernel_rfl) (by kernel_rfl) (fun _ _ _ h => h) (Or.inl ⟨by rfl, ?hyA_27⟩) hSS ?restA_27
                case hyA_27 => ((intro w' hSw; (try dsimp only at hSw)); go_simp <;> with_reducible rfl)
                set_option linter.unusedSimpArgs false in try simp only [Act.put, List.setIfInBounds_toArray, List.set_cons_zero, List.set_cons_succ, List.getElem_toArray, List.getElem_cons_zero, List.getElem_cons_succ]
                refine' wpAnyH_take (i := 28) (oi := _) (v := ?vA_28) rfl (by kernel_rfl) (by kernel_rfl) (by kernel_rfl) (fun _ _ _ h => h) (Or.inl ⟨by rfl, ?hyA_28⟩) hSS ?restA_28
                case hyA_28 => ((intro w' hSw; (try dsimp only at hSw)); go_simp <;> with_reducible rfl)
                set_option linter.unusedSimpArgs false in try simp only [Act.put, List.setIfInBounds_toArray, List.set_cons_zero, List.set_cons_succ, List.getElem_toArray, List.getElem_cons_zero, List.getElem_cons_succ]
                refine' wpAnyH_take (i := 29) (oi := _) (v := _) rfl (by kernel_rfl) (by kernel_rfl) (by kernel_rfl) (fun _ _ _ h => h) (Or.inr ⟨by rfl, rfl⟩) hSS ?restA_29
                set_option linter.unusedSimpArgs false in try simp only [Act.put, List.setIfInBounds_toArray, List.set_cons_zero, List.set_cons_succ, List.getElem_toArray, List.getElem_cons_zero, List.getElem_cons_succ]
                refine' wpAnyH_take (i := 30) (oi := _) (v := _) rfl (by kernel_rfl) (by kernel_rfl) (by kernel_rfl) (fun _ _ _ h => h) (Or.inr ⟨by rfl, rfl⟩) hSS ?restA_30
                set_option linter.unusedSimpArgs false in try simp only [Act.put, List.setIfInBounds_toArray, List.set_cons_zero, List.set_cons_succ, List.getElem_toArray, List.getElem_cons_zero, List.getElem_cons_succ]
                refine' wpAnyH_take (i := 31) (oi := _) (v := _) rfl (by kernel_rfl) (by kernel_rfl) (by kernel_rfl) (fun _ _ _ h => h) (Or.inr ⟨by rfl, rfl⟩) hSS ?restA_31
                set_option linter.unusedSimpArgs false in try simp only [Act.put, List.setIfInBounds_toArray, List.set_cons_zero, List.set_cons_succ, List.getElem_toArray, List.getElem_cons_zero, List.getElem_cons_succ]
                refine' wpAnyH_take (i := 32) (oi := _) (v := _) rfl (by kernel_rfl) (by kernel_rfl) (by kernel_rfl) (fun _ _ _ h => h) (Or.inr ⟨by rfl, rfl⟩) hSS ?restA_32
                set_option linter.unusedSimpArgs false in try simp only [Act.put, List.setIfInBounds_toArray, List.set_cons_zero, List.set_cons_succ, List.getElem_toArray, List.getElem_cons_zero, List.getElem_cons_succ]
                refine' wpAnyH_take (i := 33) (oi := _) (v := _) rfl (by kernel_rfl) (by kernel_rfl) (by kernel_rfl) (fun _ _ _ h => h) (Or.inr ⟨by rfl, rfl⟩) hSS ?restA_33
                set_option linter.unusedSimpArgs false in try simp only [Act.put, List.setIfInBounds_toArray, List.set_cons_zero, List.set_cons_succ, List.getElem_toArray, List.getElem_cons_zero, List.getElem_cons_succ]
                refine' wpAnyH_take (i := 34) (oi := _) (v := _) rfl (by kernel_rfl) (by kernel_rfl) (by kernel_rfl) (fun _ _ _ h => h) (Or.inr ⟨by rfl, rfl⟩) hSS ?restA_34
                set_option linter.unusedSimpArgs false in try simp only [Act.put, List.setIfInBounds_toArray, List.set_cons_zero, List.set_cons_succ, List.getElem_toArray, List.getElem_cons_zero, List.getElem_cons_succ]
                refine' wpAnyH_take (i := 35) (oi := _) (v := _) rfl (by kernel_rfl) (by kernel_rfl) (by kernel_rfl) (fun _ _ _ h => h) (Or.inr ⟨by rfl, rfl⟩) hSS ?restA_35
                set_option linter.unusedSimpArgs false in try simp only [Act.put, List.setIfInBounds_toArray, List.set_cons_zero, List.set_cons_succ, List.getElem_toArray, List.getElem_cons_zero, List.getElem_cons_succ]
                refine' wpAnyH_take (i := 36) (oi := _) (v := _) rfl (by kernel_rfl) (by kernel_rfl) (by kernel_rfl) (fun _ _ _ h => h) (Or.inr ⟨by rfl, rfl⟩) hSS ?restA_36
                set_option linter.unusedSimpArgs false in try simp only [Act.put, List.setIfInBounds_toArray, List.set_cons_zero, List.set_cons_succ, List.getElem_toArray, List.getElem_cons_zero, List.getElem_cons_succ]
                refine' wpAnyH_take (i := 37) (oi := _) (v := _) rfl (by kernel_rfl) (by kernel_rfl) (by kernel_rfl) (fun _ _ _ h => h) (Or.inr ⟨by rfl, rfl⟩) hSS ?restA_37
                set_option linter.unusedSimpArgs false in try simp only [Act.put, List.setIfInBounds_toArray, List.set_cons_zero, List.set_cons_succ, List.getElem_toArray, List.getElem_cons_zero, List.getElem_cons_succ]
                refine' wpAnyH_take (i := 38) (oi := _) (v := _) rfl (by kernel_rfl) (by kernel_rfl) (by kernel_rfl) (fun _ _ _ h => h) (Or.inr ⟨by rfl, rfl⟩) hSS ?restA_38
                set_option linter.unusedSimpArgs false in try simp only [Act.put, List.setIfInBounds_toArray, List.set_cons_zero, List.set_cons_succ, List.getElem_toArray, List.getElem_cons_zero, List.getElem_cons_succ]
                refine' wpAnyH_take (i := 39) (oi := _) (v := _) rfl (by kernel_rfl) (by kernel_rfl) (by kernel_rfl) (fun _ _ _ h => h) (Or.inr ⟨by rfl, rfl⟩) hSS ?restA_39
                set_option linter.unusedSimpArgs false in try simp only [Act.put, List.setIfInBounds_toArray, List.set_cons_zero, List.set_cons_succ, List.getElem_toArray, List.getElem_cons_zero, List.getElem_cons_succ]
                refine' wpAnyH_take (i := 40) (oi := _) (v := _) rfl (by kernel_rfl) (by kernel_rfl) (by kernel_rfl) (fun _ _ _ h => h) (Or.inr ⟨by rfl, rfl⟩) hSS ?restA_40
                set_option linter.unusedSimpArgs false in try simp only [Act.put, List.setIfInBounds_toArray, List.set_cons_zero, List.set_cons_succ, List.getElem_toArray, List.getElem_cons_zero, List.getElem_cons_succ]
                refine' wpAnyH_take (i := 41) (oi := _) (v := _) rfl (by kernel_rfl) (by kernel_rfl) (by kernel_rfl) (fun _ _ _ h => h) (Or.inr ⟨by rfl, rfl⟩) hSS ?restA_41
                set_option linter.unusedSimpArgs false in try simp only [Act.put, List.setIfInBounds_toArray, List.set_cons_zero, List.set_cons_succ, List.getElem_toArray, List.getElem_cons_zero, List.getElem_cons_succ]
                refine' wpAnyH_take (i := 42) (oi := _) (v := _) rfl (by kernel_rfl) (by kernel_rfl) (by kernel_rfl) (fun _ _ _ h => h) (Or.inr ⟨by rfl, rfl⟩) hSS ?restA_42
                set_option linter.unusedSimpArgs false in try simp only [Act.put, List.setIfInBounds_toArray, List.set_cons_zero, List.set_cons_succ, List.getElem_toArray, List.getElem_cons_zero, List.getElem_cons_succ]
                refine' wpAnyH_take (i := 43) (oi := _) (v := _) rfl (by kernel_rfl) (by kernel_rfl) (by kernel_rfl) (fun _ _ _ h => h) (Or.inr ⟨by rfl, rfl⟩) hSS ?restA_43
                set_option linter.unusedSimpArgs false in try simp only [Act.put, List.setIfInBounds_toArray, List.set_cons_zero, List.set_cons_succ, List.getElem_toArray, List.getElem_cons_zero, List.getElem_cons_succ]
                refine' wpAnyH_take (i := 44) (oi := _) (v := _) rfl (by kernel_rfl) (by kernel_rfl) (by kernel_rfl) (fun _ _ _ h => h) (Or.inr ⟨by rfl, rfl⟩) hSS ?restA_44
                set_option linter.unusedSimpArgs false in try simp only [Act.put, List.setIfInBounds_toArray, List.set_cons_zero, List.set_cons_succ, List.getElem_toArray, List.getElem_cons_zero, List.getElem_cons_succ]
                refine' wpAnyH_take (i := 45) (oi := _) (v := _) rfl (by kernel_rfl) (by kernel_rfl) (by kernel_rfl) (fun _ _ _ h => h) (Or.inr ⟨by rfl, rfl⟩) hSS ?restA_45
                set_option linter.unusedSimpArgs false in try simp only [Act.put, List.setIfInBounds_toArray, List.set_cons_zero, List.set_cons_succ, List.getElem_toArray, List.getElem_cons_zero, List.getElem_cons_succ]
                refine' wpAnyH_take (i := 46) (oi := _) (v := _) rfl (by kernel_rfl) (by kernel_rfl) (by kernel_rfl) (fun _ _ _ h => h) (Or.inr ⟨by rfl, rfl⟩) hSS ?restA_46
                set_option linter.unusedSimpArgs false in try simp only [Act.put, List.setIfInBounds_toArray, List.set_cons_zero, List.set_cons_succ, List.getElem_toArray, List.getElem_cons_zero, List.getElem_cons_succ]
                refine' wpAnyH_take (i := 47) (oi := _) (v := _) rfl (by kernel_rfl) (by kernel_rfl) (by kernel_rfl) (fun _ _ _ h => h) (Or.inr ⟨by rfl, rfl⟩) hSS ?restA_47
                set_option linter.unusedSimpArgs false in try simp only [Act.put, List.setIfInBounds_toArray, List.set_cons_zero, List.set_cons_succ, List.getElem_toArray, List.getElem_cons_zero, List.getElem_cons_succ]
                refine' wpAnyH_take (i := 48) (oi := _) (v := _) rfl (by kernel_rfl) (by kernel_rfl) (by kernel_rfl) (fun _ _ _ h => h) (Or.inr ⟨by rfl, rfl⟩) hSS ?restA_48
                set_option linter.unusedSimpArgs false in try simp only [Act.put, List.setIfInBounds_toArray, List.set_cons_zero, List.set_cons_succ, List.getElem_toArray, List.getElem_cons_zero, List.getElem_cons_succ]
                refine' wpAnyH_take (i := 49) (oi := _) (v := _) rfl (by kernel_rfl) (by kernel_rfl) (by kernel_rfl) (fun _ _ _ h => h) (Or.inr ⟨by rfl, rfl⟩) hSS ?restA_49
                set_option linter.unusedSimpArgs false in try simp only [Act.put, List.setIfInBounds_toArray, List.set_cons_zero, List.set_cons_succ, List.getElem_toArray, List.getElem_cons_zero, List.getElem_cons_succ]
                refine' wpAnyH_take (i := 50) (oi := _) (v := ?vA_50) rfl (by kernel_rfl) (by kernel_rfl) (by kernel_rfl) (fun _ _ _ h => h) (Or.inl ⟨by rfl, ?hyA_50⟩) hSS ?restA_50
                case hyA_50 => ((intro w' hSw; (try dsimp only at hSw)); go_simp <;> with_reducible rfl)
                set_option linter.unusedSimpArgs false in try simp only [Act.put, List.setIfInBounds_toArray, List.set_cons_zero, List.set_cons_succ, List.getElem_toArray, List.getElem_cons_zero, List.getElem_cons_succ]
                refine' wpAnyH_take (i := 51) (oi := _) (v := ?vA_51) rfl (by kernel_rfl) (by kernel_rfl) (by kernel_rfl) (fun _ _ _ h => h) (Or.inl ⟨by rfl, ?hyA_51⟩) hSS ?restA_51
                case hyA_51 => ((intro w' hSw; (try dsimp only at hSw)); go_simp <;> with_reducible rfl)
                set_option linter.unusedSimpArgs false in try simp only [Act.put, List.setIfInBounds_toArray, List.set_cons_zero, List.set_cons_succ, List.getElem_toArray, List.getElem_cons_zero, List.getElem_cons_succ]
                refine wpAnyH_done (by kernel_rfl) ?_ _
                go_wp2_with (fail)
                go_meet
                exact ⟨by rw [HS1.out], HBU⟩
              · have br : decide ((t : Int) + (s.ns : Int) ≤ 500) = false := decide_eq_false hr
                have HS1 : Hid (st = false) := Lib.hid (by rw [HST.out]; unfold stepB; rw [← HV.out, if_pos h3]; exact br)
                refine wp_region_held_drew (S := fun w' => w'.cell? ⟨vm, 0, none⟩ = some (.pointer (some ⟨mp, 0, none⟩)) ∧ w'.cell? ⟨qs, 0, none⟩ = some (.int .u8 s.dO) ∧ w'.cell? ⟨qs, 3, none⟩ = some (.slice s.As s.ns s.cs)) (by kernel_rfl) ⟨qm, q0, q3⟩ (fun hSS => ?_)
                refine' wpAnyH_take (i := 0) (oi := _) (v := ?vB_0) rfl (by kernel_rfl) (by kernel_rfl) (by kernel_rfl) (fun _ _ _ h => h) (Or.inl ⟨by rfl, ?hyB_0⟩) hSS ?restB_0
                case hyB_0 => ((intro w' hSw; (try dsimp only at hSw)); go_simp <;> with_reducible rfl)
                set_option linter.unusedSimpArgs false in try simp only [Act.put, List.setIfInBounds_toArray, List.set_cons_zero, List.set_cons_succ, List.getElem_toArray, List.getElem_cons_zero, List.getElem_cons_succ]
                refine' wpAnyH_take (i := 1) (oi := _) (v := ?vB_1) rfl (by kernel_rfl) (by kernel_rfl) (by kernel_rfl) (fun _ _ _ h => h) (Or.inl ⟨by rfl, ?hyB_1⟩) hSS ?restB_1
                case hyB_1 => ((intro w' hSw; (try dsimp only at hSw)); go_simp <;> with_reducible rfl)
                set_option linter.unusedSimpArgs false in try simp only [Act.put, List.setIfInBounds_toArray, List.set_cons_zero, List.set_cons_succ, List.getElem_toArray, List.getElem_cons_zero, List.getElem_cons_succ]
                refine' wpAnyH_take (i := 2) (oi := _) (v := ?vB_2) rfl (by kernel_rfl) (by kernel_rfl) (by kernel_rfl) (fun _ _ _ h => h) (Or.inl ⟨by rfl, ?hyB_2⟩) hSS ?restB_2
                case hyB_2 => ((intro w' hSw; (try dsimp only at hSw)); go_simp <;> with_reducible rfl)
                set_option linter.unusedSimpArgs false in try simp only [Act.put, List.setIfInBounds_toArray, List.set_cons_zero, List.set_cons_succ, List.getElem_toArray, List.getElem_cons_zero, List.getElem_cons_succ]
                refine' wpAnyH_take (i := 3) (oi := _) (v := ?vB_3) rfl (by kernel_rfl) (by kernel_rfl) (by kernel_rfl) (fun _ _ _ h => h) (Or.inl ⟨by rfl, ?hyB_3⟩) hSS ?restB_3
                case hyB_3 => ((intro w' hSw; (try dsimp only at hSw)); go_simp <;> with_reducible rfl)
                set_option linter.unusedSimpArgs false in try simp only [Act.put, List.setIfInBounds_toArray, List.set_cons_zero, List.set_cons_succ, List.getElem_toArray, List.getElem_cons_zero, List.getElem_cons_succ]
                refine' wpAnyH_take (i := 4) (oi := _) (v := ?vB_4) rfl (by kernel_rfl) (by kernel_rfl) (by kernel_rfl) (fun _ _ _ h => h) (Or.inl ⟨by rfl, ?hyB_4⟩) hSS ?restB_4
                case hyB_4 => ((intro w' hSw; (try dsimp only at hSw)); go_simp <;> with_reducible rfl)
                set_option linter.unusedSimpArgs false in try simp only [Act.put, List.setIfInBounds_toArray, List.set_cons_zero, List.set_cons_succ, List.getElem_toArray, List.getElem_cons_zero, List.getElem_cons_succ]
                refine' wpAnyH_take (i := 5) (oi := _) (v := ?vB_5) rfl (by kernel_rfl) (by kernel_rfl) (by kernel_rfl) (fun _ _ _ h => h) (Or.inl ⟨by rfl, ?hyB_5⟩) hSS ?restB_5
                case hyB_5 => ((intro w' hSw; (try dsimp only at hSw)); go_simp <;> with_reducible rfl)
                set_option linter.unusedSimpArgs false in try simp only [Act.put, List.setIfInBounds_toArray, List.set_cons_zero, List.set_cons_succ, List.getElem_toArray, List.getElem_cons_zero, List.getElem_cons_succ]
                refine' wpAnyH_take (i := 7) (oi := _) (v := ?vB_7) rfl (by kernel_rfl) (by kernel_rfl) (by kernel_rfl) (fun _ _ _ h => h) (Or.inl ⟨by rfl, ?hyB_7⟩) hSS ?restB_7
                case hyB_7 => ((intro w' hSw; (try dsimp only at hSw)); go_simp <;> with_reducible rfl)
                set_option linter.unusedSimpArgs false in try simp only [Act.put, List.setIfInBounds_toArray, List.set_cons_zero, List.set_cons_succ, List.getElem_toArray, List.getElem_cons_zero, List.getElem_cons_succ]
                refine' wpAnyH_take (i := 8) (oi := _) (v := ?vB_8) rfl (by kernel_rfl) (by kernel_rfl) (by kernel_rfl) (fun _ _ _ h => h) (Or.inl ⟨by rfl, ?hyB_8⟩) hSS ?restB_8
                case hyB_8 => ((intro w' hSw; (try dsimp only at hSw)); go_simp <;> with_reducible rfl)
                set_option linter.unusedSimpArgs false in try simp only [Act.put, List.setIfInBounds_toArray, List.set_cons_zero, List.set_cons_succ, List.getElem_toArray, List.getElem_cons_zero, List.getElem_cons_succ]
                refine' wpAnyH_take (i := 9) (oi := _) (v := ?vB_9) rfl (by kernel_rfl) (by kernel_rfl) (by kernel_rfl) (fun _ _ _ h => h) (Or.inl ⟨by rfl, ?hyB_9⟩) hSS ?restB_9
                case hyB_9 => ((intro w' hSw; (try dsimp only at hSw)); go_simp <;> with_reducible rfl)
                set_option linter.unusedSimpArgs false in try simp only [Act.put, List.setIfInBounds_toArray, List.set_cons_zero, List.set_cons_succ, List.getElem_toArray, List.getElem_cons_zero, List.getElem_cons_succ]
                refine wpAnyH_ready (rs := [6]) (by kernel_rfl) (by simp) ?_
                refine AllReadyH.cons rfl (fun K hK => ?_) AllReadyH.nil
                go_simp
                go_at_call 12
                refine (usedM D' k mp mb t 500 F _ (HBR6.out.md.below (HB79.out.drew)) HBR6.out.ds.tot (by omega)).mono ?_
                rintro e wu ⟨rfl, hbu⟩
                have HBU := Lib.hid (((Below.refl w9.heap.size w9).drew).trans hbu)
                clear hbu
                refine hK.out _ _ ⟨cellk HBU.out (World.block_lt_of_cell? _ _ qm) qm, cellk HBU.out (World.block_lt_of_cell? _ _ q0) q0, cellk HBU.out (World.block_lt_of_cell? _ _ q3) q3⟩ (fun hSS => ?_)
                clear hK K
                set_option linter.unusedSimpArgs false in try simp only [Act.put, List.setIfInBounds_toArray, List.set_cons_zero, List.set_cons_succ, List.getElem_toArray, List.getElem_cons_zero, List.getElem_cons_succ]
                refine' wpAnyH_take (i := 10) (oi := _) (v := ?vB_10) rfl (by kernel_rfl) (by kernel_rfl) (by kernel_rfl) (fun _ _ _ h => h) (Or.inl ⟨by rfl, ?hyB_10⟩) hSS ?restB_10
                case hyB_10 => ((intro w' hSw; (try dsimp only at hSw)); go_simp <;> with_reducible rfl)
                set_option linter.unusedSimpArgs false in try simp only [Act.put, List.setIfInBounds_toArray, List.set_cons_zero, List.set_cons_succ, List.getElem_toArray, List.getElem_cons_zero, List.getElem_cons_succ]
                refine' wpAnyH_take (i := 11) (oi := _) (v := ?vB_11) rfl (by kernel_rfl) (by kernel_rfl) (by kernel_rfl) (fun _ _ _ h => h) (Or.inl ⟨by rfl, ?hyB_11⟩) hSS ?restB_11
                case hyB_11 => ((intro w' hSw; (try dsimp only at hSw)); go_simp <;> with_reducible rfl)
                set_option linter.unusedSimpArgs false in try simp only [Act.put, List.setIfInBounds_toArray, List.set_cons_zero, List.set_cons_succ, List.getElem_toArray, List.getElem_cons_zero, List.getElem_cons_succ]
                refine' wpAnyH_take (i := 12) (oi := _) (v := ?vB_12) rfl (by kernel_rfl) (by kernel_rfl) (by kernel_rfl) (fun _ _ _ h => h) (Or.inl ⟨by rfl, ?hyB_12⟩) hSS ?restB_12
                case hyB_12 => ((intro w' hSw; (try dsimp only at hSw)); go_simp <;> with_reducible rfl)
                set_option linter.unusedSimpArgs false in try simp only [Act.put, List.setIfInBounds_toArray, List.set_cons_zero, List.set_cons_succ, List.getElem_toArray, List.getElem_cons_zero, List.getElem_cons_succ]
                refine' wpAnyH_take (i := 13) (oi := _) (v := ?vB_13) rfl (by kernel_rfl) (by kernel_rfl) (by kernel_rfl) (fun _ _ _ h => h) (Or.inl ⟨by rfl, ?hyB_13⟩) hSS ?restB_13
                case hyB_13 => ((intro w' hSw; (try dsimp only at hSw)); go_simp <;> with_reducible rfl)
                set_option linter.unusedSimpArgs false in try simp only [Act.put, List.setIfInBounds_toArray, List.set_cons_zero, List.set_cons_succ, List.getElem_toArray, List.getElem_cons_zero, List.getElem_cons_succ]
                refine' wpAnyH_take (i := 14) (oi := _) (v := ?vB_14) rfl (by kernel_rfl) (by kernel_rfl) (by kernel_rfl) (fun _ _ _ h => h) (Or.inl ⟨by rfl, ?hyB_14⟩) hSS ?restB_14
                case hyB_14 => ((intro w' hSw; (try dsimp only at hSw)); go_simp <;> with_reducible rfl)
                set_option linter.unusedSimpArgs false in try simp only [Act.put, List.setIfInBounds_toArray, List.set_cons_zero, List.set_cons_succ, List.getElem_toArray, List.getElem_cons_zero, List.getElem_cons_succ]
                refine' wpAnyH_take (i := 15) (oi := _) (v := ?vB_15) rfl (by kernel_rfl) (by kernel_rfl) (by kernel_rfl) (fun _ _ _ h => h) (Or.inl ⟨by rfl, ?hyB_15⟩) hSS ?restB_15
                case hyB_15 => ((intro w' hSw; (try dsimp only at hSw)); go_simp <;> with_reducible rfl)
                set_option linter.unusedSimpArgs false in try simp only [Act.put, List.setIfInBounds_toArray, List.set_cons_zero, List.set_cons_succ, List.getElem_toArray, List.getElem_cons_zero, List.getElem_cons_succ]
                refine' wpAnyH_take (i := 16) (oi := _) (v := ?vB_16) rfl (by kernel_rfl) (by kernel_rfl) (by kernel_rfl) (fun _ _ _ h => h) (Or.inl ⟨by rfl, ?hyB_16⟩) hSS ?restB_16
                case hyB_16 => ((intro w' hSw; (try dsimp only at hSw)); go_simp <;> with_reducible rfl)
                set_option linter.unusedSimpArgs false in try simp only [Act.put, List.setIfInBounds_toArray, List.set_cons_zero, List.set_cons_succ, List.getElem_toArray, List.getElem_cons_zero, List.getElem_cons_succ]
                refine' wpAnyH_take (i := 17) (oi := _) (v := ?vB_17) rfl (by kernel_rfl) (by kernel_rfl) (by kernel_rfl) (fun _ _ _ h => h) (Or.inl ⟨by rfl, ?hyB_17⟩) hSS ?restB_17
                case hyB_17 => ((intro w' hSw; (try dsimp only at hSw)); go_simp <;> with_reducible rfl)
                set_option linter.unusedSimpArgs false in try simp only [Act.put, List.setIfInBounds_toArray, List.set_cons_zero, List.set_cons_succ, List.getElem_toArray, List.getElem_cons_zero, List.getElem_cons_succ]
                refine' wpAnyH_take (i := 18) (oi := _) (v := ?vB_18) rfl (by kernel_rfl) (by kernel_rfl) (by kernel_rfl) (fun _ _ _ h => h) (Or.inl ⟨by rfl, ?hyB_18⟩) hSS ?restB_18
                case hyB_18 => ((intro w' hSw; (try dsimp only at hSw)); go_simp <;> with_reducible rfl)
                set_option linter.unusedSimpArgs false in try simp only [Act.put, List.setIfInBounds_toArray, List.set_cons_zero, List.set_cons_succ, List.getElem_toArray, List.getElem_cons_zero, List.getElem_cons_succ]
                refine' wpAnyH_take (i := 19) (oi := _) (v := _) rfl (by kernel_rfl) (by kernel_rfl) (by kernel_rfl) (fun _ _ _ h => h) (Or.inr ⟨by rfl, rfl⟩) hSS ?restB_19
                set_option linter.unusedSimpArgs false in try simp only [Act.put, List.setIfInBounds_toArray, List.set_cons_zero, List.set_cons_succ, List.getElem_toArray, List.getElem_cons_zero, List.getElem_cons_succ]
                refine' wpAnyH_take (i := 20) (oi := _) (v := _) rfl (by kernel_rfl) (by kernel_rfl) (by kernel_rfl) (fun _ _ _ h => h) (Or.inr ⟨by rfl, rfl⟩) hSS ?restB_20
                set_option linter.unusedSimpArgs false in try simp only [Act.put, List.setIfInBounds_toArray, List.set_cons_zero, List.set_cons_succ, List.getElem_toArray, List.getElem_cons_zero, List.getElem_cons_succ]
                refine' wpAnyH_take (i := 21) (oi := _) (v := _) rfl (by kernel_rfl) (by kernel_rfl) (by kernel_rfl) (fun _ _ _ h => h) (Or.inr ⟨by rfl, rfl⟩) hSS ?restB_21
                set_option linter.unusedSimpArgs false in try simp only [Act.put, List.setIfInBounds_toArray, List.set_cons_zero, List.set_cons_succ, List.getElem_toArray, List.getElem_cons_zero, List.getElem_cons_succ]
                refine' wpAnyH_take (i := 22) (oi := _) (v := _) rfl (by kernel_rfl) (by kernel_rfl) (by kernel_rfl) (fun _ _ _ h => h) (Or.inr ⟨by rfl, rfl⟩) hSS ?restB_22
                set_option linter.unusedSimpArgs false in try simp only [Act.put, List.setIfInBounds_toArray, List.set_cons_zero, List.set_cons_succ, List.getElem_toArray, List.getElem_cons_zero, List.getElem_cons_succ]
                refine' wpAnyH_take (i := 23) (oi := _) (v := ?vB_23) rfl (by kernel_rfl) (by kernel_rfl) (by kernel_rfl) (fun _ _ _ h => h) (Or.inl ⟨by rfl, ?hyB_23⟩) hSS ?restB_23
                case hyB_23 => ((intro w' hSw; (try dsimp only at hSw)); go_simp <;> with_reducible rfl)
                set_option linter.unusedSimpArgs false in try simp only [Act.put, List.setIfInBounds_toArray, List.set_cons_zero, List.set_cons_succ, List.getElem_toArray, List.getElem_cons_zero, List.getElem_cons_succ]
                refine' wpAnyH_take (i := 24) (oi := _) (v := ?vB_24) rfl (by kernel_rfl) (by kernel_rfl) (by kernel_rfl) (fun _ _ _ h => h) (Or.inl ⟨by rfl, ?hyB_24⟩) hSS ?restB_24
                case hyB_24 => ((intro w' hSw; (try dsimp only at hSw)); go_simp <;> with_reducible rfl)
                set_option linter.unusedSimpArgs false in try simp only [Act.put, List.setIfInBounds_toArray, List.set_cons_zero, List.set_cons_succ, List.getElem_toArray, List.getElem_cons_zero, List.getElem_cons_succ]
                refine' wpAnyH_take (i := 25) (oi := _) (v := _) rfl (by kernel_rfl) (by kernel_rfl) (by kernel_rfl) (fun _ _ _ h => h) (Or.inr ⟨by rfl, rfl⟩) hSS ?restB_25
                set_option linter.unusedSimpArgs false in try simp only [Act.put, List.setIfInBounds_toArray, List.set_cons_zero, List.set_cons_succ, List.getElem_toArray, List.getElem_cons_zero, List.getElem_cons_succ]
                refine' wpAnyH_take (i := 26) (oi := _) (v := ?vB_26) rfl (by kernel_rfl) (by kernel_rfl) (by kernel_rfl) (fun _ _ _ h => h) (Or.inl ⟨by rfl, ?hyB_26⟩) hSS ?restB_26
                case hyB_26 => ((intro w' hSw; (try dsimp only at hSw)); go_simp <;> with_reducible rfl)
                set_option linter.unusedSimpArgs false in try simp only [Act.put, List.setIfInBounds_toArray, List.set_cons_zero, List.set_cons_succ, List.getElem_toArray, List.getElem_cons_zero, List.getElem_cons_succ]
                refine' wpAnyH_take (i := 27) (oi := _) (v := ?vB_27) rfl (by kernel_rfl) (by kernel_rfl) (by kernel_rfl) (fun _ _ _ h => h) (Or.inl ⟨by rfl, ?hyB_27⟩) hSS ?restB_27
                case hyB_27 => ((intro w' hSw; (try dsimp only at hSw)); go_simp <;> with_reducible rfl)
                set_option linter.unusedSimpArgs false in try simp only [Act.put, List.setIfInBounds_toArray, List.set_cons_zero, List.set_cons_succ, List.getElem_toArray, List.getElem_cons_zero, List.getElem_cons_succ]
                refine' wpAnyH_take (i := 28) (oi := _) (v := ?vB_28) rfl (by kernel_rfl) (by kernel_rfl) (by kernel_rfl) (fun _ _ _ h => h) (Or.inl ⟨by rfl, ?hyB_28⟩) hSS ?restB_28
                case hyB_28 => ((intro w' hSw; (try dsimp only at hSw)); go_simp <;> with_reducible rfl)
                set_option linter.unusedSimpArgs false in try simp only [Act.put, List.setIfInBounds_toArray, List.set_cons_zero, List.set_cons_succ, List.getElem_toArray, List.getElem_cons_zero, List.getElem_cons_succ]
                refine' wpAnyH_take (i := 29) (oi := _) (v := ?vB_29) rfl (by kernel_rfl) (by kernel_rfl) (by kernel_rfl) (fun _ _ _ h => h) (Or.inl ⟨by rfl, ?hyB_29⟩) hSS ?restB_29
                case hyB_29 => ((intro w' hSw; (try dsimp only at hSw)); go_simp <;> with_reducible rfl)
                set_option linter.unusedSimpArgs false in try simp only [Act.put, List.setIfInBounds_toArray, List.set_cons_zero, List.set_cons_succ, List.getElem_toArray, List.getElem_cons_zero, List.getElem_cons_succ]
                refine' wpAnyH_take (i := 30) (oi := _) (v := ?vB_30) rfl (by kernel_rfl) (by kernel_rfl) (by kernel_rfl) (fun _ _ _ h => h) (Or.inl ⟨by rfl, ?hyB_30⟩) hSS ?restB_30
                case hyB_30 => ((intro w' hSw; (try dsimp only at hSw)); go_simp <;> with_reducible rfl)
                set_option linter.unusedSimpArgs false in try simp only [Act.put, List.setIfInBounds_toArray, List.set_cons_zero, List.set_cons_succ, List.getElem_toArray, List.getElem_cons_zero, List.getElem_cons_succ]
                refine' wpAnyH_take (i := 31) (oi := _) (v := ?vB_31) rfl (by kernel_rfl) (by kernel_rfl) (by kernel_rfl) (fun _ _ _ h => h) (Or.inl ⟨by rfl, ?hyB_31⟩) hSS ?restB_31
                case hyB_31 => ((intro w' hSw; (try dsimp only at hSw)); go_simp <;> with_reducible rfl)
                set_option linter.unusedSimpArgs false in try simp only [Act.put, List.setIfInBounds_toArray, List.set_cons_zero, List.set_cons_succ, List.getElem_toArray, List.getElem_cons_zero, List.getElem_cons_succ]
                refine' wpAnyH_take (i := 32) (oi := _) (v := ?vB_32) rfl (by kernel_rfl) (by kernel_rfl) (by kernel_rfl) (fun _ _ _ h => h) (Or.inl ⟨by rfl, ?hyB_32⟩) hSS ?restB_32
                case hyB_32 => ((intro w' hSw; (try dsimp only at hSw)); go_simp <;> with_reducible rfl)
                set_option linter.unusedSimpArgs false in try simp only [Act.put, List.setIfInBounds_toArray, List.set_cons_zero, List.set_cons_succ, List.getElem_toArray, List.getElem_cons_zero, List.getElem_cons_succ]
                refine' wpAnyH_take (i := 33) (oi := _) (v := ?vB_33) rfl (by kernel_rfl) (by kernel_rfl) (by kernel_rfl) (fun _ _ _ h => h) (Or.inl ⟨by rfl, ?hyB_33⟩) hSS ?restB_33
                case hyB_33 => ((intro w' hSw; (try dsimp only at hSw)); go_simp <;> with_reducible rfl)
                set_option linter.unusedSimpArgs false in try simp only [Act.put, List.setIfInBounds_toArray, List.set_cons_zero, List.set_cons_succ, List.getElem_toArray, List.getElem_cons_zero, List.getElem_cons_succ]
                refine' wpAnyH_take (i := 34) (oi := _) (v := _) rfl (by kernel_rfl) (by kernel_rfl) (by kernel_rfl) (fun _ _ _ h => h) (Or.inr ⟨by rfl, rfl⟩) hSS ?restB_34
                set_option linter.unusedSimpArgs false in try simp only [Act.put, List.setIfInBounds_toArray, List.set_cons_zero, List.set_cons_succ, List.getElem_toArray, List.getElem_cons_zero, List.getElem_cons_succ]
                refine' wpAnyH_take (i := 35) (oi := _) (v := ?vB_35) rfl (by kernel_rfl) (by kernel_rfl) (by kernel_rfl) (fun _ _ _ h => h) (Or.inl ⟨by rfl, ?hyB_35⟩) hSS ?restB_35
                case hyB_35 => ((intro w' hSw; (try dsimp only at hSw)); go_simp <;> with_reducible rfl)
                set_option linter.unusedSimpArgs false in try simp only [Act.put, List.setIfInBounds_toArray, List.set_cons_zero, List.set_cons_succ, List.getElem_toArray, List.getElem_cons_zero, List.getElem_cons_succ]
                refine' wpAnyH_take (i := 36) (oi := _) (v := ?vB_36) rfl (by kernel_rfl) (by kernel_rfl) (by kernel_rfl) (fun _ _ _ h => h) (Or.inl ⟨by rfl, ?hyB_36⟩) hSS ?restB_36
                case hyB_36 => ((intro w' hSw; (try dsimp only at hSw)); go_simp <;> with_reducible rfl)
                set_option linter.unusedSimpArgs false in try simp only [Act.put, List.setIfInBounds_toArray, List.set_cons_zero, List.set_cons_succ, List.getElem_toArray, List.getElem_cons_zero, List.getElem_cons_succ]
                refine' wpAnyH_take (i := 37) (oi := _) (v := _) rfl (by kernel_rfl) (by kernel_rfl) (by kernel_rfl) (fun _ _ _ h => h) (Or.inr ⟨by rfl, rfl⟩) hSS ?restB_37
                set_option linter.unusedSimpArgs false in try simp only [Act.put, List.setIfInBounds_toArray, List.set_cons_zero, List.set_cons_succ, List.getElem_toArray, List.getElem_cons_zero, List.getElem_cons_succ]
                refine' wpAnyH_take (i := 38) (oi := _) (v := _) rfl (by kernel_rfl) (by kernel_rfl) (by kernel_rfl) (fun _ _ _ h => h) (Or.inr ⟨by rfl, rfl⟩) hSS ?restB_38
                set_option linter.unusedSimpArgs false in try simp only [Act.put, List.setIfInBounds_toArray, List.set_cons_zero, List.set_cons_succ, List.getElem_toArray, List.getElem_cons_zero, List.getElem_cons_succ]
                refine' wpAnyH_take (i := 39) (oi := _) (v := _) rfl (by kernel_rfl) (by kernel_rfl) (by kernel_rfl) (fun _ _ _ h => h) (Or.inr ⟨by rfl, rfl⟩) hSS ?restB_39
                set_option linter.unusedSimpArgs false in try simp only [Act.put, List.setIfInBounds_toArray, List.set_cons_zero, List.set_cons_succ, List.getElem_toArray, List.getElem_cons_zero, List.getElem_cons_succ]
                refine' wpAnyH_take (i := 40) (oi := _) (v := ?vB_40) rfl (by kernel_rfl) (by kernel_rfl) (by kernel_rfl) (fun _ _ _ h => h) (Or.inl ⟨by rfl, ?hyB_40⟩) hSS ?restB_40
                case hyB_40 => ((intro w' hSw; (try dsimp only at hSw)); go_simp <;> with_reducible rfl)
                set_option linter.unusedSimpArgs false in try simp only [Act.put, List.setIfInBounds_toArray, List.set_cons_zero, List.set_cons_succ, List.getElem_toArray, List.getElem_cons_zero, List.getElem_cons_succ]
                refine' wpAnyH_take (i := 41) (oi := _) (v := ?vB_41) rfl (by kernel_rfl) (by kernel_rfl) (by kernel_rfl) (fun _ _ _ h => h) (Or.inl ⟨by rfl, ?hyB_41⟩) hSS ?restB_41
                case hyB_41 => ((intro w' hSw; (try dsimp only at hSw)); go_simp <;> with_reducible rfl)
                set_option linter.unusedSimpArgs false in try simp only [Act.put, List.setIfInBounds_toArray, List.set_cons_zero, List.set_cons_succ, List.getElem_toArray, List.getElem_cons_zero, List.getElem_cons_succ]
                refine' wpAnyH_take (i := 42) (oi := _) (v := _) rfl (by kernel_rfl) (by kernel_rfl) (by kernel_rfl) (fun _ _ _ h => h) (Or.inr ⟨by rfl, rfl⟩) hSS ?restB_42
                set_option linter.unusedSimpArgs false in try simp only [Act.put, List.setIfInBounds_toArray, List.set_cons_zero, List.set_cons_succ, List.getElem_toArray, List.getElem_cons_zero, List.getElem_cons_succ]
                refine' wpAnyH_take (i := 43) (oi := _) (v := _) rfl (by kernel_rfl) (by kernel_rfl) (by kernel_rfl) (fun _ _ _ h => h) (Or.inr ⟨by rfl, rfl⟩) hSS ?restB_43
                set_option linter.unusedSimpArgs false in try simp only [Act.put, List.setIfInBounds_toArray, List.set_cons_zero, List.set_cons_succ, List.getElem_toArray, List.getElem_cons_zero, List.getElem_cons_succ]
                refine' wpAnyH_take (i := 44) (oi := _) (v := _) rfl (by kernel_rfl) (by kernel_rfl) (by kernel_rfl) (fun _ _ _ h => h) (Or.inr ⟨by rfl, rfl⟩) hSS ?restB_44
                set_option linter.unusedSimpArgs false in try simp only [Act.put, List.setIfInBounds_toArray, List.set_cons_zero, List.set_cons_succ, List.getElem_toArray, List.getElem_cons_zero, List.getElem_cons_succ]
                refine' wpAnyH_take (i := 45) (oi := _) (v := _) rfl (by kernel_rfl) (by kernel_rfl) (by kernel_rfl) (fun _ _ _ h => h) (Or.inr ⟨by rfl, rfl⟩) hSS ?restB_45
                set_option linter.unusedSimpArgs false in try simp only [Act.put, List.setIfInBounds_toArray, List.set_cons_zero, List.set_cons_succ, List.getElem_toArray, List.getElem_cons_zero, List.getElem_cons_succ]
                refine' wpAnyH_take (i := 46) (oi := _) (v := _) rfl (by kernel_rfl) (by kernel_rfl) (by kernel_rfl) (fun _ _ _ h => h) (Or.inr ⟨by rfl, rfl⟩) hSS ?restB_46
                set_option linter.unusedSimpArgs false in try simp only [Act.put, List.setIfInBounds_toArray, List.set_cons_zero, List.set_cons_succ, List.getElem_toArray, List.getElem_cons_zero, List.getElem_cons_succ]
                refine' wpAnyH_take (i := 47) (oi := _) (v := _) rfl (by kernel_rfl) (by kernel_rfl) (by kernel_rfl) (fun _ _ _ h => h) (Or.inr ⟨by rfl, rfl⟩) hSS ?restB_47
                set_option linter.unusedSimpArgs false in try simp only [Act.put, List.setIfInBounds_toArray, List.set_cons_zero, List.set_cons_succ, List.getElem_toArray, List.getElem_cons_zero, List.getElem_cons_succ]
                refine' wpAnyH_take (i := 48) (oi := _) (v := _) rfl (by kernel_rfl) (by kernel_rfl) (by kernel_rfl) (fun _ _ _ h => h) (Or.inr ⟨by rfl, rfl⟩) hSS ?restB_48
                set_option linter.unusedSimpArgs false in try simp only [Act.put, List.setIfInBounds_toArray, List.set_cons_zero, List.set_cons_succ, List.getElem_toArray, List.getElem_cons_zero, List.getElem_cons_succ]
                refine' wpAnyH_take (i := 49) (oi := _) (v := ?vB_49) rfl (by kernel_rfl) (by kernel_rfl) (by kernel_rfl) (fun _ _ _ h => h) (Or.inl ⟨by rfl, ?hyB_49⟩) hSS ?restB_49
                case hyB_49 => ((intro w' hSw; (try dsimp only at hSw)); go_simp <;> with_reducible rfl)
                set_option linter.unusedSimpArgs false in try simp only [Act.put, List.setIfInBounds_toArray, List.set_cons_zero, List.set_cons_succ, List.getElem_toArray, List.getElem_cons_zero, List.getElem_cons_succ]
                refine' wpAnyH_take (i := 50) (oi := _) (v := ?vB_50) rfl (by kernel_rfl) (by kernel_rfl) (by kernel_rfl) (fun _ _ _ h => h) (Or.inl ⟨by rfl, ?hyB_50⟩) hSS ?restB_50
                case hyB_50 => ((intro w' hSw; (try dsimp only at hSw)); go_simp <;> with_reducible rfl)
                set_option linter.unusedSimpArgs false in try simp only [Act.put, List.setIfInBounds_toArray, List.set_cons_zero, List.set_cons_succ, List.getElem_toArray, List.getElem_cons_zero, List.getElem_cons_succ]
                refine' wpAnyH_take (i := 51) (oi := _) (v := ?vB_51) rfl (by kernel_rfl) (by kernel_rfl) (by kernel_rfl) (fun _ _ _ h => h) (Or.inl ⟨by rfl, ?hyB_51⟩) hSS ?restB_51
                case hyB_51 => ((intro w' hSw; (try dsimp only at hSw)); go_simp <;> with_reducible rfl)
                set_option linter.unusedSimpArgs false in try simp only [Act.put, List.setIfInBounds_toArray, List.set_cons_zero, List.set_cons_succ, List.getElem_toArray, List.getElem_cons_zero, List.getElem_cons_succ]
                refine wpAnyH_done (by kernel_rfl) ?_ _
                go_wp2_with (fail)
                go_meet
                exact ⟨by rw [HS1.out], HBU⟩
            · have b3 : decide ((v : Int) < 3) = false := decide_eq_false (by omega)
              have b3' : decide ((3 : Int) ≤ (v : Int)) = true := decide_eq_true (by omega)
              by_cases h5 : v ≤ 5
              · have b5 : decide ((v : Int) ≤ 5) = true := decide_eq_true (by omega)
                have b6 : ((v : Int) == 6) = false := beq_eq_false_iff_ne.2 (by omega)
                cases ok
                · have HS1 : Hid (st = false) := Lib.hid (by rw [HST.out]; unfold stepB; rw [← HV.out, if_neg h3, if_pos h5, ← HKA.out]; exact HO2.out.symm)
                  go_quiet (fail)
                  go_wp2_with (fail)
                  go_meet
                  exact ⟨by rw [HS1.out], Lib.hid (bdrewN (Below.refl _ _) _)⟩
                · have HS1 : Hid (st = true) := Lib.hid (by rw [HST.out]; unfold stepB; rw [← HV.out, if_neg h3, if_pos h5, ← HKA.out]; exact HO2.out.symm)
                  go_quiet (fail)
                  go_wp2_with (fail)
                  go_meet
                  exact ⟨by rw [HS1.out], Lib.hid (bdrewN (Below.refl _ _) _)⟩
              · have b5 : decide ((v : Int) ≤ 5) = false := decide_eq_false (by omega)
                by_cases h6 : v = 6
                · have b6 : ((v : Int) == 6) = true := beq_iff_eq.2 (by omega)
                  cases ok
                  · have HS1 : Hid (st = false) := Lib.hid (by
                      rw [HST.out]; unfold stepB
                      rw [← HV.out, if_neg h3, if_neg h5, if_pos h6, ← HKA.out]
                      have h7 := HO2.out
                      cases hF : F kA with
                      | none => rfl
                      | some x => rw [hF] at h7; cases h7)
                    go_quiet (fail)
                    go_wp2_with (fail)
                    go_meet
                    exact ⟨by rw [HS1.out], Lib.hid (bdrewN (Below.refl _ _) _)⟩
                  · obtain ⟨bs, kept, hF⟩ : ∃ bs kept, F kA = some (bs, kept) := by
                      have h7 := HO2.out
                      cases hF : F kA with
                      | none => rw [hF] at h7; cases h7
                      | some x => exact ⟨x.1, x.2, rfl⟩
                    have hnb := hFok.out bs kept hF
                    have HF := Lib.hid hF
                    clear hF
                    by_cases h7 : 0 ≤ s.nn
                    · have b7 : decide ((0 : Int) ≤ s.nn) = true := decide_eq_true h7
                      by_cases h8 : s.nn ≤ (nd : Int)
                      · have b8 : decide (s.nn ≤ (nd : Int)) = true := decide_eq_true h8
                        have HS1 : Hid (st = true) := Lib.hid (by
                          rw [HST.out]; unfold stepB
                          rw [← HV.out, if_neg h3, if_neg h5, if_pos h6, ← HKA.out, HF.out]
                          exact decide_eq_true ⟨h7, by rw [← hnb]; exact h8⟩)
                        clear hnb
                        go_quiet (fail)
                        go_wp2_with (fail)
                        go_meet
                        exact ⟨by rw [HS1.out], Lib.hid (bdrewN (Below.refl _ _) _)⟩
                      · have b8 : decide (s.nn ≤ (nd : Int)) = false := decide_eq_false h8
                        have HS1 : Hid (st = false) := Lib.hid (by
                          rw [HST.out]; unfold stepB
                          rw [← HV.out, if_neg h3, if_neg h5, if_pos h6, ← HKA.out, HF.out]
                          exact decide_eq_false fun h => h8 (by rw [hnb]; exact h.2))
                        clear hnb
                        go_quiet (fail)
                        go_wp2_with (fail)
                        go_meet
                        exact ⟨by rw [HS1.out], Lib.hid (bdrewN (Below.refl _ _) _)⟩
                    · have b7 : decide ((0 : Int) ≤ s.nn) = false := decide_eq_false h7
                      have HS1 : Hid (st = false) := Lib.hid (by
                        rw [HST.out]; unfold stepB
                        rw [← HV.out, if_neg h3, if_neg h5, if_pos h6, ← HKA.out, HF.out]
                        exact decide_eq_false fun h => h7 h.1)
                      clear hnb
                      go_quiet (fail)
                      go_wp2_with (fail)
                      go_meet
                      exact ⟨by rw [HS1.out], Lib.hid (bdrewN (Below.refl _ _) _)⟩
                · have b6 : ((v : Int) == 6) = false := beq_eq_false_iff_ne.2 (by omega)
                  have HS1 : Hid (st = false) := Lib.hid (by rw [HST.out]; unfold stepB; rw [← HV.out, if_neg h3, if_neg h5, if_neg h6])
                  go_quiet (fail)
                  go_wp2_with (fail)
                  go_meet
                  exact ⟨by rw [HS1.out], Lib.hid (bdrewN (Below.refl _ _) _)⟩
          case rest =>
            obtain ⟨rfl, HBC⟩ := hcut
            clear hv1 hv2 hv3 wr1 wr2 q0 q3 q4 qm qf
            have hzc := HBC.out.size
            have HB7C := Lib.hid (HB79.out.trans (HBC.out.mono hz79))
            have hz7c := HB7C.out.size
            have hb11 : Below w7.heap.size w7 ((wc.alloc (.cells #[.bool true] 4 (0, 0))).alloc (.cells #[.bool false] 4 (0, 0))) := (HB7C.out.alloc hz7c _).alloc (by rw [World.size_alloc]; omega) _
            have hzz : (wc.alloc (.cells #[.bool true] 4 (0, 0))).heap.size = wc.heap.size + 1 := World.size_alloc _ _
            have hlc := HLC.out
            have hld := HLD.out
            obtain ⟨nv1, nv2, nv3, nv4⟩ := HNVr.out
            have htb : ∀ g, qs ≤ g → ¬ TouchB C' D' pw g := by
              rintro g hg ((h1 | h1) | h1)
              · have := hlc g (.inl h1); omega
              · have := hlc g (.inr h1); omega
              · have := hld g h1; omega
            have hc1 := fun (g : Nat) (i : Nat) (u : Value) (hlt : g < w7.heap.size) (h1 : w7.cell? ⟨g, i, none⟩ = some u) => cellk hb11 (p := ⟨g, i, none⟩) hlt h1
            have hclo := stepsClo w0.heap.size W.heap.size k a pw t k mp mb s.dO s.A8 s.B8 s.bits s.ns s.cs s.As C' D' lm u 500 s.nn F s.ds _ st vm vd qs wc.heap.size (wc.heap.size + 1) (HBR6.out.below hb11) (HNL.out.below (HB6.out.trans (hb11.mono HB6.out.size))) (Nat.le_trans HB6.out.size hb11.size) o0 o1 o2 (by omega) (by omega) (by omega) (by omega) o3 o4 (HRD.out.below (HB6.out.trans (hb11.mono HB6.out.size))) hbw (by omega) o5 HST.out
              (hc1 vm 0 _ (lt_of_heap HVM6.out) (by rw [cell_of_blk HVM6.out]; rfl)) (hc1 vd 0 _ (lt_of_heap HVD6.out) (by rw [cell_of_blk HVD6.out]; rfl))
              (hc1 qs 0 _ hqs6 (by rw [cell_of_blk HQS.out]; rfl)) (hc1 qs 1 _ hqs6 (by rw [cell_of_blk HQS.out]; rfl)) (hc1 qs 2 _ hqs6 (by rw [cell_of_blk HQS.out]; rfl)) (hc1 qs 3 _ hqs6 (by rw [cell_of_blk HQS.out]; rfl)) (hc1 qs 4 _ hqs6 (by rw [cell_of_blk HQS.out]; rfl)) (hc1 qs 5 _ hqs6 (by rw [cell_of_blk HQS.out]; rfl))
              (heap_alloc_keep (heap_alloc_new wc _) _) (heap_new_at hzz) (by omega) (by omega) (htb _ (by omega)) (htb _ (by omega))
              (by rintro ((h1 | h1) | h1); exact nv1 h1; exact hv1 h1; exact nv3 h1) (by rintro ((h1 | h1) | h1); exact nv2 h1; exact hv2 h1; exact nv4 h1) (by omega) (by omega)
            have HCL := Lib.hid hclo
            have HB11 := Lib.hid hb11
            have HC1 := Lib.hid hc1
            have HZZ := Lib.hid hzz
            clear hclo hb11 hc1 htb hlc hld hzz
            go_wp2_with (fail)
            refine (run_any 14 #[] #[.pointer (some ⟨vm, 0, none⟩), .pointer (some ⟨vd, 0, none⟩), .pointer (some ⟨qs, 0, none⟩), .pointer (some ⟨wc.heap.size, 0, none⟩)] (wc.alloc (.cells #[.bool true] 4 (0, 0))) (StepsR w0.heap.size W.heap.size ((wc.alloc (.cells #[.bool true] 4 (0, 0))).alloc (.cells #[.bool false] 4 (0, 0))) C' D' k k a pw mp mb lm u 500 st vd vm wc.heap.size (wc.heap.size + 1)) (enters_of Tryd.func14 (by kernel_rfl) rfl) ?hf).mono ?_
            case hf =>
              refine HCL.out.mono ?_
              rintro e w2 ⟨b, he, hR⟩
              refine ⟨b, he, ?_, ?_, hR⟩
              · rw [HZZ.out, cell_of_blk hR.2.1]; rfl
              · rw [HZZ.out]; exact frozen_of_blk hR.2.1 0
            rintro e w14 ⟨b, rfl, w12, ⟨hR1, hR2, hR3, hR4, hR5⟩, hm14⟩
            have hzz := HZZ.out
            rw [hzz] at hm14
            have hz11 := HB11.out.size
            have hlz := lt_of_heap hR2
            have hBW : Below W.heap.size W w14 := ((HB6.out.trans (HB11.out.mono HB6.out.size)).trans hR1).trans (hm14.below (Nat.le_trans HB6.out.size (by omega)) (fun g hg e => by omega))
            have HBW := Lib.hid hBW
            have HM14 := Lib.hid hm14
            clear hBW HCL
            have hlp := HLC.out pw (.inr rfl)
            cases b
            · obtain ⟨rfl, hul2, hb12⟩ := hR5 rfl
              obtain rfl : u = lm := by omega
              have up : w14.cell? ⟨pw, 1, none⟩ = some (.int .i64 (u : Int)) := by
                rw [hm14.cell (show pw < w12.heap.size from by have := hb12.size; omega) (by show ¬ pw = _; omega), cell_of_blk ((HBR6.out.below (HB11.out.trans (hb12.mono (by omega)))).ds.pow)]; rfl
              clear hR1 hR2 hR4 hR5 hm14 hb12
              go_wp2_with (go_at_call 11; refine (used_any pw u _ up).mono ?_; rintro e w15 ⟨rfl, rfl⟩)
              go_ret
              exact ⟨rfl, HBW.out⟩
            · obtain ⟨hus0, C2, D2, F2, t2, hbo, hC, hD, hk1, hk2, hk3⟩ := hR4 rfl
              have hbo14 : Both w0.heap.size w14 C2 D2 (k + 1) (k + 1) a pw mp mb lm (if st then (u : Int) + 1 else u) 500 F2 t2 := by
                have hlt := hbo.ds.lt
                refine ⟨hbo.ds.mod hm14 (fun g hg e => ?_) (fun e => by omega), hbo.md.mod hm14 (fun g hg e => ?_), hbo.cd, hbo.dp, hbo.db⟩
                · rcases hC g hg with h1 | h1
                  · have := HLC.out g (.inl h1); omega
                  · rw [World.size_alloc, hzz] at h1; omega
                · rcases hD g hg with h1 | h1
                  · have := HLD.out g h1; omega
                  · rw [World.size_alloc, hzz] at h1; omega
              have hvd14 : w14.heap[vd]? = some (.cells #[.pointer (some ⟨a, 0, none⟩)] 24 (0, 0)) := hm14.blk (hk1.trans ((HB11.out.block vd (lt_of_heap HVD6.out)).trans HVD6.out)) (by show ¬ vd = _; omega)
              have hvm14 : w14.heap[vm]? = some (.cells #[.pointer (some ⟨mp, 0, none⟩)] 26 (0, 0)) := hm14.blk (hk2.trans ((HB11.out.block vm (lt_of_heap HVM6.out)).trans HVM6.out)) (by show ¬ vm = _; omega)
              have hvr14 := hm14.blk hk3 (by show ¬ wc.heap.size = _; omega)
              have hnv14 : ¬ C2 vd ∧ ¬ C2 vm ∧ ¬ D2 vd ∧ ¬ D2 vm := by
                refine ⟨fun hg => ?_, fun hg => ?_, fun hg => ?_, fun hg => ?_⟩
                · rcases hC _ hg with h1 | h1
                  · exact nv1 h1
                  · rw [World.size_alloc, hzz] at h1; omega
                · rcases hC _ hg with h1 | h1
                  · exact nv2 h1
                  · rw [World.size_alloc, hzz] at h1; omega
                · rcases hD _ hg with h1 | h1
                  · exact nv3 h1
                  · rw [World.size_alloc, hzz] at h1; omega
                · rcases hD _ hg with h1 | h1
                  · exact nv4 h1
                  · rw [World.size_alloc, hzz] at h1; omega
              have HVD14 := Lib.hid hvd14
              have HVM14 := Lib.hid hvm14
              have HNV14 := Lib.hid hnv14
              have hr14 : w14.cell? ⟨wc.heap.size, 0, none⟩ = some (.bool true) := by rw [cell_of_blk hvr14]; rfl
              have hule : u ≤ k := by omega
              have hu1 : IntKind.i64.wrap ((u : Int) + 1) = ((u + 1 : Nat) : Int) := by rw [IntWalk.i64_in _ (by omega)]; push_cast; rfl
              have hus : st = true → u < lm := fun h1 => by have := hus0 h1; omega
              clear hus0
              clear hR1 hR2 hR4 hR5 hm14 hbo hvd14 hvm14 hnv14 hk1 hk2 hk3 hvr14 hC hD
              cases st
              · have hbo15 : Both w0.heap.size w14 C2 D2 (k + 1) (k + 1) a pw mp mb lm u 500 F2 t2 := hbo14
                have HBO := Lib.hid hbo15
                have up : w14.cell? ⟨pw, 1, none⟩ = some (.int .i64 (u : Int)) := by rw [cell_of_blk hbo15.ds.pow]; rfl
                clear hbo14 hbo15 hus
                go_wp2_with (go_at_call 11; refine (used_any pw u _ up).mono ?_; rintro e w15 ⟨rfl, rfl⟩)
                exact ⟨⟨k + 1, t2, u, C2, D2, F2, by omega, by push_cast; rfl, rfl, by omega, hul, HBO, HVD14, HVM14, HNV14, HBW⟩, by simp [intOf]; omega⟩
              · have hbo15 : Both w0.heap.size w14 C2 D2 (k + 1) (k + 1) a pw mp mb lm ((u + 1 : Nat) : Int) 500 F2 t2 := hbo14
                have HBO := Lib.hid hbo15
                have up : w14.cell? ⟨pw, 1, none⟩ = some (.int .i64 ((u + 1 : Nat) : Int)) := by rw [cell_of_blk hbo15.ds.pow]; rfl
                have hu2 := hus rfl
                clear hbo14 hbo15 hus
                go_wp2_with (go_at_call 11; refine (used_any pw (u + 1 : Nat) _ up).mono ?_; rintro e w15 ⟨rfl, rfl⟩)
                exact ⟨⟨k + 1, t2, u + 1, C2, D2, F2, by omega, by push_cast; rfl, rfl, by omega, by omega, HBO, HVD14, HVM14, HNV14, HBW⟩, by simp [intOf]; omega⟩
      · obtain rfl : k = n := by omega
        have g0 : decide ((k : Int) < (k : Int)) = false := decide_eq_false (by omega)
        have cd : wr.cell? ⟨vd, 0, none⟩ = some (.pointer (some ⟨a, 0, none⟩)) := by rw [cell_of_blk HVDr.out]; rfl
        have cm : wr.cell? ⟨vm, 0, none⟩ = some (.pointer (some ⟨mp, 0, none⟩)) := by rw [cell_of_blk HVMr.out]; rfl
        go_wp2_with (fail)
        refine (sameM w0.heap.size W.heap.size k a pw t k mp mb C' D' lm u 500 F _ HBR.out (HNL.out.below HB.out) HB.out.size (by omega)).mono ?_
        rintro e w8 ⟨rfl, hb8⟩
        go_wp2_with (fail)
        go_ret
        exact ⟨rfl, HB.out.trans (hb8.mono hszr)⟩
end Go.Proofs.YtfccoiofpmhbdaaDoor
