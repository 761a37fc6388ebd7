/- selionlaw07.WalAppends answers true, whatever the pieces, the room, the bits. Condition: the package's variable 'none' holds what its text lays. -/
import Derived.Test.YtocgfcboigiigaaDoorWal
namespace Go.Proofs.YtocgfcboigiigaaDoor
open Go Go.Proofs Go.RowKit

set_option maxHeartbeats 8000000 in
set_option maxRecDepth 100000 in
theorem appends7 (A : Option Addr) (n c room bits : Nat) (L : BL) (w : World) (hn : NoneLaid w) (hr : RowsAt w w.heap.size A n L) (hnb : n ≤ 9223372036854775807) (hcl : room < 65536) (hbits : bits < 2 ^ 64) :
    Calls Tryd.prog 12 #[.slice A n c, .int .u16 room, .int .u64 bits] w fun e w' => e = .returned (.bool true) ∧ Below w.heap.size w w' := by
  have hl := hr.len
  have HR := Lib.hid hr
  have HL := Lib.hid hl
  clear hr hl
  obtain ⟨r, hrr⟩ : ∃ r, r = room % 400 := ⟨_, rfl⟩
  have hr4 : r < 400 := by omega
  have hr1 : (room : Int) % 400 = (r : Int) := by omega
  have hr0 : (room : Int).tmod 400 = (r : Int) := by rw [Int.tmod_eq_emod_of_nonneg (by omega)]; exact hr1
  have hr5 : IntKind.u16.wrap (r : Int) = (r : Int) := IntWalk.u16_in _ (by omega)
  clear hrr
  go_enter Tryd.func12, Tryd.ntmps12
  go_wp2_with (fail)
  refine (awake7_any w hn).mono ?_
  rintro e w1 ⟨rfl, hb1⟩
  clear hn
  have hz1 := hb1.size
  have HB1 := Lib.hid hb1
  clear hb1
  go_wp2_with (fail)
  by_cases hlight : (∀ x ∈ L, x.2.1 ≤ 40) ∧ n ≤ 12
  · refine (light7 true A n c _ L w1 (HR.out.below HB1.out) hnb (decide_eq_true hlight)).mono ?_
    rintro e w1' ⟨rfl, hw1'⟩
    rw [hw1']
    clear hw1' w1'
    obtain ⟨h40, hs1⟩ := hlight
    have H40 := Lib.hid h40
    clear h40
    go_wp2_with (fail)
    refine (dsNew r w1 (by omega) (by omega)).mono ?_
    rintro e w2 ⟨C, a, pw, rfl, hd, hb2⟩
    have hz2 := hb2.size
    have hlt := hd.lt
    have HD := Lib.hid hd
    have HB2 := Lib.hid (HB1.out.trans (hb2.mono hz1))
    clear hd hb2
    go_wp2_with (fail)
    refine (logOpen_new w1.heap.size 0 a pw 0 C (-1) 0 r (fun _ => none) [108, 111, 103] w2 HD.out (by decide) rfl).mono ?_
    rintro e w3 ⟨rfl, hp3, hb3⟩
    have hz3 := hb3.size
    have hpc : ¬ C w2.heap.size := fun h => Nat.lt_irrefl _ (hlt _ (.inl h))
    have hpp : w2.heap.size ≠ pw := fun h => by have := hlt pw (.inr rfl); omega
    have HD3 := Lib.hid (HD.out.below hb3)
    have HP3 := Lib.hid hp3
    have HB3 := Lib.hid (HB2.out.trans (hb3.mono (by omega)))
    obtain ⟨p, hpe⟩ : ∃ p, p = w2.heap.size := ⟨_, rfl⟩
    have hpw : w2.heap.size ≤ p := by omega
    rw [← hpe] at HP3 hpc hpp ⊢
    clear hp3 hb3 hpe
    go_wp2_with (fail)
    go_loopw [12, 13, 43] (fun vw vs i wr => ∃ (k : Nat) (Lq : BL) (Av : Option Addr) (cv : Nat) (C' : Nat → Prop) (u' : Int) (F' : Files) (t' : Nat), k ≤ n ∧ i = .int .i64 k ∧ vw = .slice Av Lq.length cv ∧ vs = .int .i64 (t' : Int) ∧ Lq.length ≤ k ∧ t' ≤ r ∧ Hid (∀ x ∈ Lq, x ∈ L) ∧ Hid (wr.ownsRow w1.heap.size 22 1 (.slice Av Lq.length cv) Lq.length (Lq.map slV)) ∧ Hid (DS w1.heap.size wr C' (1 + 3 * k) a pw (-1) u' r F' t') ∧ Hid (LogHas F' [108, 111, 103] (bytesOf Lq)) ∧ Hid (LogAt wr p a [108, 111, 103]) ∧ Hid (∀ g, (Value.slice Av Lq.length cv).ownBlock = some g → ¬ C' g ∧ g ≠ pw ∧ g ≠ p) ∧ Hid (¬ C' p) ∧ Hid (Below w.heap.size w wr) ∧ Hid ((rowsF (bytesOf Lq)).length = t')) (fun _ _ i _ => n - (intOf i).toNat)
    case atStart => exact ⟨0, [], none, 0, C, 0, _, 0, Nat.zero_le _, rfl, rfl, rfl, Nat.le_refl _, by omega, Lib.hid (fun x hx => by cases hx), Lib.hid (World.ownsRow_nil _ _ _ _), Lib.hid (HD3.out.more (by omega) (by omega)), Lib.hid (.nil rfl), HP3, Lib.hid (fun g h => by cases h), Lib.hid hpc, HB3, Lib.hid rfl⟩
    case round =>
      obtain ⟨k, Lq, Av, cv, C', u', F', t', hk, rfl, rfl, rfl, hlk, htk, HLQ, HOW, HDR, HHR, HPR, HSEP, HPC, HBR, HTE⟩ := hrel
      have hzr : w1.heap.size ≤ wr.heap.size := HDR.out.size
      obtain ⟨wo, rfl⟩ : ∃ wo : World, wo = wr := ⟨_, rfl⟩
      obtain ⟨m, hm⟩ : ∃ m, m = Lq.length := ⟨_, rfl⟩
      rw [← hm] at HOW hlk HSEP ⊢
      have HM := Lib.hid hm
      clear hm
      by_cases hlt : k < n
      · obtain ⟨x, hx⟩ : ∃ x, L[k]? = some x := ⟨L[k]'(by rw [HL.out]; exact hlt), List.getElem?_eq_getElem _⟩
        obtain ⟨ad, rfl, had, hc⟩ := HR.out.1.2 (by omega)
        have d0 : wo.cell? (ad.add k) = some (.slice x.1 x.2.1 x.2.2.1) := cellk HBR.out (by rw [block_of_add]; exact had) (hc k (slV x) (by rw [List.getElem?_map, hx]; rfl))
        have h40 := H40.out x (List.mem_of_getElem? hx)
        have R0 := Lib.hid ((HR.out.2 x (List.mem_of_getElem? hx)))
        have HX := Lib.hid hx
        obtain ⟨a1, n1, c1, q⟩ := x
        simp only at d0 R0 h40
        have hin0 : (0 : Int) ≤ (k : Int) := by omega
        have hin1 : (k : Int) < (n : Int) := by omega
        clear hx hc
        by_cases hfull : r < t' + 8 + n1
        · have hg : decide ((r : Int) < (t' : Int) + 8 + (n1 : Int)) = true := decide_eq_true (by omega)
          go_wp2_with (fail)
          refine (logAppendFail w1.heap.size (1 + 3 * k) a pw t' p w.heap.size C' (-1) u' r F' [108, 111, 103] q a1 n1 c1 wo HDR.out HPR.out (R0.out.below HBR.out) (HBR.out.size) (by omega) (by omega)).mono ?_
          rintro e w5 ⟨rfl, hb5⟩
          have hz5 := hb5.size
          have HO5 := Lib.hid (owns_bel HOW.out hb5)
          have HB5 := Lib.hid (HBR.out.trans (hb5.mono HBR.out.size))
          have HD5 := Lib.hid ((HDR.out.below hb5).more (nb' := 1 + 3 * (k + 1)) (by omega) (by omega))
          have HP5 := Lib.hid (HPR.out.below hb5)
          clear hb5
          go_wp2_with (fail)
          refine ⟨⟨k + 1, Lq, Av, cv, C', u', F', t', by omega, by go_num, by rw [← HM.out], rfl, by rw [← HM.out]; omega, htk, HLQ, by rw [← HM.out]; exact HO5, HD5, HHR, HP5, by rw [← HM.out]; exact HSEP, HPC, HB5, HTE⟩, by simp [intOf]; omega⟩
        · have hg : decide ((r : Int) < (t' : Int) + 8 + (n1 : Int)) = false := decide_eq_false (by omega)
          go_wp2_with (fail)
          refine (logAppend w1.heap.size (1 + 3 * k) a pw t' p w.heap.size C' (-1) u' r F' [108, 111, 103] q a1 n1 c1 wo HDR.out HPR.out HPC.out hpp (by omega) (by omega) (by decide) (R0.out.below HBR.out) (HBR.out.size) (by omega) (by omega)).mono ?_
          rintro e w5 ⟨rfl, C5, hd5, hc5, hm5, hb5⟩
          have hz5 := hm5.size
          have hpl := lt_of_heap HPR.out
          have hs0 := HSEP.out
          have hl0 := HOW.out.lt
          have hqn : q.length = n1 := by have := R0.out.1; rw [bv_length] at this; omega
          have HQN := Lib.hid hqn
          have HO5 := Lib.hid (owns_modv HOW.out hm5 (fun g hg h => h.elim (hs0 g hg).1 (hs0 g hg).2.1))
          have HP5 := Lib.hid (HPR.out.mod hm5 (fun h => h.elim HPC.out hpp))
          have HH5 := HHR.out.app q
          obtain ⟨F5, hF5⟩ : ∃ F5, F5 = putF F' [108, 111, 103] (dataF F' [108, 111, 103] ++ wrapF q, (dataF F' [108, 111, 103] ++ wrapF q).length) := ⟨_, rfl⟩
          rw [← hF5] at hd5 HH5
          have HD5 := Lib.hid hd5
          have HH5 := Lib.hid HH5
          have HB5 := Lib.hid (HBR.out.trans (hb5.mono (by omega)))
          have hs5 : ∀ g, (Value.slice Av m cv).ownBlock = some g → ¬ C5 g ∧ g ≠ pw ∧ g ≠ p := fun g hg => ⟨fun h => by
            rcases hc5 g h with h | h
            · exact (hs0 g hg).1 h
            · have := (hl0 g hg).2; omega, (hs0 g hg).2⟩
          have hpc5 : ¬ C5 p := fun h => by
            rcases hc5 p h with h | h
            · exact HPC.out h
            · omega
          have hT5 : (rowsF (bytesOf Lq ++ [q])).length = t' + 8 + n1 := by
            rw [rowsF_append, List.length_append, HTE.out, show rowsF [q] = wrapF q by simp [rowsF], wrapF_len, hqn]
            omega
          have HT5 := Lib.hid hT5
          have HS5 := Lib.hid hs5
          have HPC5 := Lib.hid hpc5
          clear hd5 hc5 hm5 hb5 hs0 hl0 hs5 hpc5 hF5 hqn hT5
          obtain ⟨i1, hj, hy0, hy1, hy2⟩ := info_parts info_sl
          have hz15 : w1.heap.size ≤ w5.heap.size := by omega
          go_wp2_with (at_builtin; (refine wpList_append_any _ rfl (.tmp 59) (.tmp 61) 26 rfl w1.heap.size 22 i1 (.slice none 0 0) 1 24 Tryd.underlying26 hj hy0 hy1 hy2 rfl (by decide) (.slice Av m cv) m (Lq.map slV) rfl (HO5.out.alloc _) _ (some ⟨w5.heap.size, 0, none⟩) 1 1 [.slice a1 n1 c1] rfl (reads_blk (heap_alloc_new _ _) rfl) (fun u hu => by obtain rfl := List.mem_singleton.1 hu; rfl) (by unfold maxLen; omega) (by omega) (by rw [World.size_alloc]; omega) ?_; intro v8 w8 hown8 hgr8 hor8; obtain ⟨A8', c8', rfl, hc8⟩ := owns_form hown8))
          have hba := (Below.refl w5.heap.size w5).alloc (Nat.le_refl _) (.cells #[.slice a1 n1 c1] 22 (0, 0))
          have hb58 := ((Below.refl w1.heap.size w5).alloc (by omega) (.cells #[.slice a1 n1 c1] 22 (0, 0))).grown hgr8 (by rw [World.size_alloc]; omega) (fun j hj => (HO5.out.lt j hj).1)
          have hd8 := (HD5.out.below hba).grown hgr8 (fun g hg => ⟨(HS5.out g hg).1, (HS5.out g hg).2.1⟩)
          have hp8 := (HP5.out.below hba).grown hgr8 (fun hg => (HS5.out p hg).2.2 rfl)
          have hlt5 := HD5.out.lt
          have hpl5 := lt_of_heap HP5.out
          have hs8 : ∀ g, (Value.slice A8' (m + 1) c8').ownBlock = some g → ¬ C5 g ∧ g ≠ pw ∧ g ≠ p := fun g hg => by
            rcases hor8 with h | h
            · rw [h] at hg
              exact HS5.out g hg
            · rw [h] at hg
              injection hg with hg
              rw [World.size_alloc] at hg
              exact ⟨fun h => by have := hlt5 g (.inl h); omega, fun h => by have := hlt5 pw (.inr rfl); omega, by omega⟩
          have HB8 := Lib.hid (HB5.out.trans (hb58.mono hz1))
          have HD8 := Lib.hid hd8
          have HP8 := Lib.hid hp8
          have HS8 := Lib.hid hs8
          have HO8 := Lib.hid hown8
          have hz8 := hb58.size
          clear hba hb58 hd8 hp8 hs8 hown8 hlt5 hgr8 hor8 HD5 HP5 HO5
          go_wp2_with (fail)
          refine (logSize w1.heap.size _ a pw _ p C5 (-1) _ r F5 [108, 111, 103] w8 HD8.out HP8.out (by decide)).mono ?_
          rintro e w9 ⟨rfl, hb9⟩
          rw [show ((lenF F5 [108, 111, 103] : Nat) : Int) = (t' : Int) + 8 + (n1 : Int) by rw [lenF_data, HH5.out.data, HT5.out]; push_cast; rfl]
          have HB9 := Lib.hid (HB8.out.trans (hb9.mono (by omega)))
          have HD9 := Lib.hid (HD8.out.below hb9)
          have HP9 := Lib.hid (HP8.out.below hb9)
          have HO9 := Lib.hid (owns_bel HO8.out hb9)
          clear hb9 HD8 HP8 HO8
          go_wp2_with (fail)
          refine ⟨⟨k + 1, Lq ++ [(a1, n1, c1, q)], A8', c8', C5, u' + 2, F5, t' + 8 + n1, by omega, by go_num, by rw [List.length_append, ← HM.out]; rfl, by push_cast; rfl, by rw [List.length_append, ← HM.out, List.length_singleton]; omega, by omega, Lib.hid (fun x hx => ?_), Lib.hid (by rw [List.length_append, ← HM.out, List.map_append]; exact HO9.out), Lib.hid (by have := HD9.out.more (nb' := 1 + 3 * (k + 1)) (by omega) (by omega); rw [show t' + (n1 + 8) = t' + 8 + n1 by omega] at this; exact this), Lib.hid (by rw [show bytesOf (Lq ++ [(a1, n1, c1, q)]) = bytesOf Lq ++ [q] by simp [bytesOf]]; exact HH5.out), HP9, Lib.hid (by rw [List.length_append, ← HM.out, List.length_singleton]; exact HS8.out), HPC5, HB9, Lib.hid (by rw [show bytesOf (Lq ++ [(a1, n1, c1, q)]) = bytesOf Lq ++ [q] by simp [bytesOf]]; exact HT5.out)⟩, by simp [intOf]; omega⟩
          rcases List.mem_append.1 hx with h | h
          · exact HLQ.out x h
          · obtain rfl := List.mem_singleton.1 h
            exact List.mem_of_getElem? HX.out
      · obtain rfl : k = n := by omega
        have hbl : ∀ x ∈ Lq, x.2.1 ≤ 40 := fun x hx => H40.out x (HLQ.out x hx)
        have hq40 : ∀ p ∈ bytesOf Lq, p.length ≤ 40 := fun p hp => by
          obtain ⟨x, hx, rfl⟩ := List.mem_map.1 hp
          have h1 := (HR.out.2 x (HLQ.out x hx)).1
          rw [bv_length] at h1
          have h2 := hbl x hx
          omega
        have HQ40 := Lib.hid hq40
        have HQL := Lib.hid hbl
        have hmb : (bytesOf Lq).length = m := by rw [HM.out]; simp [bytesOf]
        have HMB := Lib.hid hmb
        clear hbl hq40 hmb
        go_wp2_with (fail)
        refine (choice4 bits wo).mono ?_
        rintro e v1 ⟨rfl, hcell, hbv1, hz1'⟩
        have hdv1 := HDR.out.below hbv1
        have hnc : ¬ C' wo.heap.size := fun h => by have := HDR.out.lt _ (.inl h); omega
        have hA := asksChoice wo.heap.size bits C' F' v1 hcell hbits hnc
        have heg := hA.eg
        have HV1 := Lib.hid (HBR.out.trans (hbv1.mono (by omega)))
        have HO1 := Lib.hid (owns_bel HOW.out hbv1)
        clear hz1'
        go_wp2_with (fail)
        refine (dsCrash _ _ _ C' _ _ a pw _ _ _ _ _ (chB bits) _ v1 hdv1 hA (fun h => h) (chB_le bits)).mono ?_
        rintro e v2 ⟨rfl, ⟨t2, ht2, hdv2⟩, _, hmv2⟩
        have hk2 := hdv1.keeps (hmv2.mono fun _ _ h => .inl (h.resolve_right id))
        have hz2' := hmv2.size
        have HH2 := Lib.hid (HHR.out.crash (chB bits))
        have HO2 := Lib.hid (owns_modv HO1.out hmv2 (fun g hg h => (HSEP.out g hg).1 (h.resolve_right id)))
        have HV2 := Lib.hid (HV1.out.trans (hk2.mono (by omega)))
        have HDV2 := Lib.hid hdv2
        clear hA heg hdv1 hmv2 hdv2 hcell hnc hbv1 hk2 HDR HHR HOW HO1 HBR HV1
        go_wp2_with (fail)
        refine (logOpen_has _ _ a pw t2 C' (-1) u' r _ [108, 111, 103] m (bytesOf Lq) v2 HDV2.out (by omega) (by omega) (by decide) HH2.out (fun p hp => by have := HQ40.out p hp; omega) HMB.out).mono ?_
        rintro e v3 ⟨p3, A3, c3, L3, C3, u3, rfl, hd3, hc3, hm3, hp3', hp3n, hp3c, hr3, hL3, hb3, _⟩
        have hz3' := hm3.size
        have HO3 := owns_modv HO2.out hm3 (fun g hg h => h.elim (HSEP.out g hg).1 (HSEP.out g hg).2.1)
        have HV3 := Lib.hid (HV2.out.trans (hb3.mono (by omega)))
        have hrq : RowsAt v3 v3.heap.size Av m Lq := ⟨Reads.of_own HO3, fun x hx => ((HR.out.2 x (HLQ.out x hx)).below HV3.out).more HV3.out.size⟩
        have e1 := rows_le40 hr3 (by rw [hL3]; exact HQ40.out)
        have e2 := rows_le40 hrq HQ40.out
        have HR3 := Lib.hid hr3
        have HRQ := Lib.hid hrq
        have HE1 := Lib.hid e1
        have HE2 := Lib.hid e2
        have HE3 : Hid (decide (bytesOf L3 = bytesOf Lq) = true) := Lib.hid (decide_eq_true hL3)
        have HD3' := Lib.hid hd3
        have HP3' := Lib.hid hp3'
        have hpp3 : p3 ≠ pw := fun h => by have := HDV2.out.lt pw (.inr rfl); omega
        clear hp3' hd3 hc3 hm3 hr3 hL3 hb3 HO3 hrq e1 e2
        go_wp2_with (fail)
        refine (eqRows true A3 Av m c3 m cv _ _ L3 Lq v3 HR3.out HRQ.out HE1.out HE2.out HE3.out (by omega)).mono ?_
        rintro e v4 ⟨rfl, q4, rfl⟩
        have hq4 := bdrewN (Below.refl v3.heap.size v3) q4
        have hz34 := hq4.size
        have HD4' := Lib.hid (HD3'.out.below hq4)
        have HP4' := Lib.hid (HP3'.out.below hq4)
        have HV4 := Lib.hid (HV3.out.trans (hq4.mono (by have := HV3.out.size; omega)))
        have hzz : w1.heap.size ≤ (v3.drewN q4).heap.size := HD4'.out.size
        clear hq4 HD3' HP3'
        generalize v3.drewN q4 = v4 at *
        go_wp2_with (fail)
        refine (logSize w1.heap.size _ a pw _ p3 C3 (-1) _ r _ [108, 111, 103] v4 HD4'.out HP4'.out (by decide)).mono ?_
        rintro e v5 ⟨rfl, hb5⟩
        rw [show ((lenF (crashF F' (chB bits)) [108, 111, 103] : Nat) : Int) = (t' : Int) by rw [lenF_data, HH2.out.data, HTE.out]]
        have hz5 := hb5.size
        have HV5 := Lib.hid (HV4.out.trans (hb5.mono (by have := HV4.out.size; omega)))
        have HD5 := Lib.hid (HD4'.out.below hb5)
        have HP5 := Lib.hid (HP4'.out.below hb5)
        clear hb5 HD4' HP4'
        go_wp2_with (fail)
        refine (logClear_has w1.heap.size (1 + 3 * k + 1) a pw t2 p3 C3 (-1) u3 r _ [108, 111, 103] v5 HD5.out HP5.out hp3c hpp3 (by omega) (by omega) (by decide)).mono ?_
        rintro e v6 ⟨rfl, C6, u6', F6, t6, hd6, hh6, _, ht6, hc6, hm6, hb6⟩
        have hz6 := hb6.size
        have HP6 := Lib.hid (HP5.out.mod hm6 (fun h => h.elim hp3c hpp3))
        have HD6 := Lib.hid hd6
        have HH6 := Lib.hid hh6
        have HV6 := Lib.hid (HV5.out.trans (hb6.mono (by omega)))
        clear hd6 hh6 hc6 hm6 hb6 HD5 HP5
        go_wp2_with (fail)
        refine (logSize w1.heap.size _ a pw _ p3 C6 (-1) _ r _ [108, 111, 103] v6 HD6.out HP6.out (by decide)).mono ?_
        rintro e v7 ⟨rfl, hb7⟩
        rw [show ((lenF F6 [108, 111, 103] : Nat) : Int) = 0 by rw [lenF_data, HH6.out.data]; rfl]
        have hz7 : w1.heap.size ≤ v7.heap.size := (HD6.out.below hb7).size
        have HV7 := Lib.hid (HV6.out.trans (hb7.mono (HV6.out.size)))
        have HD7 := Lib.hid (HD6.out.below hb7)
        clear hb7 HD6 HP6
        go_wp2_with (fail)
        refine (choice4 bits v7).mono ?_
        rintro e v8 ⟨rfl, hcell, hbv8, hz8'⟩
        have hdv8 := HD7.out.below hbv8
        have hnc : ¬ C6 v7.heap.size := fun h => by have := HD7.out.lt _ (.inl h); omega
        have hA := asksChoice v7.heap.size bits C6 F6 v8 hcell hbits hnc
        have heg := hA.eg
        have HV8 := Lib.hid (HV7.out.trans (hbv8.mono (HV7.out.size)))
        have hz8 : w1.heap.size ≤ v8.heap.size := hdv8.size
        clear hz8'
        go_wp2_with (fail)
        refine (dsCrash _ _ _ C6 _ _ a pw _ _ _ _ _ (chB bits) _ v8 hdv8 hA (fun h => h) (chB_le bits)).mono ?_
        rintro e v9 ⟨rfl, ⟨t9, ht9, hdv9⟩, _, hmv9⟩
        have hk9 := hdv8.keeps (hmv9.mono fun _ _ h => .inl (h.resolve_right id))
        have HH9 := Lib.hid (HH6.out.crash (chB bits))
        have HV9 := Lib.hid (HV8.out.trans (hk9.mono (by omega)))
        have HDV9 := Lib.hid hdv9
        clear hA heg hdv8 hmv9 hdv9 hcell hnc hbv8 hk9 HD7 HH6 HV8
        go_wp2_with (fail)
        refine (logOpen_has _ _ a pw t9 C6 (-1) _ r _ [108, 111, 103] 0 [] v9 HDV9.out (by omega) (by omega) (by decide) HH9.out (fun p hp => by cases hp) rfl).mono ?_
        rintro e v10 ⟨p10, A10, c10, L10, C10, u10, rfl, _, _, _, _, _, _, _, _, hb10, _⟩
        have HV10 := Lib.hid (HV9.out.trans (hb10.mono (by omega)))
        clear hb10
        go_wp2_with (fail)
        go_ret
        exact ⟨rfl, HV10.out⟩
  · refine (light7 false A n c _ L w1 (HR.out.below HB1.out) hnb (decide_eq_false hlight)).mono ?_
    rintro e w1' ⟨rfl, hw1'⟩
    rw [hw1']
    clear hw1' w1'
    clear hlight
    go_wp2_with (fail)
    go_ret
    exact ⟨rfl, HB1.out⟩
end Go.Proofs.YtocgfcboigiigaaDoor
