/- selionlaw07.WalAgain answers true, whatever the pieces, the bytes behind them. Condition: the package's variable 'none' holds what its text lays. -/
import Derived.Test.YtocgfcboigiigaaDoorWalF
namespace Go.Proofs.YtocgfcboigiigaaDoor
open Go Go.Proofs Go.RowKit

set_option maxHeartbeats 8000000 in
set_option maxRecDepth 100000 in
theorem again7 (A : Option Addr) (n c : Nat) (A' : Option Addr) (n' c' times : Nat) (L : BL) (more : List UInt8) (w : World) (hn : NoneLaid w) (hr : RowsAt w w.heap.size A n L) (hnb : n ≤ 9223372036854775807) (ht8 : times < 256) (hr' : Reads w w.heap.size 1 A' n' (bv more)) :
    Calls Tryd.prog 10 #[.slice A n c, .slice A' n' c', .int .u8 times] w fun e w' => e = .returned (.bool true) ∧ Below w.heap.size w w' := by
  have hl := hr.len
  have HR := Lib.hid hr
  have HL := Lib.hid hl
  have HR' := Lib.hid hr'
  have HNM := Lib.hid (show more.length = n' by have := hr'.1; rw [bv_length] at this; omega)
  clear hr hl hr'
  obtain ⟨ti, hti⟩ : ∃ ti, ti = times % 4 := ⟨_, rfl⟩
  have ht4 : ti < 4 := by omega
  have hr1 : (times : Int) % 4 = (ti : Int) := by omega
  have hr0 : (times : Int).tmod 4 = (ti : Int) := by rw [Int.tmod_eq_emod_of_nonneg (by omega)]; exact hr1
  have hr5 : IntKind.u8.wrap (ti : Int) = (ti : Int) := IntWalk.u8_in _ (by omega)
  clear hti
  go_enter Tryd.func10, Tryd.ntmps10
  go_wp2_with (fail)
  refine (awake7_any w hn).mono ?_
  rintro e w1 ⟨rfl, hb1⟩
  clear hn
  have hz1 := hb1.size
  have HB1 := Lib.hid hb1
  clear hb1
  go_wp2_with (fail)
  by_cases hlight : (∀ x ∈ L, x.2.1 ≤ 40) ∧ n ≤ 12
  · refine (light7 true A n c _ L w1 (HR.out.below HB1.out) hnb (decide_eq_true hlight)).mono ?_
    rintro e w1' ⟨rfl, hw1'⟩
    rw [hw1']
    clear hw1' w1'
    obtain ⟨h40, hs1⟩ := hlight
    have H40 := Lib.hid h40
    clear h40
    by_cases hs2 : n' ≤ 40
    · have g3 : decide ((40 : Int) < (n' : Int)) = false := decide_eq_false (by omega)
      go_wp2_with (fail)
      refine (dsNew 3000 w1 (by omega) (by omega)).mono ?_
      rintro e w2 ⟨C, a, pw, rfl, hd, hb2⟩
      have hz2 := hb2.size
      have hlt := hd.lt
      have HD := Lib.hid hd
      have HB2 := Lib.hid (HB1.out.trans (hb2.mono hz1))
      clear hd hb2
      go_wp2_with (fail)
      refine (logOpen_new w1.heap.size 0 a pw 0 C (-1) 0 3000 (fun _ => none) [108, 111, 103] w2 HD.out (by decide) rfl).mono ?_
      rintro e w3 ⟨rfl, hp3, hb3⟩
      have hz3 := hb3.size
      have hpc : ¬ C w2.heap.size := fun h => Nat.lt_irrefl _ (hlt _ (.inl h))
      have hpp : w2.heap.size ≠ pw := fun h => by have := hlt pw (.inr rfl); omega
      have HD3 := Lib.hid (HD.out.below hb3)
      have HP3 := Lib.hid hp3
      have HB3 := Lib.hid (HB2.out.trans (hb3.mono (by omega)))
      obtain ⟨p, hpe⟩ : ∃ p, p = w2.heap.size := ⟨_, rfl⟩
      have hpw : w2.heap.size ≤ p := by omega
      rw [← hpe] at HP3 hpc hpp ⊢
      clear hp3 hb3 hpe
      go_wp2_with (fail)
      go_loopw [47] (fun i wr => ∃ (k : Nat) (C' : Nat → Prop) (u' : Int) (F' : Files) (t' : Nat), k ≤ n ∧ i = .int .i64 k ∧ t' ≤ 48 * k ∧ Hid (DS w1.heap.size wr C' (3 * k) a pw (-1) u' 3000 F' t') ∧ Hid (LogHas F' [108, 111, 103] (bytesOf (L.take k))) ∧ Hid (LogAt wr p a [108, 111, 103]) ∧ Hid (¬ C' p) ∧ Hid (Below w.heap.size w wr)) (fun i _ => n - (intOf i).toNat)
      case atStart => exact ⟨0, C, 0, _, 0, Nat.zero_le _, rfl, by omega, HD3, Lib.hid (.nil rfl), HP3, Lib.hid hpc, HB3⟩
      case round =>
        obtain ⟨k, C', u', F', t', hk, rfl, htk, HDR, HHR, HPR, HPC, HBR⟩ := hrel
        have hzr : w1.heap.size ≤ wr.heap.size := HDR.out.size
        obtain ⟨wo, rfl⟩ : ∃ wo : World, wo = wr := ⟨_, rfl⟩
        by_cases hlt : k < n
        · obtain ⟨x, hx⟩ : ∃ x, L[k]? = some x := ⟨L[k]'(by rw [HL.out]; exact hlt), List.getElem?_eq_getElem _⟩
          obtain ⟨ad, rfl, had, hc⟩ := HR.out.1.2 (by omega)
          have d0 : wo.cell? (ad.add k) = some (.slice x.1 x.2.1 x.2.2.1) := cellk HBR.out (by rw [block_of_add]; exact had) (hc k (slV x) (by rw [List.getElem?_map, hx]; rfl))
          have h40 := H40.out x (List.mem_of_getElem? hx)
          have R0 := Lib.hid ((HR.out.2 x (List.mem_of_getElem? hx)))
          have HX := Lib.hid hx
          obtain ⟨a1, n1, c1, q⟩ := x
          simp only at d0 R0 h40
          have hin0 : (0 : Int) ≤ (k : Int) := by omega
          have hin1 : (k : Int) < (n : Int) := by omega
          clear hx hc
          go_wp2_with (fail)
          refine (logAppend w1.heap.size (3 * k) a pw t' p w.heap.size C' (-1) u' 3000 F' [108, 111, 103] q a1 n1 c1 wo HDR.out HPR.out HPC.out hpp (by omega) (by omega) (by decide) (R0.out.below HBR.out) (HBR.out.size) (by omega) (by omega)).mono ?_
          rintro e w5 ⟨rfl, C5, hd5, hc5, hm5, hb5⟩
          have hz5 := hm5.size
          have hpl := lt_of_heap HPR.out
          have HP5 := Lib.hid (HPR.out.mod hm5 (fun h => h.elim HPC.out hpp))
          have HH5 := HHR.out.app q
          have hpc5 : ¬ C5 p := fun h => by
            rcases hc5 p h with h | h
            · exact HPC.out h
            · omega
          have hbt : bytesOf (L.take (k + 1)) = bytesOf (L.take k) ++ [q] := by
            rw [List.take_add_one, HX.out]
            simp [bytesOf]
          have HB5 := Lib.hid (HBR.out.trans (hb5.mono (by omega)))
          have HD5 := Lib.hid (hd5.more (nb' := 3 * (k + 1)) (by omega) (by omega))
          have HH5 := Lib.hid HH5
          clear hd5 hc5 hm5 hb5
          go_wp2_with (fail)
          exact ⟨⟨k + 1, C5, u' + 2, _, _, by omega, by go_num, by omega, HD5, by rw [hbt]; exact HH5, HP5, Lib.hid hpc5, HB5⟩, by simp [intOf]; omega⟩
        · obtain rfl : k = n := by omega
          have htk' : L.take k = L := List.take_of_length_le (by rw [HL.out]; exact Nat.le_refl _)
          have hh := HHR.out
          rw [htk'] at hh
          have hps40 := rows_small40 HR.out H40.out
          obtain ⟨ps, hps⟩ : ∃ ps, ps = bytesOf L := ⟨_, rfl⟩
          have hpn : ps.length = k := by rw [hps]; simp [bytesOf, HL.out]
          rw [← hps] at hh hps40
          have HPN := Lib.hid hpn
          have HPS40 := Lib.hid hps40
          have HH := Lib.hid hh
          clear hps hh hps40 hpn htk'
          go_wp2_with (fail)
          refine (dsAppend w1.heap.size w.heap.size C' (3 * k) a pw t' (-1) u' 3000 F' [108, 111, 103] more A' n' c' wo HDR.out (by omega) (.inl (by omega)) (by decide) (by omega) (HR'.out.below HBR.out) HBR.out.size (fun g hg hn => by
            obtain ⟨ad, h1, h2, _⟩ := HR'.out.2 hn
            rw [h1] at hg
            have hg' : ad.block = g := by simpa using hg
            refine ⟨fun h => ?_, fun h => ?_⟩
            · have := HDR.out.base g h; omega
            · have := HDR.out.pbase; omega)).mono ?_
          rintro e w5 ⟨rfl, C5, hd5, hc5, hm5, hb5⟩
          have hz5 : w1.heap.size ≤ w5.heap.size := hd5.size
          have HD5 := Lib.hid hd5
          have HB5 := Lib.hid (HBR.out.trans (hb5.mono hz1))
          clear hd5 hc5 hm5 hb5 HDR HHR HPR HPC
          obtain ⟨bs, hbs⟩ : ∃ bs, bs = rowsF ps ++ more := ⟨_, rfl⟩
          have hd5 := HD5.out
          rw [HH.out.data, ← hbs] at hd5
          obtain ⟨kp, hkp⟩ : ∃ kp, kp = keptF F' [108, 111, 103] := ⟨_, rfl⟩
          obtain ⟨F5, hF5⟩ : ∃ F5, F5 = putF F' [108, 111, 103] (bs, kp) := ⟨_, rfl⟩
          rw [← hkp, ← hF5] at hd5
          have hf5 : F5 [108, 111, 103] = some (bs, kp) := by rw [hF5, putF_same]
          obtain ⟨qs, hqs⟩ : ∃ qs, qs = (splitF bs).1 := ⟨_, rfl⟩
          have hbl : bs.length ≤ 48 * k + 40 := by
            have h1 := hd5.tot.one [108, 111, 103]
            have h2 : lenF F5 [108, 111, 103] = bs.length := by simp [lenF, hf5]
            omega
          obtain ⟨hq1, hq2⟩ := splitF_small40 bs.length bs (Nat.le_refl _)
          rw [← hqs] at hq1 hq2
          have hqp : qs = ps ++ (splitF more).1 := by rw [hqs, hbs, splitF_rows ps more (fun p hp => Nat.lt_of_le_of_lt (HPS40.out p hp) (by decide))]
          have hql : k ≤ qs.length := by rw [hqp, List.length_append, HPN.out]; omega
          have hof : openF F5 [108, 111, 103] [108, 111, 103] = some (rowsF qs, (rowsF qs).length) := by
            have hst := splitF_take bs.length bs (Nat.le_refl _)
            rw [← hqs] at hst
            have hle := splitF_le bs.length bs (Nat.le_refl _)
            have hgl : (splitF bs).2 = (rowsF qs).length := by rw [← hst, List.length_take]; omega
            rw [hgl] at hst
            simp only [openF, hf5, putF_same, hgl, hst]
          have hda : dataF F5 [108, 111, 103] = bs := by simp [dataF, hf5]
          obtain ⟨m, hm⟩ : ∃ m, m = qs.length := ⟨_, rfl⟩
          have HM := Lib.hid hm
          have HD5 := Lib.hid hd5
          have HF5 := Lib.hid hf5
          have HOF := Lib.hid hof
          have HDA := Lib.hid hda
          have HQ1 := Lib.hid hq1
          have HQS := Lib.hid hqs
          rw [← hm] at hql hq2
          clear hd5 hkp hF5 hf5 hqs hq1 hqp hof hda hbs hm
          go_wp2_with (fail)
          refine (logOpen_some w1.heap.size (3 * k + 1) a pw _ kp C5 (-1) (u' + 1) 3000 F5 [108, 111, 103] bs w5 HD5.out (by omega) (by omega) (by decide) HF5.out).mono ?_
          rintro e w6 ⟨p6, v6, C6, u6', t6, rfl, hd6, hc6, hm6, hp6, hpn6, hpc6, hps6⟩
          rw [HDA.out, ← HQS.out] at hps6
          obtain ⟨A6, c6, L6, rfl, hr6, hL6⟩ := hps6.rows
          have hz6 := hm6.size
          have HB6 := Lib.hid (HB5.out.trans ((HD5.out.keeps hm6).mono (by omega)))
          rw [← HM.out] at hr6
          have HD6 := Lib.hid hd6
          have HR6 := Lib.hid hr6
          have HL6 := Lib.hid hL6
          have HV6 := Lib.hid (show (Value.slice A6 qs.length c6) = .slice A6 m c6 by rw [HM.out])
          rw [HV6.out]
          clear hd6 hc6 hm6 hp6 hpc6 hps6 hr6 hL6 HD5
          go_wp2_with (fail)
          obtain ⟨rl, hrl⟩ : ∃ rl, rl = (rowsF qs).length := ⟨_, rfl⟩
          have HRL := Lib.hid hrl
          have hrl1 : rl ≤ 3000 := by
            have h1 := HD6.out.tot.one [108, 111, 103]
            have h2 : lenF (openF F5 [108, 111, 103]) [108, 111, 103] = rl := by simp [lenF, HOF.out, hrl]
            have := HD6.out.t1
            omega
          clear hrl
          refine (dsRead w1.heap.size C6 _ a pw _ (-1) u6' 3000 _ [108, 111, 103] (rowsF qs) (rowsF qs).length w6 HD6.out (by decide) HOF.out).mono ?_
          rintro e w7 ⟨v7, A7, c7, rfl, rfl, hrow7, _, hb7⟩
          rw [← HRL.out] at hrow7 ⊢
          have hz7 := hb7.size
          have HD7 := Lib.hid (HD6.out.below hb7)
          have HR7 := Lib.hid ((HR6.out.below hb7).more hz7)
          have HW7 := Lib.hid hrow7.reads
          have HB7 := Lib.hid (HB6.out.trans (hb7.mono (by omega)))
          clear hrow7 hb7 HD6 HR6
          go_wp2_with (fail)
          obtain ⟨F7, hF7⟩ : ∃ F7, F7 = openF F5 [108, 111, 103] := ⟨_, rfl⟩
          rw [← hF7] at HD7 HOF
          obtain ⟨nb7, hnb7⟩ : ∃ nb7, nb7 = 3 * k + 1 + 1 := ⟨_, rfl⟩
          rw [← hnb7] at HD7
          have hz17 : w1.heap.size ≤ w7.heap.size := HD7.out.size
          clear hF7 hnb7
          go_loopw [73] (fun i wr => ∃ j : Nat, j ≤ 1 + ti ∧ i = .int .i64 j ∧ Hid (Below w7.heap.size w7 wr)) (fun i _ => 1 + ti - (intOf i).toNat)
          case atStart => exact ⟨0, Nat.zero_le _, rfl, Lib.hid (Below.refl _ _)⟩
          case round =>
            obtain ⟨j, hj, rfl, HBI⟩ := hrel
            obtain ⟨wo2, rfl⟩ : ∃ wo2 : World, wo2 = wr := ⟨_, rfl⟩
            have hzi := HBI.out.size
            by_cases hjt : j < 1 + ti
            · have gj : decide ((j : Int) < 1 + (ti : Int)) = true := decide_eq_true (by omega)
              go_wp2_with (fail)
              refine (logOpen_full w1.heap.size _ a pw _ C6 (-1) _ 3000 F7 [108, 111, 103] m qs wo2 (HD7.out.below HBI.out) (by decide) HOF.out (fun p hp => by have := HQ1.out p hp; omega) HM.out.symm).mono ?_
              rintro e w8 ⟨p8, A8, c8, L8, rfl, _, _, hr8, hL8, hb8, _⟩
              have hz8 := hb8.size
              have HB8 := Lib.hid (HBI.out.trans (hb8.mono hzi))
              have HR8 := Lib.hid hr8
              have HL8 := Lib.hid hL8
              clear hr8 hL8 hb8
              go_wp2_with (fail)
              refine (dsRead w1.heap.size C6 _ a pw _ (-1) u6' 3000 F7 [108, 111, 103] (rowsF qs) (rowsF qs).length w8 (HD7.out.below HB8.out) (by decide) HOF.out).mono ?_
              rintro e w9 ⟨v9, A9, c9, rfl, rfl, hrow9, _, hb9⟩
              rw [← HRL.out] at hrow9 ⊢
              have hz9 := hb9.size
              have HB9 := Lib.hid (HB8.out.trans (hb9.mono (by omega)))
              have HR9 := Lib.hid (HR8.out.below hb9)
              have HW9 := Lib.hid hrow9.reads
              clear hrow9 hb9 HR8
              go_wp2_with (fail)
              have r7 := HR7.out.below HB9.out
              have e1 := rows_leN HR9.out (k := bs.length) (by rw [HL8.out]; exact HQ1.out)
              have e2 := rows_leN r7 (k := bs.length) (by rw [HL6.out]; exact HQ1.out)
              refine (eqRows true A8 A6 m c8 m c6 _ _ L8 L6 w9 HR9.out r7 (fun x hx => by have := e1 x hx; omega) (fun x hx => by have := e2 x hx; omega) (decide_eq_true (by rw [HL8.out, HL6.out])) (by omega)).mono ?_
              clear r7 e1 e2
              rintro e w10 ⟨rfl, q10, rfl⟩
              go_wp2_with (fail)
              refine (equalBq true A9 A7 rl c9 rl c7 _ _ (rowsF qs) (rowsF qs) _ (show Reads (w9.drewN q10) _ 1 A9 rl _ from HW9.out) (show Reads (w9.drewN q10) _ 1 A7 rl _ from HW7.out.below (bdrewN HB9.out q10)) (by omega) (by omega) (decide_eq_true rfl)).mono ?_
              rintro e w11 ⟨rfl, q11, rfl⟩
              go_wp2_with (fail)
              refine (dsKept w1.heap.size C6 _ a pw _ (-1) u6' 3000 F7 [108, 111, 103] _ ((HD7.out.below HB9.out).below (bdrewN (Below.refl _ _) (q10 + q11))) (by decide)).mono ?_
              rintro e w12 ⟨rfl, rfl⟩
              rw [show ((keptF F7 [108, 111, 103] : Nat) : Int) = (rl : Int) by simp [keptF, HOF.out, HRL.out]]
              go_wp2_with (fail)
              exact ⟨⟨j + 1, by omega, by go_num, Lib.hid (bdrewN HB9.out (q10 + q11))⟩, by simp [intOf]; omega⟩
            · have gj : decide ((j : Int) < 1 + (ti : Int)) = false := decide_eq_false (by omega)
              have gm : decide ((k : Int) ≤ (m : Int)) = true := decide_eq_true (by omega)
              go_wp2_with (fail)
              go_ret
              exact ⟨rfl, HB7.out.trans (HBI.out.mono (by have := HB7.out.size; omega))⟩
    · have g3 : decide ((40 : Int) < (n' : Int)) = true := decide_eq_true (by omega)
      go_wp2_with (fail)
      go_ret
      exact ⟨rfl, HB1.out⟩
  · refine (light7 false A n c _ L w1 (HR.out.below HB1.out) hnb (decide_eq_false hlight)).mono ?_
    rintro e w1' ⟨rfl, hw1'⟩
    rw [hw1']
    clear hw1' w1'
    clear hlight
    go_wp2_with (fail)
    go_ret
    exact ⟨rfl, HB1.out⟩
end Go.Proofs.YtocgfcboigiigaaDoor
