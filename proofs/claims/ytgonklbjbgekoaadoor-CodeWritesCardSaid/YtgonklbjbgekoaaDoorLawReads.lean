/- selionlaw05.CodeReads answers true, whatever the bytes, the turns. Condition: the package's variable 'none' holds what its text lays. -/
import Derived.Test.YtgonklbjbgekoaaDoorCode5
namespace Go.Proofs.YtgonklbjbgekoaaDoor
open Go Go.Proofs Go.RowKit

/-- A new reader. -/
theorem rdNew {w : World} {A : Option Addr} {c base : Nat} {bs : List UInt8} (h : w.ownsRow base 5 1 (.slice A bs.length c) bs.length (bv bs)) : RdAt (w.alloc (.cells #[.slice A bs.length c, .bool false] 68 (0, 0))) w.heap.size bs false := by
  obtain ⟨A', c', e, hc⟩ := owns_form h
  have hr := Reads.of_own h
  refine ⟨A, c, heap_alloc_new w _, (hr.alloc (Nat.le_refl _) _).more (by simp), ?_, fun g hg => ?_⟩
  · injection e with _ _ e; omega
  · rcases h.2 with ⟨e, _⟩ | ⟨g', cap, cur, e, hb, hh, _⟩
    · injection e with e
      subst e
      cases hg
    · injection e with e
      subst e
      simp only [Option.map_some, Option.some.injEq] at hg
      subst hg
      have := lt_of_heap hh
      omega
theorem RdAt.lt {w : World} {p : Nat} {bs : List UInt8} {bad : Bool} (h : RdAt w p bs bad) : p < w.heap.size := by
  obtain ⟨A, c, h1, _⟩ := h
  exact lt_of_heap h1
theorem RdAt.below {w w' : World} {p : Nat} {bs : List UInt8} {bad : Bool} (h : RdAt w p bs bad) (hb : Below w.heap.size w w') : RdAt w' p bs bad := by
  obtain ⟨A, c, h1, h2, h3, h4⟩ := h
  exact ⟨A, c, (hb.block _ (lt_of_heap h1)).trans h1, (h2.below hb).more hb.size, h3, h4⟩
theorem RdAt.drewN {w : World} {p : Nat} {bs : List UInt8} {bad : Bool} (h : RdAt w p bs bad) (q : Nat) : RdAt (w.drewN q) p bs bad := h
theorem below_modP {w w1 w2 : World} {p : Nat} (hb : Below w.heap.size w w1) (hm : Mod (· = p) w1 w2) (hp : w.heap.size ≤ p) : Below w.heap.size w w2 := hb.trans (hm.below hb.size (fun k hk h => by omega))
theorem txt_str (s : Txt) : txt s = .string ⟨s.toArray⟩ := rfl
theorem readNum_len {bs : List UInt8} {m : Nat} {r : List UInt8} (h : readNum bs = some (m, r)) : 1 ≤ (numB m).length ∧ (numB m).length ≤ 10 ∧ bs.length = (numB m).length + r.length := by
  obtain ⟨h1, h2⟩ := readNum_some h
  refine ⟨?_, numB_len10 h2, by rw [h1, List.length_append]⟩
  by_cases h : m < 128
  · rw [numB_small h]; exact Nat.le_refl _
  · rw [numB_big h]; simp
theorem numR_bad {w w' : World} {p : Nat} {bs : List UInt8} {e : Ending} (h : RetNumR w p bs true e w') : e = .returned (.int .u64 0) ∧ RdAt w' p bs true ∧ Mod (· = p) w w' := by
  unfold RetNumR at h
  exact h
theorem textR_bad {w w' : World} {p most : Nat} {bs : List UInt8} {e : Ending} (h : RetTextR w p bs true most e w') : e = .returned (.string ⟨#[]⟩) ∧ Mod (· = p) w w' := by
  unfold RetTextR at h
  exact ⟨h.1, h.2.2⟩
theorem textR_none {w w' : World} {p most : Nat} {bs : List UInt8} {e : Ending} (hn : readText bs most = none) (h : RetTextR w p bs false most e w') : e = .returned (.string ⟨#[]⟩) ∧ (∃ bs', bs'.length ≤ bs.length ∧ RdAt w' p bs' true) ∧ Mod (· = p) w w' := by
  unfold RetTextR at h
  rw [hn] at h
  exact h
set_option maxHeartbeats 8000000 in
set_option maxRecDepth 100000 in
theorem reads5 (A : Option Addr) (n c most : Nat) (bs : List UInt8) (A2 : Option Addr) (n2 c2 : Nat) (ls : List Bool) (w : World) (hn : NoneLaid w) (hr : Reads w w.heap.size 1 A n (bv bs)) (hnc : n ≤ c) (hm : most < 256) (hl : ls.length = n2) (hA : ls = [] ∨ ∃ g0 : Addr, A2 = some g0 ∧ g0.block < w.heap.size ∧ ∀ j x, ls[j]? = some x → w.cell? (g0.add j) = some (.bool x)) :
    Calls Tryd.prog 9 #[.slice A n c, .int .u8 most, .slice A2 n2 c2] w fun e w' => e = .returned (.bool true) ∧ Below w.heap.size w w' := by
  have hbl : bs.length = n := by have := hr.1; rw [bv_length] at this; omega
  subst hbl
  have HR := Lib.hid hr
  have HL := Lib.hid hl
  have HA := Lib.hid hA
  clear hr hl hA
  by_cases hbig : bs.length ≤ 200 ∧ n2 ≤ 40
  · obtain ⟨hs1, hs2⟩ := hbig
    have g1 : decide ((200 : Int) < (bs.length : Int)) = false := decide_eq_false (by omega)
    have g2 : decide ((40 : Int) < (n2 : Int)) = false := decide_eq_false (by omega)
    go_enter Tryd.func9, Tryd.ntmps9
    go_wp2_with (fail)
    refine (awake5_any w hn).mono ?_
    rintro e w1 ⟨rfl, hb1⟩
    clear hn
    have hz1 := hb1.size
    go_wp2_with (fail)
    refine (cloneB A bs.length c _ (bv bs) w1 ((HR.out.below hb1).more hz1) (Nat.le_refl _) (bv_one bs) (by omega)).mono ?_
    rintro e w2 ⟨v2, rfl, hown2, hb2⟩
    obtain ⟨A3, c3, rfl, hc3⟩ := owns_form hown2
    have hz2 := hb2.size
    have HO := Lib.hid hown2
    have HB2 := Lib.hid (hb1.trans (hb2.mono hz1))
    clear hown2 hb2 hb1
    go_wp2_with (fail)
    have HRD0 := Lib.hid (rdNew HO.out)
    have HB3 := Lib.hid (HB2.out.alloc (by omega) (.cells #[.slice A3 bs.length c3, .bool false] 68 (0, 0)))
    obtain ⟨P, hP⟩ : ∃ P, P = w2.heap.size := ⟨_, rfl⟩
    rw [← hP] at HRD0 ⊢
    have hPw : w.heap.size ≤ P := by omega
    generalize w2.alloc (.cells #[.slice A3 bs.length c3, .bool false] 68 (0, 0)) = w3 at *
    clear HO HB2 hP g1 g2 hc3 hz2 hz1
    go_loopw [8, 9, 34] (fun v b k wr => ∃ (j : Nat) (Ar : Option Addr) (cr : Nat) (rs : List UInt8) (nr : Nat), j ≤ n2 ∧ k = .int .i64 j ∧ v = .slice Ar nr cr ∧ b = .bool false ∧ nr ≤ cr ∧ nr ≤ 200 ∧ Hid (Reads w w.heap.size 1 Ar nr (bv rs)) ∧ Hid (RdAt wr P rs false) ∧ Hid (Below w.heap.size w wr)) (fun _ _ k _ => n2 - (intOf k).toNat)
    case atStart => exact ⟨0, A, c, bs, bs.length, Nat.zero_le _, rfl, rfl, rfl, hnc, hs1, HR, HRD0, HB3⟩
    case round =>
      obtain ⟨j, Ar, cr, rs, nr, hj, rfl, rfl, rfl, hrc, hr2, HRs, HRD, HB⟩ := hrel
      have hnr : rs.length = nr := by have := HRs.out.1; rw [bv_length] at this; omega
      have HNR := Lib.hid hnr
      clear hnr
      clear HRD0 HB3 HR
      by_cases hjt : j < n2
      · obtain ⟨x, hx⟩ : ∃ x, ls[j]? = some x := ⟨ls[j]'(by rw [HL.out]; exact hjt), List.getElem?_eq_getElem _⟩
        obtain ⟨g0, rfl, hgb, hgc⟩ : ∃ g0 : Addr, A2 = some g0 ∧ g0.block < w.heap.size ∧ ∀ j x, ls[j]? = some x → w.cell? (g0.add j) = some (.bool x) := HA.out.resolve_left (fun e => by rw [e] at hx; simp at hx)
        have hgc := hgc j x hx
        have d0 : wr.cell? (g0.add j) = some (.bool x) := cellk HB.out (by rw [block_of_add]; exact hgb) hgc
        have hin0 : (0 : Int) ≤ (j : Int) := by omega
        have hin1 : (j : Int) < (n2 : Int) := by omega
        have hT := take5 Ar nr cr w.heap.size rs wr (HRs.out.below HB.out) HB.out.size (by omega) hrc
        clear hx hgc
        cases hrn : readNum rs with
        | none =>
          have e : takeN rs = (0, 0) := by unfold takeN; rw [hrn]
          rw [e] at hT
          have HT := Lib.hid hT
          have HN := Lib.hid hrn
          clear hT hrn e
          cases x with
          | false =>
            go_wp2_with (fail)
            refine HT.out.mono ?_
            rintro e w4 ⟨rfl, hb4⟩
            have HRD4 := Lib.hid (HRD.out.below hb4)
            have HB4 := Lib.hid (HB.out.trans (hb4.mono HB.out.size))
            clear hb4
            go_wp2_with (fail)
            refine (numR P rs false w4 HRD4.out (by rw [HNR.out]; omega)).mono ?_
            intro e w5 h5
            unfold RetNumR at h5
            rw [HN.out] at h5
            obtain ⟨rfl, hR5, hm5⟩ := h5
            obtain ⟨A5, c5, k1, k2, k3, k4⟩ := id hR5
            have d1 : w5.cell? ⟨P, 1, none⟩ = some (.bool true) := by rw [cell_of_blk k1]; rfl
            have HR5 := Lib.hid hR5
            have HB5 := Lib.hid (below_modP HB4.out hm5 hPw)
            clear k1 k2 k3 k4 hR5 hm5
            go_wp2_with (fail)
            refine (endR P rs true false w5 HR5.out rfl).mono ?_
            rintro e w6 ⟨rfl, rfl⟩
            go_wp2_with (fail)
            refine (numR P rs true w6 HR5.out (by rw [HNR.out]; omega)).mono ?_
            intro e w7 h7
            obtain ⟨rfl, hR7, hm7⟩ := numR_bad h7
            have HB7 := Lib.hid (below_modP HB5.out hm7 hPw)
            have HR7 := Lib.hid hR7
            clear hR7 hm7 h7
            go_wp2_with (fail)
            refine (textR P 9 rs true w7 HR7.out (by rw [HNR.out]; omega) (by omega)).mono ?_
            intro e w8 h8
            obtain ⟨rfl, hm8⟩ := textR_bad h8
            have HB8 := Lib.hid (below_modP HB7.out hm8 hPw)
            clear hm8 h8
            go_wp2_with (fail)
            go_ret
            exact ⟨rfl, HB8.out⟩
          | true =>
            go_wp2_with (fail)
            refine HT.out.mono ?_
            rintro e w4 ⟨rfl, hb4⟩
            have HRD4 := Lib.hid (HRD.out.below hb4)
            have HB4 := Lib.hid (HB.out.trans (hb4.mono HB.out.size))
            clear hb4
            go_wp2_with (fail)
            refine (textR P most rs false w4 HRD4.out (by rw [HNR.out]; omega) (by omega)).mono ?_
            intro e w5 h5
            obtain ⟨rfl, ⟨r5, hr5, hR5⟩, hm5⟩ := textR_none (by unfold readText; rw [HN.out]) h5
            obtain ⟨A5, c5, k1, k2, k3, k4⟩ := id hR5
            have d1 : w5.cell? ⟨P, 1, none⟩ = some (.bool true) := by rw [cell_of_blk k1]; rfl
            have HR5 := Lib.hid hR5
            have HB5 := Lib.hid (below_modP HB4.out hm5 hPw)
            clear k1 k2 k3 k4 hR5 hm5
            go_wp2_with (fail)
            refine (endR P r5 true false w5 HR5.out rfl).mono ?_
            rintro e w6 ⟨rfl, rfl⟩
            go_wp2_with (fail)
            refine (numR P r5 true w6 HR5.out (by rw [HNR.out] at hr5; omega)).mono ?_
            intro e w7 h7
            obtain ⟨rfl, hR7, hm7⟩ := numR_bad h7
            have HB7 := Lib.hid (below_modP HB5.out hm7 hPw)
            have HR7 := Lib.hid hR7
            clear hR7 hm7 h7
            go_wp2_with (fail)
            refine (textR P 9 r5 true w7 HR7.out (by rw [HNR.out] at hr5; omega) (by omega)).mono ?_
            intro e w8 h8
            obtain ⟨rfl, hm8⟩ := textR_bad h8
            have HB8 := Lib.hid (below_modP HB7.out hm8 hPw)
            clear hm8 h8
            go_wp2_with (fail)
            go_ret
            exact ⟨rfl, HB8.out⟩
        | some y =>
          obtain ⟨m, r⟩ := y
          have e := (takeN_some hrn).1
          rw [e] at hT
          obtain ⟨hK1, hK2, hK3⟩ := readNum_len hrn
          have hrd := (takeN_some hrn).2.1
          have hm64 := (readNum_some hrn).2
          obtain ⟨K, hK⟩ : ∃ K, K = (numB m).length := ⟨_, rfl⟩
          rw [← hK] at hK1 hK2 hK3 hT hrd
          rw [HNR.out] at hK3
          have HN := Lib.hid hrn
          have HD := Lib.hid hrd
          obtain ⟨ad, rfl, had, _⟩ := HRs.out.2 (by omega)
          have q0 : ((K : Int) == 0) = false := by simp; omega
          have q1 : (0 : Int) ≤ (K : Int) := by omega
          have q3 : (K : Int) ≤ (cr : Int) := by omega
          have q4 : K ≤ cr := by omega
          have hcut : ∀ (k : Nat) (A' : Option Addr), k ≤ nr → (A' = some (ad.add k) ∨ rs.drop k = []) → Reads w w.heap.size 1 A' (nr - k) (bv (rs.drop k)) := fun k A' hk h => by
            rcases h with rfl | h
            · have := HRs.out.cut (k := k) (cap := nr + 1) hk (by omega)
              rw [if_neg (by omega), Nat.mul_one] at this
              rw [show bv (rs.drop k) = (bv rs).drop k by simp [bv, List.map_drop]]
              exact this
            · have h2 : nr - k = 0 := by have := congrArg List.length h; rw [List.length_drop, HNR.out] at this; simpa using this
              rw [h, h2]
              exact Reads.none_
          have HC := Lib.hid hcut
          clear hrn e hK hrd hcut
          cases x with
          | false =>
            obtain ⟨L, hL⟩ : ∃ L, L = r.length := ⟨_, rfl⟩
            rw [← hL] at hK3
            subst hK3
            have HT := Lib.hid hT
            have hcut : ∀ A', (A' = some (ad.add K) ∨ r = []) → Reads w w.heap.size 1 A' L (bv r) := fun A' h => by
              have := HC.out K A' (by omega) (by rw [← HD.out]; exact h)
              rw [← HD.out, show K + L - K = L by omega] at this
              exact this
            have HCW := Lib.hid hcut
            have HLL := Lib.hid hL
            obtain ⟨v, hv⟩ : ∃ v, decide (L = 0) = v := ⟨_, rfl⟩
            have hq : ((L : Int) == 0) = v := by rw [← hv, Bool.eq_iff_iff]; simp
            have hv2 : (!false && decide (r.length = 0)) = v := by rw [← hL]; exact hv
            have HV := Lib.hid hv2
            have q2 : (K : Int) ≤ (K : Int) + (L : Int) := by omega
            clear hT hcut hv hv2 hL
            go_wp2_with (fail)
            refine HT.out.mono ?_
            rintro e w4 ⟨rfl, hb4⟩
            have HRD4 := Lib.hid (HRD.out.below hb4)
            have HB4 := Lib.hid (HB.out.trans (hb4.mono HB.out.size))
            clear hb4
            go_wp2_with (fail)
            refine (numR P rs false w4 HRD4.out (by rw [HNR.out]; omega)).mono ?_
            intro e w5 h5
            unfold RetNumR at h5
            rw [HN.out] at h5
            obtain ⟨rfl, hR5, hm5⟩ := h5
            obtain ⟨A5, c5, k1, k2, k3, k4⟩ := id hR5
            rw [← HLL.out] at k1 k2 k3
            have d1 : w5.cell? ⟨P, 0, none⟩ = some (.slice A5 L c5) := by rw [cell_of_blk k1]; rfl
            have d2 : w5.cell? ⟨P, 1, none⟩ = some (.bool false) := by rw [cell_of_blk k1]; rfl
            have HR5 := Lib.hid hR5
            have K2 := Lib.hid k2
            have HB5 := Lib.hid (below_modP HB4.out hm5 hPw)
            have HCUT := Lib.hid (fun A' h => (HCW.out A' h).below HB5.out)
            clear k1 k2 k3 k4 hR5 hm5
            go_wp2_with (fail)
            all_goals
              refine (equalBq true A5 (some _) L c5 L _ _ w.heap.size r r w5 K2.out (HCUT.out _ (by first | exact .inl rfl | exact .inr (List.length_eq_zero_iff.1 (by have := HLL.out; omega)))) (by omega) (by omega) (decide_eq_true rfl)).mono ?_
              rintro e w6 ⟨rfl, q, rfl⟩
              go_wp2_with (fail)
              refine (endR P r false v (w5.drewN q) (HR5.out.drewN q) HV.out).mono ?_
              rintro e w7 ⟨rfl, rfl⟩
              go_wp2_with (fail)
              refine ⟨⟨j + 1, _, _, r, L, by omega, by go_num, rfl, rfl, by omega, by omega, Lib.hid (HCW.out _ (by first | exact .inl rfl | exact .inr (List.length_eq_zero_iff.1 (by have := HLL.out; omega)))), Lib.hid (HR5.out.drewN q), Lib.hid (bdrewN HB5.out q)⟩, by simp [intOf]; omega⟩
          | true =>
            obtain ⟨R, hR⟩ : ∃ R, R = r.length := ⟨_, rfl⟩
            rw [← hR] at hK3
            by_cases hok : m ≤ R ∧ m ≤ most
            · obtain ⟨ho1, ho2⟩ := hok
              have hrt : readText rs most = some (r.take m, r.drop m) := by unfold readText; rw [HN.out]; simp [← hR, ho1, ho2]
              obtain ⟨L, hL⟩ : ∃ L, L = (r.drop m).length := ⟨_, rfl⟩
              have hRL : R = m + L := by rw [hL, List.length_drop]; omega
              subst hRL
              rw [← Nat.add_assoc] at hK3
              subst hK3
              have HT := Lib.hid hT
              have HRT := Lib.hid hrt
              have hdd : rs.drop (K + m) = r.drop m := by rw [HD.out, List.drop_drop]
              have hcut : ∀ A', (A' = some (ad.add (K + m)) ∨ r.drop m = []) → Reads w w.heap.size 1 A' L (bv (r.drop m)) := fun A' h => by
                have := HC.out (K + m) A' (by omega) (by rw [hdd]; exact h)
                rw [hdd, show K + m + L - (K + m) = L by omega] at this
                exact this
              have hcv : ∀ (A' : Option Addr) (c' : Nat) (w' : World), (A' = some (ad.add K) ∨ r = []) → Below w.heap.size w w' → (convert 22 9 (.slice A' m c')).run Tryd.prog w' = .ok (.string ⟨(r.take m).toArray⟩) w' := fun A' c' w' h hb => by
                have := HC.out K A' (by omega) (by rw [← HD.out]; exact h)
                rw [← HD.out, show K + m + L - K = m + L by omega] at this
                exact convB A' m c' _ (r.take m) w' ((this.pre (k := m) (by omega)).below hb)
              have HCV := Lib.hid hcv
              have HCW := Lib.hid hcut
              have HLL := Lib.hid hL
              have HRL := Lib.hid hR
              obtain ⟨v, hv⟩ : ∃ v, decide (L = 0) = v := ⟨_, rfl⟩
              have hq : ((L : Int) == 0) = v := by rw [← hv, Bool.eq_iff_iff]; simp
              have hv2 : (!false && decide ((r.drop m).length = 0)) = v := by rw [← hL]; exact hv
              have HV := Lib.hid hv2
              have p1 : decide ((K : Int) + (m : Int) + (L : Int) - (K : Int) < (m : Int)) = false := decide_eq_false (by omega)
              have p2 : decide ((most : Int) < (m : Int)) = false := decide_eq_false (by omega)
              have p2' : decide (most < m) = false := decide_eq_false (by omega)
              have p3 : (0 : Int) ≤ (m : Int) := by omega
              have p4 : (m : Int) < 256 := by omega
              have q2 : (K : Int) ≤ (K : Int) + (m : Int) + (L : Int) := by omega
              have q5 : (K : Int) + (m : Int) ≤ (K : Int) + (m : Int) + (L : Int) := by omega
              have p5 : (K : Int) + (m : Int) ≤ (cr : Int) := by omega
              have p6 : K + m ≤ cr := by omega
              clear hT hcut hv hv2 hL hR hrt hdd hcv
              go_wp2_with (fail)
              refine HT.out.mono ?_
              rintro e w4 ⟨rfl, hb4⟩
              have HRD4 := Lib.hid (HRD.out.below hb4)
              have HB4 := Lib.hid (HB.out.trans (hb4.mono HB.out.size))
              clear hb4
              go_wp2_with (fail)
              refine (textR P most rs false w4 HRD4.out (by rw [HNR.out]; omega) (by omega)).mono ?_
              intro e w5 h5
              unfold RetTextR at h5
              rw [HRT.out] at h5
              obtain ⟨rfl, hR5, hm5⟩ := h5
              obtain ⟨A5, c5, k1, k2, k3, k4⟩ := id hR5
              rw [← HLL.out] at k1 k2 k3
              have d1 : w5.cell? ⟨P, 0, none⟩ = some (.slice A5 L c5) := by rw [cell_of_blk k1]; rfl
              have d2 : w5.cell? ⟨P, 1, none⟩ = some (.bool false) := by rw [cell_of_blk k1]; rfl
              have HR5 := Lib.hid hR5
              have K2 := Lib.hid k2
              have HB5 := Lib.hid (below_modP HB4.out hm5 hPw)
              have HCUT := Lib.hid (fun A' h => (HCW.out A' h).below HB5.out)
              clear k1 k2 k3 k4 hR5 hm5
              rw [txt_str]
              by_cases hcK : cr = K
              · have hr0 : r = [] := List.length_eq_zero_iff.1 (by rw [← HRL.out]; omega)
                have cv1 := fun c' => HCV.out (some ad) c' w5 (.inr hr0) HB5.out
                have HCK := Lib.hid hcK
                have HR0 := Lib.hid hr0
                clear hr0
                go_wp2_with (fail)
                all_goals
                  refine (equalBq true A5 (some _) L c5 L _ _ w.heap.size (r.drop m) (r.drop m) w5 K2.out (HCUT.out _ (by first | exact .inl rfl | exact .inr (List.length_eq_zero_iff.1 (by have := HLL.out; omega)))) (by omega) (by omega) (decide_eq_true rfl)).mono ?_
                  rintro e w6 ⟨rfl, q, rfl⟩
                  go_wp2_with (fail)
                  refine (endR P (r.drop m) false v (w5.drewN q) (HR5.out.drewN q) HV.out).mono ?_
                  rintro e w7 ⟨rfl, rfl⟩
                  go_wp2_with (fail)
                  refine ⟨⟨j + 1, _, _, r.drop m, L, by omega, by go_num, (by first | rfl | rw [Nat.add_sub_cancel_left]), rfl, by omega, by omega, Lib.hid (HCW.out _ (by first | exact .inl rfl | exact .inr (List.length_eq_zero_iff.1 (by have := HLL.out; omega)))), Lib.hid (HR5.out.drewN q), Lib.hid (bdrewN HB5.out q)⟩, by simp [intOf]; omega⟩
              · have cv1 := fun c' => HCV.out (some (ad.add K)) c' w5 (.inl rfl) HB5.out
                go_wp2_with (fail)
                all_goals
                  refine (equalBq true A5 (some _) L c5 L _ _ w.heap.size (r.drop m) (r.drop m) w5 K2.out (HCUT.out _ (by first | exact .inl rfl | exact .inr (List.length_eq_zero_iff.1 (by have := HLL.out; omega)))) (by omega) (by omega) (decide_eq_true rfl)).mono ?_
                  rintro e w6 ⟨rfl, q, rfl⟩
                  go_wp2_with (fail)
                  refine (endR P (r.drop m) false v (w5.drewN q) (HR5.out.drewN q) HV.out).mono ?_
                  rintro e w7 ⟨rfl, rfl⟩
                  go_wp2_with (fail)
                  refine ⟨⟨j + 1, _, _, r.drop m, L, by omega, by go_num, rfl, rfl, by omega, by omega, Lib.hid (HCW.out _ (by first | exact .inl rfl | exact .inr (List.length_eq_zero_iff.1 (by have := HLL.out; omega)))), Lib.hid (HR5.out.drewN q), Lib.hid (bdrewN HB5.out q)⟩, by simp [intOf]; omega⟩
            · have hrt : readText rs most = none := by unfold readText; rw [HN.out]; simp only; rw [if_neg (by rw [← hR]; exact hok)]
              have HRT := Lib.hid hrt
              subst hK3
              have HT := Lib.hid hT
              clear hT hrt hR
              by_cases hR1 : R < m
              · have p1 : decide ((K : Int) + (R : Int) - (K : Int) < (m : Int)) = true := decide_eq_true (by omega)
                clear hok
                go_wp2_with (fail)
                refine HT.out.mono ?_
                rintro e w4 ⟨rfl, hb4⟩
                have HRD4 := Lib.hid (HRD.out.below hb4)
                have HB4 := Lib.hid (HB.out.trans (hb4.mono HB.out.size))
                clear hb4
                go_wp2_with (fail)
                refine (textR P most rs false w4 HRD4.out (by rw [HNR.out]; omega) (by omega)).mono ?_
                intro e w5 h5
                obtain ⟨rfl, ⟨r5, hr5, hR5⟩, hm5⟩ := textR_none HRT.out h5
                obtain ⟨A5, c5, k1, k2, k3, k4⟩ := id hR5
                have d1 : w5.cell? ⟨P, 1, none⟩ = some (.bool true) := by rw [cell_of_blk k1]; rfl
                have HR5 := Lib.hid hR5
                have HB5 := Lib.hid (below_modP HB4.out hm5 hPw)
                clear k1 k2 k3 k4 hR5 hm5
                go_wp2_with (fail)
                refine (endR P r5 true false w5 HR5.out rfl).mono ?_
                rintro e w6 ⟨rfl, rfl⟩
                go_wp2_with (fail)
                refine (numR P r5 true w6 HR5.out (by rw [HNR.out] at hr5; omega)).mono ?_
                intro e w7 h7
                obtain ⟨rfl, hR7, hm7⟩ := numR_bad h7
                have HB7 := Lib.hid (below_modP HB5.out hm7 hPw)
                have HR7 := Lib.hid hR7
                clear hR7 hm7 h7
                go_wp2_with (fail)
                refine (textR P 9 r5 true w7 HR7.out (by rw [HNR.out] at hr5; omega) (by omega)).mono ?_
                intro e w8 h8
                obtain ⟨rfl, hm8⟩ := textR_bad h8
                have HB8 := Lib.hid (below_modP HB7.out hm8 hPw)
                clear hm8 h8
                go_wp2_with (fail)
                go_ret
                exact ⟨rfl, HB8.out⟩
              · have p1 : decide ((K : Int) + (R : Int) - (K : Int) < (m : Int)) = false := decide_eq_false (by omega)
                have p2 : decide ((most : Int) < (m : Int)) = true := decide_eq_true (by omega)
                have p2' : decide (most < m) = true := decide_eq_true (by omega)
                clear hok
                go_wp2_with (fail)
                refine HT.out.mono ?_
                rintro e w4 ⟨rfl, hb4⟩
                have HRD4 := Lib.hid (HRD.out.below hb4)
                have HB4 := Lib.hid (HB.out.trans (hb4.mono HB.out.size))
                clear hb4
                go_wp2_with (fail)
                refine (textR P most rs false w4 HRD4.out (by rw [HNR.out]; omega) (by omega)).mono ?_
                intro e w5 h5
                obtain ⟨rfl, ⟨r5, hr5, hR5⟩, hm5⟩ := textR_none HRT.out h5
                obtain ⟨A5, c5, k1, k2, k3, k4⟩ := id hR5
                have d1 : w5.cell? ⟨P, 1, none⟩ = some (.bool true) := by rw [cell_of_blk k1]; rfl
                have HR5 := Lib.hid hR5
                have HB5 := Lib.hid (below_modP HB4.out hm5 hPw)
                clear k1 k2 k3 k4 hR5 hm5
                go_wp2_with (fail)
                refine (endR P r5 true false w5 HR5.out rfl).mono ?_
                rintro e w6 ⟨rfl, rfl⟩
                go_wp2_with (fail)
                refine (numR P r5 true w6 HR5.out (by rw [HNR.out] at hr5; omega)).mono ?_
                intro e w7 h7
                obtain ⟨rfl, hR7, hm7⟩ := numR_bad h7
                have HB7 := Lib.hid (below_modP HB5.out hm7 hPw)
                have HR7 := Lib.hid hR7
                clear hR7 hm7 h7
                go_wp2_with (fail)
                refine (textR P 9 r5 true w7 HR7.out (by rw [HNR.out] at hr5; omega) (by omega)).mono ?_
                intro e w8 h8
                obtain ⟨rfl, hm8⟩ := textR_bad h8
                have HB8 := Lib.hid (below_modP HB7.out hm8 hPw)
                clear hm8 h8
                go_wp2_with (fail)
                go_ret
                exact ⟨rfl, HB8.out⟩
      · obtain rfl : j = n2 := by omega
        go_wp2_with (fail)
        go_ret
        exact ⟨rfl, HB.out⟩
  · go_enter Tryd.func9, Tryd.ntmps9
    go_wp2_with (fail)
    refine (awake5_any w hn).mono ?_
    rintro e w1 ⟨rfl, hb1⟩
    clear hn
    by_cases h1 : bs.length ≤ 200
    · have g1 : decide ((200 : Int) < (bs.length : Int)) = false := decide_eq_false (by omega)
      have g2 : decide ((40 : Int) < (n2 : Int)) = true := decide_eq_true (by omega)
      clear hbig
      go_wp2_with (fail)
      go_ret
      exact ⟨rfl, hb1⟩
    · have g1 : decide ((200 : Int) < (bs.length : Int)) = true := decide_eq_true (by omega)
      clear hbig
      go_wp2_with (fail)
      go_ret
      exact ⟨rfl, hb1⟩
end Go.Proofs.YtgonklbjbgekoaaDoor
