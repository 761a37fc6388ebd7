/- selionlaw06.FrameCut answers true, whatever the pieces, the cut. Condition: the package's variable 'none' holds what its text lays. -/
import Derived.Test.YtocgfcboigiigaaDoorRows6
namespace Go.Proofs.YtocgfcboigiigaaDoor
open Go Go.Proofs Go.RowKit

/-- Where the pieces end, one behind the other. -/
def endF (ps : List (List UInt8)) (i : Nat) : Nat := (rowsF (ps.take i)).length
def endsV (ps : List (List UInt8)) (k : Nat) : List Value := (List.range k).map fun i => .int .i64 (endF ps (i + 1) : Int)
theorem endsV_succ (ps : List (List UInt8)) (k : Nat) : endsV ps (k + 1) = endsV ps k ++ [.int .i64 (endF ps (k + 1) : Int)] := by simp [endsV, List.range_succ]
theorem endsV_len (ps : List (List UInt8)) (k : Nat) : (endsV ps k).length = k := by simp [endsV]
theorem endsV_get (ps : List (List UInt8)) {k i : Nat} (h : i < k) : (endsV ps k)[i]? = some (.int .i64 (endF ps (i + 1) : Int)) := by simp [endsV, h]
theorem info_int : (Tryd.prog.info? 3).map (fun i => (i.zero, i.size, i.bytes)) = some (some (.int .i64 0), 1, 8) := by kernel_rfl
theorem endF_succ {ps : List (List UInt8)} {k : Nat} {p : List UInt8} (h : ps[k]? = some p) : endF ps (k + 1) = endF ps k + (p.length + 8) := by
  unfold endF
  rw [rowsF_take h, List.length_append, wrapF_len]
theorem bytesOf_take (L : BL) (k : Nat) : bytesOf (L.take k) = (bytesOf L).take k := by simp [bytesOf, List.map_take]
theorem rows_small {w : World} {B n : Nat} {A : Option Addr} {L : BL} (h : RowsAt w B A n L) (hs : ∀ p ∈ bytesOf L, p.length ≤ 40) : ∀ x ∈ L, x.2.1 ≤ 1000000000 := fun x hx => by
  have h1 := hs x.2.2.2 (List.mem_map_of_mem hx)
  have h2 := (h.2 x hx).1
  rw [bv_length] at h2
  omega
set_option maxHeartbeats 8000000 in
set_option maxRecDepth 100000 in
theorem cut6 (A : Option Addr) (n c cut : Nat) (L : BL) (w : World) (hn : NoneLaid w) (hr : RowsAt w w.heap.size A n L) (hnc : n ≤ c) (hcut : cut < 65536) :
    Calls Tryd.prog 6 #[.slice A n c, .int .u16 cut] w fun e w' => e = .returned (.bool true) ∧ Below w.heap.size w w' := by
  have hl := hr.len
  have HR := Lib.hid hr
  have HL := Lib.hid hl
  clear hr hl
  by_cases hbig : n ≤ 10
  · have g1 : decide ((10 : Int) < (n : Int)) = false := decide_eq_false (by omega)
    obtain ⟨ps, hps⟩ : ∃ ps, ps = bytesOf L := ⟨_, rfl⟩
    have hpl : ps.length = n := by rw [hps]; simp [bytesOf, HL.out]
    have HPS := Lib.hid hps
    have HPL := Lib.hid hpl
    clear hps hpl
    go_enter Tryd.func6, Tryd.ntmps6
    go_wp2_with (fail)
    refine (awake6_any w hn).mono ?_
    rintro e w1 ⟨rfl, hb1⟩
    clear hn
    have hz1 := hb1.size
    have HB1 := Lib.hid hb1
    clear hb1
    go_wp2_with (fail)
    go_loopw [5, 6, 23] (fun vb ve i wr => ∃ (k : Nat) (Ab Ae : Option Addr) (cb ce : Nat), k ≤ n ∧ i = .int .i64 k ∧ vb = .slice Ab (endF ps k) cb ∧ ve = .slice Ae k ce ∧ Hid (wr.ownsRow w1.heap.size 5 1 (.slice Ab (endF ps k) cb) (endF ps k) (bv (rowsF (ps.take k)))) ∧ Hid (wr.ownsRow w1.heap.size 3 1 (.slice Ae k ce) k (endsV ps k)) ∧ Hid (Below w1.heap.size w1 wr) ∧ endF ps k ≤ 48 * k ∧ Hid (∀ j p, j < k → ps[j]? = some p → p.length ≤ 40)) (fun _ _ i _ => n - (intOf i).toNat)
    case atStart => exact ⟨0, none, none, 0, 0, Nat.zero_le _, rfl, rfl, rfl, Lib.hid (World.ownsRow_nil _ _ _ _), Lib.hid (World.ownsRow_nil _ _ _ _), Lib.hid (Below.refl _ _), Nat.le_refl _, Lib.hid (fun j p h => by omega)⟩
    case round =>
      obtain ⟨k, Ab, Ae, cb, ce, hk, rfl, rfl, rfl, HOB, HOE, HB, hel, H40⟩ := hrel
      have hzr := HB.out.size
      by_cases hlt : k < n
      · obtain ⟨x, hx⟩ : ∃ x, L[k]? = some x := ⟨L[k]'(by rw [HL.out]; exact hlt), List.getElem?_eq_getElem _⟩
        obtain ⟨ad, rfl, had, hc⟩ := HR.out.1.2 (by omega)
        have hbw := HB1.out.trans (HB.out.mono hz1)
        have d0 : wr.cell? (ad.add k) = some (.slice x.1 x.2.1 x.2.2.1) := cellk hbw (by rw [block_of_add]; exact had) (hc k (slV x) (by rw [List.getElem?_map, hx]; rfl))
        have r0 := (HR.out.2 x (List.mem_of_getElem? hx)).below hbw
        have hp : ps[k]? = some x.2.2.2 := by rw [HPS.out]; exact bytesOf_get hx
        obtain ⟨a1, n1, c1, p⟩ := x
        simp only at d0 r0 hp
        have hpn : p.length = n1 := by have := r0.1; rw [bv_length] at this; omega
        have hes := endF_succ hp
        have hrt := rowsF_take hp
        rw [hpn] at hes
        have hin0 : (0 : Int) ≤ (k : Int) := by omega
        have hin1 : (k : Int) < (n : Int) := by omega
        have R0 := Lib.hid r0
        have HP := Lib.hid hp
        have HPN := Lib.hid hpn
        have HES := Lib.hid hes
        have HRT := Lib.hid hrt
        have HBW := Lib.hid hbw
        clear hx hc r0 hp hpn hes hrt hbw
        obtain ⟨E, hE⟩ : ∃ E, E = endF ps k := ⟨_, rfl⟩
        rw [← hE] at HOB HES hel ⊢
        have HE := Lib.hid hE
        clear hE
        by_cases h40 : n1 ≤ 40
        · have g2 : decide ((40 : Int) < (n1 : Int)) = false := decide_eq_false (by omega)
          obtain ⟨i0, hi, hz0, hz1', hz2⟩ := info_parts info_u8
          obtain ⟨i1, hj, hy0, hy1, hy2⟩ := info_parts info_int
          go_wp2_with (fail)
          refine (wrapC a1 n1 c1 _ p wr R0.out (HBW.out.size) (by omega)).mono ?_
          rintro e w3 ⟨A3, c3, rfl, hown3, hb3⟩
          have hz3 := hb3.size
          have HO3 := Lib.hid (Reads.of_own hown3)
          have HOB3 := Lib.hid (owns_bel HOB.out hb3)
          have HOE3 := Lib.hid (owns_bel HOE.out hb3)
          have HB3 := Lib.hid (HB.out.trans (hb3.mono hzr))
          clear hown3 hb3
          go_wp2_with (first
            | (at_builtin; (refine wpList_append_any _ rfl (.tmp 30) (.tmp 32) 22 rfl w1.heap.size 5 i0 (.int .u8 0) 1 1 Tryd.underlying22 hi hz0 hz1' hz2 rfl (by decide) (.slice Ab E cb) E (bv (rowsF (ps.take k))) rfl HOB3.out _ A3 (n1 + 8) c3 (bv (wrapF p)) rfl HO3.out (bv_one _) (by unfold maxLen; omega) (by omega) (by omega) ?_; intro v5 w5 hown5 hgr5 _; obtain ⟨A5, c5, rfl, hc5⟩ := owns_form hown5; have hz5 := hgr5.size; have HO5 := Lib.hid hown5; have HOE5 := Lib.hid (HOE3.out.kept hgr5 (own_ne HOE3.out HOB3.out (by decide))); have HB5 := Lib.hid (HB3.out.grown hgr5 (by omega) (fun j hj => (HOB3.out.lt j hj).1)); clear hown5 hgr5))
            | (at_builtin; (refine wpList_append_any _ rfl (.tmp 34) (.tmp 37) 35 rfl w1.heap.size 3 i1 (.int .i64 0) 1 8 Tryd.underlying35 hj hy0 hy1 hy2 rfl (by decide) (.slice Ae k ce) k (endsV ps k) rfl (HOE5.out.alloc _) _ (some ⟨w5.heap.size, 0, none⟩) 1 1 [.int .i64 ((E : Int) + ((n1 : Int) + 8))] rfl (reads_blk (heap_alloc_new _ _) rfl) (fun u hu => by obtain rfl := List.mem_singleton.1 hu; rfl) (by unfold maxLen; omega) (by omega) (by rw [World.size_alloc]; omega) ?_; intro v6 w6 hown6 hgr6 _; obtain ⟨A6, c6, rfl, hc6⟩ := owns_form hown6)))
          have k1 := own_ne (HO5.out.alloc (.cells #[.int .i64 ((E : Int) + ((n1 : Int) + 8))] 3 (0, 0))) (HOE5.out.alloc (.cells #[.int .i64 ((E : Int) + ((n1 : Int) + 8))] 3 (0, 0))) (by decide)
          have k2 := (HO5.out.alloc (.cells #[.int .i64 ((E : Int) + ((n1 : Int) + 8))] 3 (0, 0))).kept hgr6 k1
          have k3 := HB5.out.alloc (by omega) (.cells #[.int .i64 ((E : Int) + ((n1 : Int) + 8))] 3 (0, 0))
          have k4 := k3.grown hgr6 (by rw [World.size_alloc]; omega) (fun j hj => (HOE5.out.lt j hj).1)
          refine ⟨⟨k + 1, A5, A6, c5, c6, by omega, by go_num, by rw [HES.out], rfl, Lib.hid ?_, Lib.hid ?_, Lib.hid k4, by rw [HES.out]; omega, Lib.hid ?_⟩, by simp [intOf]; omega⟩
          · rw [HES.out, HRT.out, bv_append]
            exact k2
          · have e : ((E : Int) + ((n1 : Int) + 8)) = ((endF ps (k + 1) : Nat) : Int) := by rw [HES.out]; push_cast; rfl
            rw [e, ← endsV_succ] at hown6
            exact hown6
          · intro j p' hj' hp'
            by_cases hjk : j = k
            · subst hjk
              obtain rfl := Option.some.inj (HP.out.symm.trans hp')
              rw [HPN.out]
              exact h40
            · exact H40.out j p' (by omega) hp'
        · have g2 : decide ((40 : Int) < (n1 : Int)) = true := decide_eq_true (by omega)
          go_wp2_with (fail)
          go_ret
          exact ⟨rfl, HBW.out⟩
      · obtain rfl : k = n := by omega
        have hall : ∀ p ∈ ps, p.length ≤ 40 := fun p hp => by
          obtain ⟨j, hj⟩ := List.getElem?_of_mem hp
          exact H40.out j p (by have := (List.getElem?_eq_some_iff.1 hj).1; rw [HPL.out] at this; exact this) hj
        obtain ⟨N, hN1, hN2, hN3⟩ := splitF_cut ps (cut % (endF ps k + 1)) fun p hp => by have := hall p hp; omega
        rw [HPL.out] at hN1 hN3
        have htk : ps.take k = ps := List.take_of_length_le (by rw [HPL.out]; exact Nat.le_refl _)
        have hob := HOB.out
        rw [htk] at hob
        obtain ⟨E, hE⟩ : ∃ E, E = endF ps k := ⟨_, rfl⟩
        rw [← hE] at hob hel hN2 hN3 ⊢
        obtain ⟨kk, hkk⟩ : ∃ kk, kk = cut % (E + 1) := ⟨_, rfl⟩
        rw [← hkk] at hN2 hN3
        have hkE : kk ≤ E := by rw [hkk]; have := Nat.mod_lt cut (show 0 < E + 1 by omega); omega
        have hk1 : (cut : Int) % ((E : Int) + 1) = (kk : Int) := by rw [hkk]; push_cast; rfl
        have hcb : E ≤ cb := by
          obtain ⟨_, _, e2, h2⟩ := owns_form hob
          injection e2 with _ _ e2
          omega
        have HOB' := Lib.hid hob
        have HALL := Lib.hid hall
        have HN2 := Lib.hid hN2
        have HN3 := Lib.hid hN3
        clear HOB hob hall hN2 hN3 hE hkk htk H40
        go_wp2_with (fail)
        refine (splitC Ab kk cb _ ((rowsF ps).take kk) wr (Reads.pre (Reads.of_own HOB'.out) hkE) (Nat.le_refl _) (by omega) (by omega)).mono ?_
        rintro e w4 ⟨v4, rfl, hp4, hb4⟩
        rw [HN2.out] at hp4 ⊢
        obtain ⟨A4, c4, L4, rfl, hr4, hL4⟩ := hp4.rows
        have hlen : (ps.take N).length = N := by rw [List.length_take, HPL.out]; omega
        simp only [hlen] at hr4 ⊢
        have hz4 := hb4.size
        have HR4 := Lib.hid hr4
        have HL4 := Lib.hid hL4
        have HOE4 := Lib.hid (Reads.of_own (owns_bel HOE.out hb4))
        have HB4 := Lib.hid (HB.out.trans (hb4.mono hzr))
        clear hp4 hr4 hL4 hb4 hlen
        rename_i K Q
        go_wp2_with (fail)
        obtain ⟨wo, rfl⟩ : ∃ wo : World, wo = wr := ⟨_, rfl⟩
        go_loopw [12, 13, 55] (fun vn vl i wr => ∃ j : Nat, j ≤ k ∧ i = .int .i64 j ∧ vn = .int .i64 (min j N : Nat) ∧ vl = .int .i64 ((rowsF (ps.take (min j N))).length : Nat) ∧ wr = w4) (fun _ _ i _ => k - (intOf i).toNat)
        case atStart => exact ⟨0, Nat.zero_le _, rfl, by rw [Nat.zero_min]; rfl, by rw [Nat.zero_min]; rfl, rfl⟩
        case round =>
          obtain ⟨j, hj, rfl, rfl, rfl, rfl⟩ := hrel
          by_cases hlt : j < k
          · obtain ⟨ad, rfl, had, hc⟩ := HOE4.out.2 (by omega)
            have d0 := hc j _ (endsV_get ps hlt)
            have hq := HN3.out j hlt
            have hin0 : (0 : Int) ≤ (j : Int) := by omega
            have hin1 : (j : Int) < (k : Int) := by omega
            clear hc
            have he : endF ps (j + 1) = (rowsF (ps.take (j + 1))).length := rfl
            obtain ⟨F, hF⟩ : ∃ F, F = endF ps (j + 1) := ⟨_, rfl⟩
            rw [← hF] at d0 he
            rw [← he] at hq
            by_cases hjN : j < N
            · have hm : min j N = j := Nat.min_eq_left (by omega)
              have hm' : min (j + 1) N = j + 1 := Nat.min_eq_left (by omega)
              have hg : decide (F ≤ kk) = true := decide_eq_true (by have := hq.2 hjN; omega)
              have HE := Lib.hid he
              have HF := Lib.hid hF
              rw [hm]
              have HM' := Lib.hid hm'
              clear hq hm he hF hm'
              go_wp2_with (fail)
              exact ⟨⟨j + 1, by omega, by go_num, by rw [HM'.out]; go_num, by rw [HM'.out, HE.out], trivial⟩, by simp [intOf]; omega⟩
            · have hm : min j N = N := Nat.min_eq_right (by omega)
              have hm' : min (j + 1) N = N := Nat.min_eq_right (by omega)
              have hg : decide (F ≤ kk) = false := decide_eq_false (by have := mt hq.1 hjN; omega)
              have HF := Lib.hid hF
              rw [hm]
              have HM' := Lib.hid hm'
              clear hq hm he hF hm'
              go_wp2_with (fail)
              exact ⟨⟨j + 1, by omega, by go_num, by rw [HM'.out], by rw [HM'.out], trivial⟩, by simp [intOf]; omega⟩
          · obtain rfl : j = k := by omega
            have hm : min j N = N := Nat.min_eq_right hN1
            rw [hm]
            have hr1 := HR.out.pre (k := N) hN1
            have hbt := HB1.out.trans (HB4.out.mono hz1)
            have HR1 := Lib.hid (hr1.below hbt)
            have HBT := Lib.hid hbt
            have hin0 : (0 : Int) ≤ (N : Int) := by omega
            have hin1 : (N : Int) ≤ (c : Int) := by omega
            have HN1 := Lib.hid hN1
            have HNC := Lib.hid hnc
            clear hr1 hbt hm
            go_wp2_with (fail)
            have a1 : ∀ x ∈ L4, x.2.1 ≤ 1000000000 := rows_small HR4.out fun p hp => HALL.out p (by rw [HL4.out] at hp; exact List.mem_of_mem_take hp)
            have a2 : ∀ x ∈ L.take N, x.2.1 ≤ 1000000000 := rows_small HR1.out fun p hp => HALL.out p (by rw [bytesOf_take, ← HPS.out] at hp; exact List.mem_of_mem_take hp)
            have a3 : decide (bytesOf L4 = bytesOf (L.take N)) = true := decide_eq_true (by rw [HL4.out, bytesOf_take, ← HPS.out])
            refine (eqRows true A4 A N c4 N c _ _ L4 (L.take N) wr HR4.out HR1.out a1 a2 a3 (by omega)).mono ?_
            rintro e w9 ⟨rfl, q, rfl⟩
            clear a1 a2 a3
            go_wp2_with (fail)
            go_ret
            exact ⟨rfl, bdrewN HBT.out q⟩
  · have g1 : decide ((10 : Int) < (n : Int)) = true := decide_eq_true (by omega)
    go_enter Tryd.func6, Tryd.ntmps6
    go_wp2_with (fail)
    refine (awake6_any w hn).mono ?_
    rintro e w1 ⟨rfl, hb1⟩
    clear hn
    go_wp2_with (fail)
    go_ret
    exact ⟨rfl, hb1⟩
end Go.Proofs.YtocgfcboigiigaaDoor
