/- selionlaw06.FrameJoins answers true, whatever the pieces. Condition: the package's variable 'none' holds what its text lays. -/
import Derived.Test.YtocgfcboigiigaaDoorLawCut6
import Derived.Test.YtocgfcboigiigaaDoorConcat6
namespace Go.Proofs.YtocgfcboigiigaaDoor
open Go Go.Proofs Go.RowKit

/-- The pieces, the first forty bytes of each. -/
def forty (L : BL) : List (List UInt8) := (bytesOf L).map (·.take 40)
theorem forty_len {w : World} {B n : Nat} {A : Option Addr} {L : BL} (h : RowsAt w B A n L) : (forty L).length = n := by simp [forty, bytesOf, h.len]
theorem forty_le (L : BL) : ∀ p ∈ forty L, p.length ≤ 40 := fun p hp => by
  obtain ⟨q, _, rfl⟩ := List.mem_map.1 hp
  exact List.length_take_le _ _
theorem rowsF_len {ps : List (List UInt8)} (h : ∀ p ∈ ps, p.length ≤ 40) : (rowsF ps).length ≤ 48 * ps.length := by
  induction ps with
  | nil => simp [rowsF]
  | cons p ps ih =>
    have h1 := h p List.mem_cons_self
    have h2 := ih fun q hq => h q (List.mem_cons_of_mem _ hq)
    rw [rowsF_cons, List.length_append, wrapF_len, List.length_cons]
    omega
/-- The pieces' bytes are answered, in memory of the call's own. -/
def RetRowB (w : World) (L : BL) (e : Ending) (w' : World) : Prop := ∃ A c, e = .returned (.slice A (rowsF (forty L)).length c) ∧ w'.ownsRow w.heap.size 5 1 (.slice A (rowsF (forty L)).length c) (rowsF (forty L)).length (bv (rowsF (forty L))) ∧ Below w.heap.size w w'
set_option maxHeartbeats 8000000 in
set_option maxRecDepth 100000 in
theorem rowJ (A : Option Addr) (n c B : Nat) (L : BL) (w : World) (hr : RowsAt w B A n L) (hcp : ∀ x ∈ L, x.2.1 ≤ x.2.2.1) (hB : B ≤ w.heap.size) (hn : n ≤ 8) :
    Calls Tryd.prog 26 #[.slice A n c] w (RetRowB w L) := by
  have hl := hr.len
  have hfl := forty_len hr
  have HR := Lib.hid hr
  have HL := Lib.hid hl
  have HCP := Lib.hid hcp
  have HFL := Lib.hid hfl
  clear hr hl hcp hfl
  go_enter Tryd.func26, Tryd.ntmps26
  go_wp2_with (fail)
  go_loopw [3, 8] (fun vb i wr => ∃ (k : Nat) (Ab : Option Addr) (cb : Nat), k ≤ n ∧ i = .int .i64 k ∧ vb = .slice Ab (endF (forty L) k) cb ∧ Hid (wr.ownsRow w.heap.size 5 1 (.slice Ab (endF (forty L) k) cb) (endF (forty L) k) (bv (rowsF ((forty L).take k)))) ∧ Hid (Below w.heap.size w wr) ∧ endF (forty L) k ≤ 48 * k) (fun _ i _ => n - (intOf i).toNat)
  case atStart => exact ⟨0, none, 0, Nat.zero_le _, rfl, rfl, Lib.hid (World.ownsRow_nil _ _ _ _), Lib.hid (Below.refl _ _), Nat.le_refl _⟩
  case round =>
    obtain ⟨k, Ab, cb, hk, rfl, rfl, HOB, HB, hel⟩ := hrel
    have hzr := HB.out.size
    by_cases hlt : k < n
    · obtain ⟨x, hx⟩ : ∃ x, L[k]? = some x := ⟨L[k]'(by rw [HL.out]; exact hlt), List.getElem?_eq_getElem _⟩
      obtain ⟨ad, rfl, had, hc⟩ := HR.out.1.2 (by omega)
      have hbw : Below B w wr := HB.out.mono hB
      have d0 : wr.cell? (ad.add k) = some (.slice x.1 x.2.1 x.2.2.1) := cellk hbw (by rw [block_of_add]; exact had) (hc k (slV x) (by rw [List.getElem?_map, hx]; rfl))
      have r0 := (HR.out.2 x (List.mem_of_getElem? hx)).below hbw
      have cp0 := HCP.out x (List.mem_of_getElem? hx)
      have hp : (forty L)[k]? = some (x.2.2.2.take 40) := by simp [forty, bytesOf, hx]
      obtain ⟨a1, n1, c1, p⟩ := x
      simp only at d0 r0 cp0 hp
      have hpn : p.length = n1 := by have := r0.1; rw [bv_length] at this; omega
      obtain ⟨q, hq⟩ : ∃ q, q = min n1 40 := ⟨_, rfl⟩
      have hmn : min (n1 : Int) 40 = (q : Int) := by omega
      have hq1 : q ≤ n1 := by omega
      have hq2 : q ≤ 40 := by omega
      have hqc : q ≤ c1 := by omega
      have htk : p.take 40 = p.take q := by
        rcases Nat.le_total n1 40 with h | h
        · rw [List.take_of_length_le (by omega), List.take_of_length_le (by omega)]
        · rw [show q = 40 by omega]
      have r1 := Reads.pre r0 hq1
      have hpl : (p.take q).length = q := by rw [List.length_take]; omega
      rw [htk] at hp
      have hes := endF_succ hp
      have hrt := rowsF_take hp
      rw [hpl] at hes
      have hin0 : (0 : Int) ≤ (k : Int) := by omega
      have hin1 : (k : Int) < (n : Int) := by omega
      have hin2 : (0 : Int) ≤ (q : Int) := by omega
      have hin3 : (q : Int) ≤ (c1 : Int) := by omega
      have R1 := Lib.hid r1
      have HES := Lib.hid hes
      have HRT := Lib.hid hrt
      clear hx hc r0 r1 hp hpn hes hrt hbw htk hpl cp0 hq
      obtain ⟨E, hE⟩ : ∃ E, E = endF (forty L) k := ⟨_, rfl⟩
      rw [← hE] at HOB HES hel ⊢
      clear hE
      obtain ⟨i0, hi, hz0, hz1', hz2⟩ := info_parts info_u8
      go_wp2_with (fail)
      refine (wrapC a1 q c1 _ (p.take q) wr R1.out (by omega) (by omega)).mono ?_
      rintro e w3 ⟨A3, c3, rfl, hown3, hb3⟩
      have hz3 := hb3.size
      have HO3 := Lib.hid (Reads.of_own hown3)
      have HOB3 := Lib.hid (owns_bel HOB.out hb3)
      have HB3 := Lib.hid (HB.out.trans (hb3.mono hzr))
      clear hown3 hb3
      go_wp2_with (at_builtin; (refine wpList_append_any _ rfl (.tmp 12) (.tmp 18) 22 rfl w.heap.size 5 i0 (.int .u8 0) 1 1 Tryd.underlying22 hi hz0 hz1' hz2 rfl (by decide) (.slice Ab E cb) E (bv (rowsF ((forty L).take k))) rfl HOB3.out _ A3 (q + 8) c3 (bv (wrapF (p.take q))) rfl HO3.out (bv_one _) (by unfold maxLen; omega) (by omega) (by omega) ?_; intro v5 w5 hown5 hgr5 _; obtain ⟨A5, c5, rfl, hc5⟩ := owns_form hown5))
      have hb5 := HB3.out.grown hgr5 (by omega) (fun j hj => (HOB3.out.lt j hj).1)
      refine ⟨⟨k + 1, A5, c5, by omega, by go_num, by rw [HES.out], Lib.hid ?_, Lib.hid hb5, by rw [HES.out]; omega⟩, by simp [intOf]; omega⟩
      rw [HES.out, HRT.out, bv_append]
      exact hown5
    · obtain rfl : k = n := by omega
      have htk : (forty L).take k = forty L := List.take_of_length_le (by rw [HFL.out]; exact Nat.le_refl _)
      have hob := HOB.out
      unfold endF at hob hel ⊢
      rw [htk] at hob hel ⊢
      have HOB' := Lib.hid hob
      clear hob htk HOB
      go_wp2_with (fail)
      go_ret
      exact ⟨_, _, rfl, HOB'.out, HB.out⟩
/-- Two slices, one behind the other, are joined. -/
theorem concat2o6 {w : World} {g c B n0 n1 c0 c1 : Nat} {A0 A1 : Option Addr} {b0 b1 : List UInt8} (hg : w.heap[g]? = some (.cells #[.slice A0 n0 c0, .slice A1 n1 c1] 22 (0, 0))) (hB : B ≤ w.heap.size) (h0 : Reads w B 1 A0 n0 (bv b0)) (h1 : Reads w B 1 A1 n1 (bv b1)) (hn : n0 + n1 ≤ 1000000000) :
    Calls Tryd.prog 24 #[.slice (some ⟨g, 0, none⟩) 2 c] w (RetBytes w (b0 ++ b1)) := by
  have h := concatB g c 2 B [(A0, n0, c0, b0), (A1, n1, c1, b1)] w rfl (by omega) (lt_of_heap hg) hB (fun j x hx => by
    rw [cell_of_blk hg]
    match j, hx with
    | 0, hx => obtain rfl := Option.some.inj hx; rfl
    | 1, hx => obtain rfl := Option.some.inj hx; rfl) (fun x hx => by
    simp only [List.mem_cons, List.not_mem_nil, or_false] at hx
    rcases hx with rfl | rfl
    · exact h0
    · exact h1) (by simp [totB]; omega)
  simpa [flatB] using h
theorem concat2r6 {w : World} {g c B n0 n1 c0 c1 : Nat} {A0 A1 : Option Addr} {b0 b1 : List Value} (hg : w.heap[g]? = some (.cells #[.slice A0 n0 c0, .slice A1 n1 c1] 26 (0, 0))) (hB : B ≤ w.heap.size) (h0 : Reads w B 1 A0 n0 b0) (h1 : Reads w B 1 A1 n1 b1) (hn : n0 + n1 ≤ 1000000) (ho : ∀ u ∈ b0 ++ b1, u.oneCell' = true) :
    Calls Tryd.prog 27 #[.slice (some ⟨g, 0, none⟩) 2 c] w (RetVals w (b0 ++ b1)) := by
  have h := concatR g c 2 B [(A0, n0, c0, b0), (A1, n1, c1, b1)] w rfl (by omega) (lt_of_heap hg) hB (fun j x hx => by
    rw [cell_of_blk hg]
    match j, hx with
    | 0, hx => obtain rfl := Option.some.inj hx; rfl
    | 1, hx => obtain rfl := Option.some.inj hx; rfl) (fun x hx => by
    simp only [List.mem_cons, List.not_mem_nil, or_false] at hx
    rcases hx with rfl | rfl
    · exact h0
    · exact h1) (by simp [totV]; omega) (fun x hx u hu => by
    simp only [List.mem_cons, List.not_mem_nil, or_false] at hx
    rcases hx with rfl | rfl
    · exact ho u (List.mem_append_left _ hu)
    · exact ho u (List.mem_append_right _ hu))
  simpa [flatV] using h
theorem splitF_three : splitF [1, 0, 0] = ([], 0) := splitF_none (by decide)
theorem le_of_forty {L : BL} : ∀ p ∈ forty L, p.length < 2 ^ 32 := fun p hp => by have := forty_le L p hp; omega
set_option maxHeartbeats 8000000 in
set_option maxRecDepth 100000 in
theorem joins6 (A : Option Addr) (n c : Nat) (L : BL) (A' : Option Addr) (n' c' : Nat) (L' : BL) (w : World) (hn : NoneLaid w) (hr : RowsAt w w.heap.size A n L) (hcp : ∀ x ∈ L, x.2.1 ≤ x.2.2.1) (hr' : RowsAt w w.heap.size A' n' L') (hcp' : ∀ x ∈ L', x.2.1 ≤ x.2.2.1) :
    Calls Tryd.prog 8 #[.slice A n c, .slice A' n' c'] w fun e w' => e = .returned (.bool true) ∧ Below w.heap.size w w' := by
  have HR := Lib.hid hr
  have HR' := Lib.hid hr'
  have HCP := Lib.hid hcp
  have HCP' := Lib.hid hcp'
  clear hr hr' hcp hcp'
  by_cases hbig : n ≤ 8 ∧ n' ≤ 8
  · obtain ⟨hs1, hs2⟩ := hbig
    have g1 : decide ((8 : Int) < (n : Int)) = false := decide_eq_false (by omega)
    have g2 : decide ((8 : Int) < (n' : Int)) = false := decide_eq_false (by omega)
    obtain ⟨qs, hqs⟩ : ∃ qs, qs = forty L := ⟨_, rfl⟩
    obtain ⟨qs', hqs'⟩ : ∃ qs', qs' = forty L' := ⟨_, rfl⟩
    have hq1 : qs.length = n := by rw [hqs]; exact forty_len HR.out
    have hq2 : qs'.length = n' := by rw [hqs']; exact forty_len HR'.out
    have hqb : ∀ p ∈ qs, p.length ≤ 40 := by rw [hqs]; exact forty_le L
    have hqb' : ∀ p ∈ qs', p.length ≤ 40 := by rw [hqs']; exact forty_le L'
    obtain ⟨X, hX⟩ : ∃ X, X = rowsF qs := ⟨_, rfl⟩
    obtain ⟨Y, hY⟩ : ∃ Y, Y = rowsF qs' := ⟨_, rfl⟩
    obtain ⟨lx, hlx⟩ : ∃ lx, lx = X.length := ⟨_, rfl⟩
    obtain ⟨ly, hly⟩ : ∃ ly, ly = Y.length := ⟨_, rfl⟩
    have hx4 : lx ≤ 400 := by rw [hlx, hX]; have := rowsF_len hqb; omega
    have hy4 : ly ≤ 400 := by rw [hly, hY]; have := rowsF_len hqb'; omega
    have hsx : splitF X = (qs, lx) := by rw [hlx, hX]; exact splitF_all qs fun p hp => by have := hqb p hp; omega
    have hsy : splitF Y = (qs', ly) := by rw [hly, hY]; exact splitF_all qs' fun p hp => by have := hqb' p hp; omega
    have hsxy : splitF (X ++ Y) = (qs ++ qs', lx + ly) := by
      rw [hX, hY, ← rowsF_append, splitF_all (qs ++ qs') fun p hp => by
        rcases List.mem_append.1 hp with h | h
        · have := hqb p h; omega
        · have := hqb' p h; omega]
      rw [rowsF_append, List.length_append, hlx, hly, hX, hY]
    have hsx3 : (splitF (X ++ [1, 0, 0])).2 = lx := by
      rw [hX, splitF_rows qs [1, 0, 0] fun p hp => by have := hqb p hp; omega, splitF_three, hlx, hX]
      rfl
    have HX := Lib.hid hX
    have HY := Lib.hid hY
    have HLX := Lib.hid hlx
    have HLY := Lib.hid hly
    have HQ := Lib.hid hqs
    have HQ' := Lib.hid hqs'
    have HQ1 := Lib.hid hq1
    have HQ2 := Lib.hid hq2
    have HB := Lib.hid hqb
    have HB' := Lib.hid hqb'
    have SX := Lib.hid hsx
    have SY := Lib.hid hsy
    have SXY := Lib.hid hsxy
    have SX3 := Lib.hid hsx3
    clear hX hY hlx hly hqs hqs' hq1 hq2 hqb hqb' hsx hsy hsxy hsx3
    go_enter Tryd.func8, Tryd.ntmps8
    go_wp2_with (fail)
    refine (awake6_any w hn).mono ?_
    rintro e w1 ⟨rfl, hb1⟩
    clear hn
    have hz1 := hb1.size
    have HB1 := Lib.hid hb1
    clear hb1
    go_wp2_with (fail)
    refine (rowJ A n c _ L w1 (HR.out.below HB1.out) HCP.out hz1 hs1).mono ?_
    rintro e w2 ⟨A2, c2, rfl, hown2, hb2⟩
    rw [← HQ.out, ← HX.out, ← HLX.out] at hown2 ⊢
    have hc2 : lx ≤ c2 := by
      obtain ⟨_, _, e2, h2⟩ := owns_form hown2
      injection e2 with _ _ e2
      omega
    have hz2 := hb2.size
    have RX2 := Lib.hid (Reads.of_own hown2)
    have HB2 := Lib.hid (HB1.out.trans (hb2.mono hz1))
    clear hown2 hb2
    go_wp2_with (fail)
    refine (rowJ A' n' c' _ L' w2 (HR'.out.below HB2.out) HCP'.out (by omega) hs2).mono ?_
    rintro e w3 ⟨A3, c3, rfl, hown3, hb3⟩
    rw [← HQ'.out, ← HY.out, ← HLY.out] at hown3 ⊢
    have hc3 : ly ≤ c3 := by
      obtain ⟨_, _, e2, h2⟩ := owns_form hown3
      injection e2 with _ _ e2
      omega
    have hz3 := hb3.size
    have RX3 := Lib.hid (RX2.out.below hb3)
    have RY3 := Lib.hid (Reads.of_own hown3)
    have HB3 := Lib.hid (HB2.out.trans (hb3.mono (by omega)))
    clear hown3 hb3
    go_wp2_with (fail)
    refine (splitC A2 lx c2 _ X w3 RX3.out (by omega) (by omega) hc2).mono ?_
    rintro e w4 ⟨v4, rfl, hp4, hb4⟩
    rw [SX.out] at hp4 ⊢
    obtain ⟨A4, c4, L4, rfl, hr4, hL4⟩ := hp4.rows
    simp only at hr4
    rw [HQ1.out] at hr4 ⊢
    have hz4 := hb4.size
    have HR4 := Lib.hid hr4
    have HL4 := Lib.hid hL4
    have RX4 := Lib.hid (RX3.out.below (hb4.mono (by omega)))
    have RY4 := Lib.hid (RY3.out.below hb4)
    have HB4 := Lib.hid (HB3.out.trans (hb4.mono (by omega)))
    clear hp4 hr4 hL4 hb4
    go_wp2_with (fail)
    refine (splitC A3 ly c3 _ Y w4 RY4.out (by omega) (by omega) hc3).mono ?_
    rintro e w5 ⟨v5, rfl, hp5, hb5⟩
    rw [SY.out] at hp5 ⊢
    obtain ⟨A5, c5, L5, rfl, hr5, hL5⟩ := hp5.rows
    simp only at hr5
    rw [HQ2.out] at hr5 ⊢
    have hz5 := hb5.size
    have HR5 := Lib.hid hr5
    have HL5 := Lib.hid hL5
    have HR4 := Lib.hid (HR4.out.below hb5)
    have RX5 := Lib.hid (RX4.out.below (hb5.mono (by omega)))
    have RY5 := Lib.hid (RY4.out.below (hb5.mono (by omega)))
    have HB5 := Lib.hid (HB4.out.trans (hb5.mono (by omega)))
    clear hp5 hr5 hL5 hb5
    go_wp2_with (fail)
    have hm := heap_alloc_new w5 (.cells #[.slice A2 lx c2, .slice A3 ly c3] 22 (0, 0))
    refine (concat2o6 (B := w3.heap.size) hm (by rw [World.size_alloc]; omega) ((RX5.out.alloc (by omega) _).more (by omega)) (RY5.out.alloc (by omega) _) (by omega)).mono ?_
    rintro e w6 ⟨A6, c6, rfl, hown6, hb6⟩
    have e6 : (X ++ Y).length = lx + ly := by rw [List.length_append, HLX.out, HLY.out]
    rw [e6] at hown6 ⊢
    have hc6 : lx + ly ≤ c6 := by
      obtain ⟨_, _, e2, h2⟩ := owns_form hown6
      injection e2 with _ _ e2
      omega
    have hz6 := hb6.size
    rw [World.size_alloc] at hz6
    have RX6 := Lib.hid ((RX5.out.alloc (by omega) (.cells #[.slice A2 lx c2, .slice A3 ly c3] 22 (0, 0))).below (hb6.mono (by rw [World.size_alloc]; omega)))
    have RZ6 := Lib.hid (Reads.of_own hown6)
    have bb6 := ((Below.refl w5.heap.size w5).alloc (Nat.le_refl _) (.cells #[.slice A2 lx c2, .slice A3 ly c3] 22 (0, 0))).trans (hb6.mono (by rw [World.size_alloc]; omega))
    have HR4 := Lib.hid (HR4.out.below (bb6.mono (by omega)))
    have HR5 := Lib.hid (HR5.out.below bb6)
    have HB6 := Lib.hid (HB5.out.trans (bb6.mono (by omega)))
    clear hm hown6 hb6 bb6 e6
    go_wp2_with (fail)
    refine (splitC A6 (lx + ly) c6 _ (X ++ Y) w6 RZ6.out (by omega) (by omega) hc6).mono ?_
    rintro e w7 ⟨v7, rfl, hp7, hb7⟩
    rw [SXY.out] at hp7 ⊢
    obtain ⟨A7, c7, L7, rfl, hr7, hL7⟩ := hp7.rows
    simp only at hr7
    have e7 : (qs ++ qs').length = n + n' := by rw [List.length_append, HQ1.out, HQ2.out]
    simp only [e7] at hr7 ⊢
    have hz7 := hb7.size
    have HR7 := Lib.hid hr7
    have HL7 := Lib.hid hL7
    have RX7 := Lib.hid (RX6.out.below (hb7.mono (by omega)))
    have HR4 := Lib.hid (HR4.out.below (hb7.mono (by omega)))
    have HR5 := Lib.hid (HR5.out.below (hb7.mono (by omega)))
    have HB7 := Lib.hid (HB6.out.trans (hb7.mono (by omega)))
    clear hp7 hr7 hL7 hb7 e7
    go_wp2_with (fail)
    have RT := Lib.hid ((reads_blk (heap_alloc_new w7 (.cells #[.int .u8 1, .int .u8 0, .int .u8 0] 5 (0, 0))) rfl).alloc (Nat.le_refl _) (.cells #[.slice A2 lx c2, .slice (some ⟨w7.heap.size, 0, none⟩) 3 3] 22 (0, 0)))
    have hm := heap_alloc_new (w7.alloc (.cells #[.int .u8 1, .int .u8 0, .int .u8 0] 5 (0, 0))) (.cells #[.slice A2 lx c2, .slice (some ⟨w7.heap.size, 0, none⟩) 3 3] 22 (0, 0))
    have RX8 := ((RX7.out.alloc (by omega) (.cells #[.int .u8 1, .int .u8 0, .int .u8 0] 5 (0, 0))).alloc (by rw [World.size_alloc]; omega) (.cells #[.slice A2 lx c2, .slice (some ⟨w7.heap.size, 0, none⟩) 3 3] 22 (0, 0))).more (B' := (w7.alloc (.cells #[.int .u8 1, .int .u8 0, .int .u8 0] 5 (0, 0))).heap.size) (by rw [World.size_alloc]; omega)
    have bb8 := ((Below.refl w7.heap.size w7).alloc (Nat.le_refl _) (.cells #[.int .u8 1, .int .u8 0, .int .u8 0] 5 (0, 0))).alloc (by rw [World.size_alloc]; omega) (.cells #[.slice A2 lx c2, .slice (some ⟨w7.heap.size, 0, none⟩) 3 3] 22 (0, 0))
    have hs8 : ((w7.alloc (.cells #[.int .u8 1, .int .u8 0, .int .u8 0] 5 (0, 0))).alloc (.cells #[.slice A2 lx c2, .slice (some ⟨w7.heap.size, 0, none⟩) 3 3] 22 (0, 0))).heap.size = w7.heap.size + 2 := by rw [World.size_alloc, World.size_alloc]
    have hrt : Reads ((w7.alloc (.cells #[.int .u8 1, .int .u8 0, .int .u8 0] 5 (0, 0))).alloc (.cells #[.slice A2 lx c2, .slice (some ⟨w7.heap.size, 0, none⟩) 3 3] 22 (0, 0))) (w7.alloc (.cells #[.int .u8 1, .int .u8 0, .int .u8 0] 5 (0, 0))).heap.size 1 (some ⟨w7.heap.size, 0, none⟩) 3 (bv [1, 0, 0]) := RT.out
    have hm' : ((w7.alloc (.cells #[.int .u8 1, .int .u8 0, .int .u8 0] 5 (0, 0))).alloc (.cells #[.slice A2 lx c2, .slice (some ⟨w7.heap.size, 0, none⟩) 3 3] 22 (0, 0))).heap[w7.heap.size + 1]? = some (.cells #[.slice A2 lx c2, .slice (some ⟨w7.heap.size, 0, none⟩) 3 3] 22 (0, 0)) := by rw [← World.size_alloc w7 (.cells #[.int .u8 1, .int .u8 0, .int .u8 0] 5 (0, 0))]; exact hm
    generalize (w7.alloc (.cells #[.int .u8 1, .int .u8 0, .int .u8 0] 5 (0, 0))).alloc (.cells #[.slice A2 lx c2, .slice (some ⟨w7.heap.size, 0, none⟩) 3 3] 22 (0, 0)) = w8 at *
    refine (concat2o6 (B := (w7.alloc (.cells #[.int .u8 1, .int .u8 0, .int .u8 0] 5 (0, 0))).heap.size) hm' (by rw [World.size_alloc]; omega) RX8 hrt (by omega)).mono ?_
    rintro e w9 ⟨A9, c9, rfl, hown9, hb9⟩
    have e9 : (X ++ [1, 0, 0]).length = lx + 3 := by rw [List.length_append, HLX.out]; rfl
    rw [e9] at hown9 ⊢
    have hc9 : lx + 3 ≤ c9 := by
      obtain ⟨_, _, e2, h2⟩ := owns_form hown9
      injection e2 with _ _ e2
      omega
    have hz9 := hb9.size
    have RZ9 := Lib.hid (Reads.of_own hown9)
    have bb9 := bb8.trans (hb9.mono (by omega))
    have HR4 := Lib.hid (HR4.out.below (bb9.mono (by omega)))
    have HR5 := Lib.hid (HR5.out.below (bb9.mono (by omega)))
    have HR7 := Lib.hid (HR7.out.below bb9)
    have HB9 := Lib.hid (HB7.out.trans (bb9.mono (by omega)))
    clear RT hm RX8 bb8 hrt hm' hown9 hb9 bb9 e9 RX2 RX3 RX4 RX5 RX6 RX7 RY3 RY4 RY5
    go_wp2_with (fail)
    refine (splitC A9 (lx + 3) c9 _ (X ++ [1, 0, 0]) w9 RZ9.out (by omega) (by omega) hc9).mono ?_
    rintro e w10 ⟨v10, rfl, hp10, hb10⟩
    rw [SX3.out]
    obtain ⟨A10, c10, rfl, _⟩ := hp10.form
    have hz10 := hb10.size
    have HR4 := Lib.hid (HR4.out.below (hb10.mono (by omega)))
    have HR5 := Lib.hid (HR5.out.below (hb10.mono (by omega)))
    have HR7 := Lib.hid (HR7.out.below (hb10.mono (by omega)))
    have HB10 := Lib.hid (HB9.out.trans (hb10.mono (by omega)))
    generalize (splitF (X ++ [1, 0, 0])).1.length = m10 at *
    clear hp10 hb10
    go_wp2_with (fail)
    have hm := heap_alloc_new w10 (.cells #[.slice A4 n c4, .slice A5 n' c5] 26 (0, 0))
    have l4 := HR4.out.len
    have l5 := HR5.out.len
    have bb := (Below.refl w10.heap.size w10).alloc (Nat.le_refl _) (.cells #[.slice A4 n c4, .slice A5 n' c5] 26 (0, 0))
    refine (concat2r6 (B := w5.heap.size) (b0 := L4.map slV) (b1 := L5.map slV) hm (by rw [World.size_alloc]; omega) ((HR4.out.1.below (bb.mono (by omega))).more (by omega)) (HR5.out.1.below (bb.mono (by omega))) (by omega) (fun u hu => by
      rcases List.mem_append.1 hu with h | h
      · obtain ⟨x, _, rfl⟩ := List.mem_map.1 h
        rfl
      · obtain ⟨x, _, rfl⟩ := List.mem_map.1 h
        rfl)).mono ?_
    rintro e w11 ⟨A11, c11, rfl, hown11, hb11⟩
    have e11 : (L4.map slV ++ L5.map slV).length = n + n' := by rw [List.length_append, List.length_map, List.length_map, l4, l5]
    rw [e11] at hown11 ⊢
    have bt := bb.trans (hb11.mono (by rw [World.size_alloc]; omega))
    have hz11 := bt.size
    have r7 := HR7.out.below (bt.mono (by omega))
    have r45 : RowsAt w11 w11.heap.size A11 (n + n') (L4 ++ L5) := by
      refine ⟨by rw [List.map_append]; exact Reads.of_own hown11, fun x hx => ?_⟩
      rcases List.mem_append.1 hx with h | h
      · exact ((HR4.out.2 x h).below (bt.mono (by omega))).more (by omega)
      · exact ((HR5.out.2 x h).below (bt.mono (by omega))).more (by omega)
    have b45 : bytesOf (L4 ++ L5) = qs ++ qs' := by
      have h1 := HL4.out
      have h2 := HL5.out
      unfold bytesOf at h1 h2 ⊢
      rw [List.map_append, h1, h2]
    have hqq : ∀ p ∈ qs ++ qs', p.length ≤ 40 := fun p hp => by
      rcases List.mem_append.1 hp with h | h
      · exact HB.out p h
      · exact HB'.out p h
    have a1 : ∀ x ∈ L7, x.2.1 ≤ 1000000000 := rows_small r7 fun p hp => hqq p (by rw [HL7.out] at hp; exact hp)
    have a2 : ∀ x ∈ L4 ++ L5, x.2.1 ≤ 1000000000 := rows_small r45 fun p hp => hqq p (by rw [b45] at hp; exact hp)
    have a3 : decide (bytesOf L7 = bytesOf (L4 ++ L5)) = true := decide_eq_true (by rw [HL7.out, b45])
    have HBT := Lib.hid (HB10.out.trans (bt.mono (by omega)))
    have R7 := Lib.hid r7
    have R45 := Lib.hid r45
    have a1 := Lib.hid a1
    have a2 := Lib.hid a2
    have a3 := Lib.hid a3
    clear hm l4 l5 bb hown11 hb11 e11 bt r7 r45 b45 hqq
    go_wp2_with (fail)
    refine (eqRows true A7 A11 (n + n') c7 (n + n') c11 _ _ L7 (L4 ++ L5) w11 R7.out R45.out a1.out a2.out a3.out (by omega)).mono ?_
    rintro e w12 ⟨rfl, q, rfl⟩
    go_wp2_with (fail)
    go_ret
    exact ⟨rfl, bdrewN HBT.out q⟩
  · go_enter Tryd.func8, Tryd.ntmps8
    go_wp2_with (fail)
    refine (awake6_any w hn).mono ?_
    rintro e w1 ⟨rfl, hb1⟩
    clear hn
    by_cases h1 : n ≤ 8
    · have g1 : decide ((8 : Int) < (n : Int)) = false := decide_eq_false (by omega)
      have g2 : decide ((8 : Int) < (n' : Int)) = true := decide_eq_true (by omega)
      clear hbig
      go_wp2_with (fail)
      go_ret
      exact ⟨rfl, hb1⟩
    · have g1 : decide ((8 : Int) < (n : Int)) = true := decide_eq_true (by omega)
      clear hbig
      go_wp2_with (fail)
      go_ret
      exact ⟨rfl, hb1⟩
end Go.Proofs.YtocgfcboigiigaaDoor
