/- selionlaw04.DiskMoves answers true, whatever the bytes, the bits. Condition: the package's variable 'none' holds what its text lays. -/
import Derived.Test.YtgonklbjbgekoaaDoorLawKeeps
import Derived.Test.YtgonklbjbgekoaaDoorEqualS
namespace Go.Proofs.YtgonklbjbgekoaaDoor
open Go Go.Proofs Go.RowKit

/-- Two files. -/
def twoF (k : FName) (x : List UInt8 × Nat) (k' : FName) (y : List UInt8 × Nat) : Files := putF (oneF k x) k' y
theorem twoF_same (k k' : FName) (x y) : twoF k x k' y k' = some y := putF_same _ _ _
theorem twoF_put (k k' : FName) (x y z) : putF (twoF k x k' y) k' z = twoF k x k' z := putF_twice _ _ _ _
theorem oneF_other {k k' : FName} (x) (h : k' ≠ k) : oneF k x k' = none := putF_other _ _ h
theorem twoF_new {k k' : FName} (x) (h : k' ≠ k) (news : List UInt8) : putF (oneF k x) k' (dataF (oneF k x) k' ++ news, keptF (oneF k x) k') = twoF k x k' (news, 0) := by
  have e1 : dataF (oneF k x) k' = [] := by simp [dataF, oneF_other x h]
  have e2 : keptF (oneF k x) k' = 0 := by simp [keptF, oneF_other x h]
  rw [e1, e2]
  rfl
theorem twoF_append (k k' : FName) (x) (bs news : List UInt8) (kept : Nat) : putF (twoF k x k' (bs, kept)) k' (dataF (twoF k x k' (bs, kept)) k' ++ news, keptF (twoF k x k' (bs, kept)) k') = twoF k x k' (bs ++ news, kept) := by
  rw [twoF_put, dataF_of (twoF_same k k' x _), keptF_of (twoF_same k k' x _)]
theorem twoF_move (k k' : FName) (x y) : putF (delF_ (twoF k x k' y) k') k y = oneF k y := funext fun z => by
  unfold putF delF_ twoF oneF putF
  split
  · rfl
  · split
    · rfl
    · simp_all
theorem dsMoveNone (B : Nat) (C : Nat → Prop) (nb a pw t : Nat) (l u room : Int) (F : Files) (k k' : Txt) (w : World) (h : DS B w C nb a pw l u room F t) (hk : k.length ≤ maxLen) (hF : F k = none) :
    Calls Tryd.prog 23 #[.pointer (some ⟨a, 0, none⟩), txt k, txt k'] w fun e w' => e = .returned (.int .i64 4) ∧ w' = w := by
  obtain ⟨N, hN, hd⟩ := h.disk
  exact moveNone C N a pw room F k k' w hd hk hF
theorem oneF_some (k : FName) (x) : ∀ y, (oneF k x y).isSome = true ↔ y = k := fun y => by
  unfold oneF putF
  split <;> simp [*]
set_option maxHeartbeats 8000000 in
set_option maxRecDepth 10000 in
theorem moves_any (A0 A1 A2 : Option Addr) (n0 c0 n1 c1 n2 c2 bits : Nat) (b0 b1 b2 : List UInt8) (w : World) (hn : NoneLaid w) (h0 : Reads w w.heap.size 1 A0 n0 (bv b0)) (h1 : Reads w w.heap.size 1 A1 n1 (bv b1)) (h2 : Reads w w.heap.size 1 A2 n2 (bv b2)) (hm0 : n0 ≤ 140737488355328) (hm1 : n1 ≤ 140737488355328) (hm2 : n2 ≤ 140737488355328) (hbits : bits < 2 ^ 64) :
    Calls Tryd.prog 12 #[.slice A0 n0 c0, .slice A1 n1 c1, .slice A2 n2 c2, .int .u64 bits] w fun e w' => e = .returned (.bool true) ∧ Below w.heap.size w w' := by
  have hl0 : b0.length = n0 := by have := h0.1; rw [bv_length] at this; omega
  have hl1 : b1.length = n1 := by have := h1.1; rw [bv_length] at this; omega
  have hl2 : b2.length = n2 := by have := h2.1; rw [bv_length] at this; omega
  have H0 := Lib.hid h0
  have H1 := Lib.hid h1
  have H2 := Lib.hid h2
  have HL0 := Lib.hid hl0
  have HL1 := Lib.hid hl1
  have HL2 := Lib.hid hl2
  clear h0 h1 h2 hl0 hl1 hl2
  by_cases hbig : n0 + n1 + n2 ≤ 300
  · have hg : decide ((300 : Int) < (n0 : Int) + (n1 : Int) + (n2 : Int)) = false := decide_eq_false (by omega)
    go_enter Tryd.func12, Tryd.ntmps12
    go_wp2_with (fail)
    refine (awake4_any w hn).mono ?_
    rintro e w1 ⟨rfl, hb1⟩
    clear hn
    go_wp2_with (fail)
    refine (dsNew 1000 w1 (by omega) (by omega)).mono ?_
    rintro e w2 ⟨C2, a, pw, rfl, hd2, hb2⟩
    have hB := hb1.size
    have HB2 := Lib.hid (hb1.trans (hb2.mono hB))
    clear hg hb2
    go_wp2_with (fail)
    refine (dsAppendArg _ C2 0 a pw 0 (-1) 0 1000 _ [111, 108, 100] b2 A2 n2 c2 w w2 hd2 (by omega) (.inl (by omega)) (by decide) (by omega) H2.out HB2.out hB).mono ?_
    rintro e w3 ⟨rfl, C3, hd3, _, _, hb3⟩
    have HD3 : Hid (DS w1.heap.size w3 C3 1 a pw (-1) 1 1000 (oneF [111, 108, 100] (b2, 0)) (0 + n2)) := Lib.hid hd3
    have HB3 := Lib.hid (HB2.out.trans (hb3.mono hB))
    clear hd2 hd3 hb3
    go_wp2_with (fail)
    refine (dsSync _ C3 1 a pw _ (-1) 1 1000 _ [111, 108, 100] b2 0 w3 HD3.out (by omega) (.inl (by omega)) (by decide) (oneF_same _ _)).mono ?_
    rintro e w4 ⟨rfl, C4, hd4, _, _, hb4⟩
    rw [oneF_put] at hd4
    have HD4 : Hid (DS w1.heap.size w4 C4 2 a pw (-1) 2 1000 (oneF [111, 108, 100] (b2, b2.length)) (0 + n2)) := Lib.hid hd4
    have HB4 := Lib.hid (HB3.out.trans (hb4.mono hB))
    clear hd4 hb4
    go_wp2_with (fail)
    refine (dsAppendArg _ C4 2 a pw _ (-1) 2 1000 _ [110, 101, 119] b0 A0 n0 c0 w w4 HD4.out (by omega) (.inl (by omega)) (by decide) (by omega) H0.out HB4.out hB).mono ?_
    rintro e w5 ⟨rfl, C5, hd5, _, _, hb5⟩
    rw [twoF_new _ (by decide)] at hd5
    have HD5 : Hid (DS w1.heap.size w5 C5 3 a pw (-1) 3 1000 (twoF [111, 108, 100] (b2, b2.length) [110, 101, 119] (b0, 0)) (0 + n2 + n0)) := Lib.hid hd5
    have HB5 := Lib.hid (HB4.out.trans (hb5.mono hB))
    clear hd5 hb5 HD3 HD4
    go_wp2_with (fail)
    refine (dsSync _ C5 3 a pw _ (-1) 3 1000 _ [110, 101, 119] b0 0 w5 HD5.out (by omega) (.inl (by omega)) (by decide) (twoF_same _ _ _ _)).mono ?_
    rintro e w6 ⟨rfl, C6, hd6, _, _, hb6⟩
    rw [twoF_put] at hd6
    have HD6 : Hid (DS w1.heap.size w6 C6 4 a pw (-1) 4 1000 (twoF [111, 108, 100] (b2, b2.length) [110, 101, 119] (b0, b0.length)) (0 + n2 + n0)) := Lib.hid hd6
    have HB6 := Lib.hid (HB5.out.trans (hb6.mono hB))
    clear hd6 hb6 HD5
    go_wp2_with (fail)
    refine (dsAppendArg _ C6 4 a pw _ (-1) 4 1000 _ [110, 101, 119] b1 A1 n1 c1 w w6 HD6.out (by omega) (.inl (by omega)) (by decide) (by omega) H1.out HB6.out hB).mono ?_
    rintro e w7 ⟨rfl, C7, hd7, _, _, hb7⟩
    rw [twoF_append] at hd7
    have HD7 : Hid (DS w1.heap.size w7 C7 5 a pw (-1) 5 1000 (twoF [111, 108, 100] (b2, b2.length) [110, 101, 119] (b0 ++ b1, b0.length)) (0 + n2 + n0 + n1)) := Lib.hid hd7
    have HB7 := Lib.hid (HB6.out.trans (hb7.mono hB))
    clear hd7 hb7 HD6
    go_wp2_with (fail)
    refine (dsMove _ C7 5 a pw _ (-1) 5 1000 _ [110, 101, 119] [111, 108, 100] (b0 ++ b1) b0.length w7 HD7.out (by omega) (.inl (by omega)) (by decide) (by decide) (twoF_same _ _ _ _)).mono ?_
    rintro e w8 ⟨rfl, C8, hd8, _, _, hb8⟩
    rw [twoF_move] at hd8
    obtain ⟨t8, ht8⟩ : ∃ t8, t8 = 0 + n2 + n0 + n1 - lenF (twoF [111, 108, 100] (b2, b2.length) [110, 101, 119] (b0 ++ b1, b0.length)) [110, 101, 119] - lenF (delF_ (twoF [111, 108, 100] (b2, b2.length) [110, 101, 119] (b0 ++ b1, b0.length)) [110, 101, 119]) [111, 108, 100] + (b0 ++ b1).length := ⟨_, rfl⟩
    rw [← ht8] at hd8
    have HD8 : Hid (DS w1.heap.size w8 C8 6 a pw (-1) 6 1000 (oneF [111, 108, 100] (b0 ++ b1, b0.length)) t8) := Lib.hid hd8
    have HB8 := Lib.hid (HB7.out.trans (hb8.mono hB))
    clear hd8 hb8 HD7 ht8
    go_wp2_with (fail)
    refine (dsMoveNone _ C8 _ a pw _ _ _ _ _ [110, 101, 119] [111, 108, 100] w8 HD8.out (by decide) (oneF_other _ (by decide))).mono ?_
    rintro e w9 ⟨rfl, hw9⟩
    subst hw9
    go_wp2_with (fail)
    refine (dsNames _ C8 _ a pw _ _ _ _ _ _ HD8.out).mono ?_
    rintro e wa ⟨v, L, Aa, ca, hL, _, rfl, rfl, howna, hba⟩
    obtain rfl := namesOne _ [111, 108, 100] (oneF_some [111, 108, 100] _) L hL
    have hra : RowW wa 9 (.slice Aa 1 ca) 1 [txt [111, 108, 100]] := RowW.of_owns howna
    have hda := HD8.out.below hba
    have HBa := Lib.hid (HB8.out.trans (hba.mono HB8.out.size))
    have hbb := (Below.refl wa.heap.size wa).alloc (Nat.le_refl _) (.cells #[.string ⟨#[111, 108, 100]⟩] 9 (0, 0))
    have hrb : Reads (wa.alloc (.cells #[.string ⟨#[111, 108, 100]⟩] 9 (0, 0))) (wa.alloc (.cells #[.string ⟨#[111, 108, 100]⟩] 9 (0, 0))).heap.size 1 (some ⟨wa.heap.size, 0, none⟩) 1 ([[111, 108, 100]].map txt) := by
      refine ⟨rfl, fun _ => ⟨_, rfl, by simp, fun j u hj => ?_⟩⟩
      match j, hj with
      | 0, hj =>
        obtain rfl := Option.some.inj hj
        rw [show (⟨wa.heap.size, 0, none⟩ : Addr).add 0 = ⟨wa.heap.size, 0, none⟩ from rfl, cell_of_row _ _ _ _ _ _ (heap_alloc_new wa _)]
        rfl
    have HEQ := Lib.hid (equalS true Aa (some ⟨wa.heap.size, 0, none⟩) 1 ca 1 1 _ _ [[111, 108, 100]] [[111, 108, 100]] _ (hra.alloc _).reads hrb (by omega) (by omega) (by decide))
    have hdb := hda.below hbb
    have HBb := Lib.hid (HBa.out.trans (hbb.mono HBa.out.size))
    have HDb := Lib.hid hdb
    clear hdb hrb hbb hda hra howna hba hL HD8 HB8 HBa
    go_wp2_with (fail)
    refine HEQ.out.mono ?_
    rintro e wc ⟨rfl, hbc⟩
    have HDc := Lib.hid (HDb.out.below hbc)
    have HBc := Lib.hid (HBb.out.trans (hbc.mono HBb.out.size))
    clear HDb HBb HEQ hbc
    go_wp2_with (fail)
    refine (dsKept _ C8 _ a pw t8 _ _ _ _ [111, 108, 100] wc HDc.out (by decide)).mono ?_
    rintro e wd ⟨rfl, hwd⟩
    subst hwd
    rw [keptF_of (oneF_same _ _), HL0.out]
    have hlab : (b0 ++ b1).length = n0 + n1 := by rw [List.length_append, HL0.out, HL1.out]
    obtain ⟨N, hN⟩ : ∃ N, N = n0 + n1 := ⟨_, rfl⟩
    rw [← hN] at hlab
    have HN := Lib.hid hN
    have hNb : N ≤ 300 := by omega
    clear hN
    have hne : ((n0 : Int) != (n0 : Int)) = false := by simp
    go_wp2_with (fail)
    refine (dsReadN N _ C8 _ a pw t8 _ _ _ _ [111, 108, 100] (b0 ++ b1) b0.length wd HDc.out (by decide) (oneF_same _ _) hlab).mono ?_
    rintro e we ⟨Ae, ce, rfl, hrowe, howne, hbe⟩
    have HDe := Lib.hid (HDc.out.below hbe)
    have HBe := Lib.hid (HBc.out.trans (hbe.mono HBc.out.size))
    have hce : ∀ g, (Value.slice Ae N ce).ownBlock = some g → ¬ C8 g := fun g hg h => by
      have h1 := howne g hg
      have h2 := HDc.out.lt g (.inl h)
      omega
    have HCE := Lib.hid hce
    have HRe := Lib.hid hrowe
    clear hce hrowe howne hbe HDc HBc hlab hne
    go_wp2_with (fail)
    refine (choice4 bits we).mono ?_
    rintro e v1 ⟨rfl, hcell, hbv1, hz1⟩
    have hdv1 := HDe.out.below hbv1
    have hnc : ¬ C8 we.heap.size := fun h => by have := HDe.out.lt _ (.inl h); omega
    have hA := asksChoice we.heap.size bits C8 (oneF [111, 108, 100] (b0 ++ b1, b0.length)) v1 hcell hbits hnc
    have heg := hA.eg
    have HB1 := Lib.hid (HBe.out.trans (hbv1.mono HBe.out.size))
    have HRe1 := Lib.hid (HRe.out.below hbv1)
    clear hz1
    go_wp2_with (fail)
    refine (dsCrash _ _ _ C8 _ _ a pw _ _ _ _ _ (chB bits) _ v1 hdv1 hA (fun h => h) (chB_le bits)).mono ?_
    rintro e v2 ⟨rfl, ⟨t2, _, hdv2⟩, _, hmv2⟩
    rw [oneF_crash] at hdv2
    obtain ⟨m, hmm1, hmm2, hcr⟩ := crash1_form bits [111, 108, 100] (b0 ++ b1) b0.length (by simp)
    rw [hcr] at hdv2
    rw [List.length_append, HL0.out, HL1.out] at hmm2
    rw [HL0.out] at hmm1
    have HV2 := Lib.hid (HB1.out.trans ((hdv1.keeps (hmv2.mono fun _ _ h => .inl (h.resolve_right id))).mono hB))
    have HDV2 := Lib.hid hdv2
    have HRv2 := Lib.hid (HRe1.out.mod hmv2 (fun g hg h => HCE.out g hg (h.resolve_right id)))
    clear hA heg hdv1 hmv2 hdv2 hcr hcell hnc hbv1 HDe HBe HB1 HRe HRe1
    have hlen : ((b0 ++ b1).take m).length = m := by rw [List.length_take, List.length_append, HL0.out, HL1.out]; omega
    go_wp2_with (fail)
    refine (dsReadN m _ C8 _ a pw t2 _ _ _ _ [111, 108, 100] ((b0 ++ b1).take m) m v2 HDV2.out (by decide) (oneF_same _ _) hlen).mono ?_
    rintro e v3 ⟨A3, c3, rfl, hrow3, hown3, hb3⟩
    have HV3 := Lib.hid (HV2.out.trans (hb3.mono HV2.out.size))
    have HR3 := Lib.hid hrow3
    have HRv3 := Lib.hid (HRv2.out.below hb3)
    clear hrow3 hown3 hb3 HDV2 hlen HRv2
    have hb4 := (Below.refl v3.heap.size v3).alloc (Nat.le_refl _) (.cells #[.slice A0 n0 c0, .slice A1 n1 c1] 22 (0, 0))
    have HV4 := Lib.hid (HV3.out.trans (hb4.mono HV3.out.size))
    have HC := concat2 (g := v3.heap.size) (c := 2) (heap_alloc_new v3 (.cells #[.slice A0 n0 c0, .slice A1 n1 c1] 22 (0, 0))) HV4.out.size (reads_below H0.out HV4.out) (reads_below H1.out HV4.out) (by omega)
    rw [← HN.out] at HC
    have hmN : m ≤ N := by have := HN.out; omega
    have HC := Lib.hid HC
    go_wp2_with (fail)
    refine HC.out.mono ?_
    rintro e v5 ⟨A5, c5, rfl, hrow5, hown5, hb5⟩
    have hr3 := (HR3.out.alloc _).below hb5
    have hr5 := (HRv3.out.alloc _).below hb5
    have HV5 := Lib.hid (HV4.out.trans (hb5.mono HV4.out.size))
    have hc5 : N ≤ c5 := by
      obtain ⟨_, _, e5, h5⟩ := hrow5.form
      injection e5 with _ _ e5'
      omega
    have HEQ1 := Lib.hid (equalB true Ae A5 N ce N c5 _ _ _ _ v5 hr5.reads hrow5.reads (by omega) (by omega) (decide_eq_true rfl))
    clear hr5 HRv3 HC hb4
    go_wp2_with (fail)
    refine HEQ1.out.mono ?_
    rintro e v6 ⟨rfl, hb6⟩
    have HV6 := Lib.hid (HV5.out.trans (hb6.mono HV5.out.size))
    have hcut := ((hrow5.below hb6).cut (k := m) (by omega) rfl).reads
    rw [← bv_take] at hcut
    have HEQ := Lib.hid (fun c' => equalB true A3 A5 m c3 m c' _ _ _ _ v6 (hr3.below hb6).reads hcut (by omega) (by omega) (decide_eq_true rfl))
    have hi1 : (n0 : Int) ≤ (m : Int) := by omega
    have hi2 : (m : Int) ≤ (N : Int) := by omega
    have hi3 : m ≤ c5 := by omega
    have hi4 : (m : Int) ≤ (c5 : Int) := by omega
    have hnone : Hid (A5 = none → m = 0) := Lib.hid fun h => by
      rcases hrow5.2 with ⟨_, h'⟩ | ⟨g, cap, cur, h', _⟩
      · omega
      · rw [h] at h'; cases h'
    clear hr3 hrow5 hown5 hb5 hcut HR3 HV3 HV2 HV4 HEQ1
    cases A5 with
    | none =>
      obtain rfl := hnone.out rfl
      obtain rfl : n0 = 0 := by omega
      go_wp2_with (go_at_call 19; refine (HEQ.out _).mono ?_; rintro e v7 ⟨rfl, hb7⟩)
      go_ret
      exact ⟨by simp, HV6.out.trans (hb7.mono HV6.out.size)⟩
    | some ad =>
      go_wp2_with (go_at_call 19; refine (HEQ.out _).mono ?_; rintro e v7 ⟨rfl, hb7⟩)
      go_ret
      exact ⟨by simp, HV6.out.trans (hb7.mono HV6.out.size)⟩
  · have hg : decide ((300 : Int) < (n0 : Int) + (n1 : Int) + (n2 : Int)) = true := decide_eq_true (by omega)
    go_enter Tryd.func12, Tryd.ntmps12
    go_wp2_with (fail)
    refine (awake4_any w hn).mono ?_
    rintro e w1 ⟨rfl, hb1⟩
    clear hn
    go_wp2_with (fail)
    go_ret
    exact ⟨rfl, hb1⟩
end Go.Proofs.YtgonklbjbgekoaaDoor
