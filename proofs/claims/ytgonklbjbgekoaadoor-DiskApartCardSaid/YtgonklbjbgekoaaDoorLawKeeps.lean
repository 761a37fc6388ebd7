/- selionlaw04.DiskKeeps answers true, whatever the bytes, the bits. Condition: the package's variable 'none' holds what its text lays. -/
import Derived.Test.YtgonklbjbgekoaaDoorAwake4
namespace Go.Proofs.YtgonklbjbgekoaaDoor
open Go Go.Proofs Go.RowKit

/-- One file alone. -/
def oneF (k : FName) (x : List UInt8 × Nat) : Files := putF (fun _ => none) k x
theorem oneF_same (k : FName) (x) : oneF k x k = some x := putF_same _ _ _
theorem oneF_put (k : FName) (x y) : putF (oneF k x) k y = oneF k y := putF_twice _ _ _ _
theorem oneF_append (k : FName) (bs news : List UInt8) (kept : Nat) : putF (oneF k (bs, kept)) k (dataF (oneF k (bs, kept)) k ++ news, keptF (oneF k (bs, kept)) k) = oneF k (bs ++ news, kept) := by
  rw [oneF_put, dataF_of (oneF_same k _), keptF_of (oneF_same k _)]
theorem oneF_del (k : FName) (x) : delF_ (oneF k x) k = fun _ => none := funext fun y => by
  unfold delF_ oneF putF
  split <;> rfl
theorem oneF_move (k k' : FName) (x) : putF (delF_ (oneF k x) k) k' x = oneF k' x := by rw [oneF_del]; rfl
theorem oneF_crash (k : FName) (x) (ch) : crashF (oneF k x) ch = oneF k (crash1 ch k x) := funext fun y => by
  unfold crashF oneF putF
  split
  · rename_i h; subst h; rfl
  · rfl
theorem crash1_form (b : Nat) (k : Txt) (bs : List UInt8) (kept : Nat) (h : kept ≤ bs.length) : ∃ m, kept ≤ m ∧ m ≤ bs.length ∧ crash1 (chB b) k (bs, kept) = (bs.take m, m) := by
  refine ⟨kept + chB b k (bs.length - kept) % (bs.length - kept + 1), by omega, ?_, rfl⟩
  have := Nat.mod_lt (chB b k (bs.length - kept)) (show 0 < bs.length - kept + 1 by omega)
  omega
theorem reads_below {w w' : World} {B n : Nat} {A : Option Addr} {xs : List Value} (h : Reads w B 1 A n xs) (hb : Below B w w') : Reads w' B 1 A n xs :=
  ⟨h.1, fun hn => by
    obtain ⟨a, h1, h2, h3⟩ := h.2 hn
    exact ⟨a, h1, h2, fun j u hj => by rw [hb.cell (p := a.add j) (by rw [block_of_add]; exact h2)]; exact h3 j u hj⟩⟩
/-- Bytes that lay there before the disk was made are appended. -/
theorem dsAppendArg (B : Nat) (C : Nat → Prop) (nb a pw t : Nat) (l u room : Int) (F : Files) (k : Txt) (news : List UInt8) (A : Option Addr) (n c : Nat) (w0 w : World) (h : DS B w C nb a pw l u room F t) (hnb : nb < 1000000) (hl : l < 0 ∨ u < l) (hk : k.length ≤ maxLen)
    (hroom : (t : Int) + n ≤ room) (hrd : Reads w0 w0.heap.size 1 A n (bv news)) (hb : Below w0.heap.size w0 w) (hB : w0.heap.size ≤ B) :
    Calls Tryd.prog 17 #[.pointer (some ⟨a, 0, none⟩), txt k, .slice A n c] w (RetDS w B C (nb + 1) a pw l (u + 1) room (putF F k (dataF F k ++ news, keptF F k)) (t + n) (.int .i64 0)) :=
  dsAppend B w0.heap.size C nb a pw t l u room F k news A n c w h hnb hl hk hroom (reads_below hrd hb) hb.size fun g hg hn => by
    obtain ⟨ad, h1, h2, _⟩ := hrd.2 hn
    rw [h1] at hg
    have hg' : ad.block = g := by simpa using hg
    refine ⟨fun h' => ?_, fun h' => ?_⟩
    · have := h.base g h'; omega
    · have := h.pbase; omega
/-- Two slices, one behind the other, are joined. -/
theorem concat2 {w : World} {g c B n0 n1 c0 c1 : Nat} {A0 A1 : Option Addr} {b0 b1 : List UInt8} (hg : w.heap[g]? = some (.cells #[.slice A0 n0 c0, .slice A1 n1 c1] 22 (0, 0))) (hB : B ≤ w.heap.size) (h0 : Reads w B 1 A0 n0 (bv b0)) (h1 : Reads w B 1 A1 n1 (bv b1)) (hn : n0 + n1 ≤ 1000000000) :
    Calls Tryd.prog 43 #[.slice (some ⟨g, 0, none⟩) 2 c] w fun e w' => ∃ A c, e = .returned (.slice A (n0 + n1) c) ∧ RowW w' 5 (.slice A (n0 + n1) c) (n0 + n1) (bv (b0 ++ b1)) ∧ (∀ g, (Value.slice A (n0 + n1) c).ownBlock = some g → w.heap.size ≤ g) ∧ Below w.heap.size w w' := by
  have hl0 : b0.length = n0 := by have := h0.1; rw [bv_length] at this; omega
  have hl1 : b1.length = n1 := by have := h1.1; rw [bv_length] at this; omega
  have h := concatB g c 2 B [(A0, n0, c0, b0), (A1, n1, c1, b1)] w rfl (by omega) (lt_of_heap hg) hB (fun j x hx => by
    rw [cell_of_blk hg]
    match j, hx with
    | 0, hx => obtain rfl := Option.some.inj hx; rfl
    | 1, hx => obtain rfl := Option.some.inj hx; rfl) (fun x hx => by
    simp only [List.mem_cons, List.not_mem_nil, or_false] at hx
    rcases hx with rfl | rfl
    · exact h0
    · exact h1) (by simp [totB]; omega)
  refine h.mono ?_
  rintro e w' ⟨A, c, rfl, h2, h3⟩
  have e1 : flatB [(A0, n0, c0, b0), (A1, n1, c1, b1)] = b0 ++ b1 := by simp [flatB]
  rw [e1, List.length_append, hl0, hl1] at h2 ⊢
  exact ⟨A, c, rfl, RowW.of_owns h2, owns_new_block h2, h3⟩
/-- Read: the file has n bytes. -/
theorem dsReadN (n B : Nat) (C : Nat → Prop) (nb a pw t : Nat) (l u room : Int) (F : Files) (k : Txt) (bs : List UInt8) (kept : Nat) (w : World) (h : DS B w C nb a pw l u room F t) (hk : k.length ≤ maxLen) (hF : F k = some (bs, kept)) (hn : bs.length = n) :
    Calls Tryd.prog 18 #[.pointer (some ⟨a, 0, none⟩), txt k] w fun e w' => ∃ A c, e = .returned (.tuple #[.slice A n c, .bool true]) ∧ RowW w' 5 (.slice A n c) n (bv bs) ∧ (∀ g, (Value.slice A n c).ownBlock = some g → w.heap.size ≤ g) ∧ Below w.heap.size w w' := by
  subst hn
  refine (dsRead B C nb a pw t l u room F k bs kept w h hk hF).mono ?_
  rintro e w' ⟨v, A, c, rfl, rfl, h1, h2, h3⟩
  exact ⟨A, c, rfl, h1, h2, h3⟩
theorem RowW.below {w w' : World} {e : TypeId} {v : Value} {n : Nat} {xs : List Value} (h : RowW w e v n xs) (hb : Below w.heap.size w w') : RowW w' e v n xs := h.mod (F := fun _ => False) (Mod.of_below hb) (fun _ _ h => h)
/-- The two slices are read as they were. -/
theorem sep_old {w0 w : World} {B nb a pw t n : Nat} {C : Nat → Prop} {l u room : Int} {F : Files} {A : Option Addr} {xs : List Value} (hr : Reads w0 w0.heap.size 1 A n xs) (h : DS B w C nb a pw l u room F t) (hB : w0.heap.size ≤ B) : ∀ g, A.map (·.block) = some g → 0 < n → ¬ C g ∧ g ≠ pw := fun g hg hn => by
  obtain ⟨ad, h1, h2, _⟩ := hr.2 hn
  rw [h1] at hg
  have hg' : ad.block = g := by simpa using hg
  refine ⟨fun h' => ?_, fun h' => ?_⟩
  · have := h.base g h'; omega
  · have := h.pbase; omega
set_option maxHeartbeats 8000000 in
set_option maxRecDepth 10000 in
/-- The law's end: the file is called k, and holds the first bytes, m of them. -/
theorem keeps_any (A0 A1 : Option Addr) (n0 c0 n1 c1 bits : Nat) (b0 b1 : List UInt8) (mv : Bool) (w : World) (hn : NoneLaid w) (h0 : Reads w w.heap.size 1 A0 n0 (bv b0)) (h1 : Reads w w.heap.size 1 A1 n1 (bv b1)) (hm0 : n0 ≤ 140737488355328) (hm1 : n1 ≤ 140737488355328) (hbits : bits < 2 ^ 64) :
    Calls Tryd.prog 11 #[.slice A0 n0 c0, .slice A1 n1 c1, .int .u64 bits, .bool mv] w fun e w' => e = .returned (.bool true) ∧ Below w.heap.size w w' := by
  have hl0 : b0.length = n0 := by have := h0.1; rw [bv_length] at this; omega
  have hl1 : b1.length = n1 := by have := h1.1; rw [bv_length] at this; omega
  have H0 := Lib.hid h0
  have H1 := Lib.hid h1
  have HL0 := Lib.hid hl0
  have HL1 := Lib.hid hl1
  clear h0 h1 hl0 hl1
  by_cases hbig : n0 + n1 ≤ 300
  · have hg : decide ((300 : Int) < (n0 : Int) + (n1 : Int)) = false := decide_eq_false (by omega)
    go_enter Tryd.func11, Tryd.ntmps11
    go_wp2_with (fail)
    refine (awake4_any w hn).mono ?_
    rintro e w1 ⟨rfl, hb1⟩
    clear hn
    go_wp2_with (fail)
    refine (dsNew 1000 w1 (by omega) (by omega)).mono ?_
    rintro e w2 ⟨C2, a, pw, rfl, hd2, hb2⟩
    have hB := hb1.size
    have HB2 := Lib.hid (hb1.trans (hb2.mono hB))
    clear hg hb2
    go_wp2_with (fail)
    refine (dsAppendArg _ C2 0 a pw 0 (-1) 0 1000 _ [120] b0 A0 n0 c0 w w2 hd2 (by omega) (.inl (by omega)) (by decide) (by omega) H0.out HB2.out hB).mono ?_
    rintro e w3 ⟨rfl, C3, hd3, _, _, hb3⟩
    have HD3 : Hid (DS w1.heap.size w3 C3 1 a pw (-1) 1 1000 (oneF [120] (b0, 0)) (0 + n0)) := Lib.hid hd3
    have HB3 := Lib.hid (HB2.out.trans (hb3.mono hB))
    clear hd2 hd3 hb3
    go_wp2_with (fail)
    refine (dsSync _ C3 1 a pw _ (-1) 1 1000 _ [120] b0 0 w3 HD3.out (by omega) (.inl (by omega)) (by decide) (oneF_same _ _)).mono ?_
    rintro e w4 ⟨rfl, C4, hd4, _, _, hb4⟩
    rw [oneF_put] at hd4
    have HD4 : Hid (DS w1.heap.size w4 C4 2 a pw (-1) 2 1000 (oneF [120] (b0, b0.length)) (0 + n0)) := Lib.hid hd4
    have HB4 := Lib.hid (HB3.out.trans (hb4.mono hB))
    clear hd4 hb4
    go_wp2_with (fail)
    refine (dsAppendArg _ C4 2 a pw _ (-1) 2 1000 _ [120] b1 A1 n1 c1 w w4 HD4.out (by omega) (.inl (by omega)) (by decide) (by omega) H1.out HB4.out hB).mono ?_
    rintro e w5 ⟨rfl, C5, hd5, _, _, hb5⟩
    rw [oneF_append] at hd5
    have HD5 : Hid (DS w1.heap.size w5 C5 3 a pw (-1) 3 1000 (oneF [120] (b0 ++ b1, b0.length)) (0 + n0 + n1)) := Lib.hid hd5
    have HB5 := Lib.hid (HB4.out.trans (hb5.mono hB))
    clear hd5 hb5 HD3 HD4
    cases mv with
    | false =>
      go_wp2_with (fail)
      refine (choice4 bits w5).mono ?_
      rintro e v1 ⟨rfl, hcell, hbv1, hz1⟩
      have hdv1 := HD5.out.below hbv1
      have hnc : ¬ C5 w5.heap.size := fun h => by have := HD5.out.lt _ (.inl h); omega
      have hA := asksChoice w5.heap.size bits C5 (oneF [120] (b0 ++ b1, b0.length)) v1 hcell hbits hnc
      have heg := hA.eg
      have HB1 := Lib.hid (HB5.out.trans (hbv1.mono HB5.out.size))
      clear hz1
      go_wp2_with (fail)
      refine (dsCrash _ _ _ C5 _ _ a pw _ _ _ _ _ (chB bits) _ v1 hdv1 hA (fun h => h) (chB_le bits)).mono ?_
      rintro e v2 ⟨rfl, ⟨t2, _, hdv2⟩, _, hmv2⟩
      rw [oneF_crash] at hdv2
      obtain ⟨m, hm1, hm2, hcr⟩ := crash1_form bits [120] (b0 ++ b1) b0.length (by simp)
      rw [hcr] at hdv2
      rw [List.length_append, HL0.out, HL1.out] at hm2
      rw [HL0.out] at hm1
      have HV2 := Lib.hid (HB1.out.trans ((hdv1.keeps (hmv2.mono fun _ _ h => .inl (h.resolve_right id))).mono hB))
      have HDV2 := Lib.hid hdv2
      clear hA heg hdv1 hmv2 hdv2 hcr hcell hnc hbv1 HD5 HB5 HB1
      have hlen : ((b0 ++ b1).take m).length = m := by rw [List.length_take, List.length_append, HL0.out, HL1.out]; omega
      go_wp2_with (fail)
      refine (dsReadN m _ C5 _ a pw t2 _ _ _ _ [120] ((b0 ++ b1).take m) m v2 HDV2.out (by decide) (oneF_same _ _) hlen).mono ?_
      rintro e v3 ⟨A3, c3, rfl, hrow3, hown3, hb3⟩
      have HD3 := Lib.hid (HDV2.out.below hb3)
      have HV3 := Lib.hid (HV2.out.trans (hb3.mono HV2.out.size))
      have HR3 := Lib.hid hrow3
      clear hrow3 hown3 hb3 HDV2 hlen
      obtain ⟨N, hN⟩ : ∃ N, N = n0 + n1 := ⟨_, rfl⟩
      have hb4 := (Below.refl v3.heap.size v3).alloc (Nat.le_refl _) (.cells #[.slice A0 n0 c0, .slice A1 n1 c1] 22 (0, 0))
      have HV4 := Lib.hid (HV3.out.trans (hb4.mono HV3.out.size))
      have HC := concat2 (g := v3.heap.size) (c := 2) (heap_alloc_new v3 (.cells #[.slice A0 n0 c0, .slice A1 n1 c1] 22 (0, 0))) HV4.out.size (reads_below H0.out HV4.out) (reads_below H1.out HV4.out) (by omega)
      rw [← hN] at HC
      have HC := Lib.hid HC
      go_wp2_with (fail)
      refine HC.out.mono ?_
      rintro e v5 ⟨A5, c5, rfl, hrow5, hown5, hb5⟩
      have hr3 := ((HR3.out.alloc _).below hb5).reads
      have hd5 := (HD3.out.below hb4).below hb5
      have HV5 := Lib.hid (HV4.out.trans (hb5.mono HV4.out.size))
      have hc5 : N ≤ c5 := by
        obtain ⟨_, _, e5, h5⟩ := hrow5.form
        injection e5 with _ _ e5'
        omega
      have hcut := (hrow5.cut (k := m) (by omega) rfl).reads
      rw [← bv_take] at hcut
      have HEQ := Lib.hid (fun c' => equalB true A3 A5 m c3 m c' _ _ _ _ v5 hr3 hcut (by omega) (by omega) (decide_eq_true rfl))
      have HD5 := Lib.hid hd5
      have hi1 : (n0 : Int) ≤ (m : Int) := by omega
      have hi2 : (m : Int) ≤ (N : Int) := by omega
      have hi3 : m ≤ c5 := by omega
      have hi4 : (m : Int) ≤ (c5 : Int) := by omega
      have hnone : Hid (A5 = none → m = 0) := Lib.hid fun h => by
        rcases hrow5.2 with ⟨_, h'⟩ | ⟨g, cap, cur, h', _⟩
        · omega
        · rw [h] at h'; cases h'
      clear hr3 hd5 hrow5 hown5 hb5 hcut hb4 HC HR3 HD3 HV3 HV2 HV4
      cases A5 with
      | none =>
        obtain rfl := hnone.out rfl
        obtain rfl : n0 = 0 := by omega
        go_wp2_with (first
          | (go_at_call 19; refine (HEQ.out _).mono ?_; rintro e v6 ⟨rfl, hb6⟩; have HK := Lib.hid (dsKept _ C5 _ a pw t2 _ _ _ _ [120] v6 (HD5.out.below hb6) (by decide)))
          | (go_at_call 44; refine HK.out.mono ?_; rintro e v7 ⟨rfl, hv7⟩; rw [keptF_of (oneF_same _ _)]))
        go_ret
        subst hv7
        exact ⟨by simp, HV5.out.trans (hb6.mono HV5.out.size)⟩
      | some ad =>
        go_wp2_with (first
          | (go_at_call 19; refine (HEQ.out _).mono ?_; rintro e v6 ⟨rfl, hb6⟩; have HK := Lib.hid (dsKept _ C5 _ a pw t2 _ _ _ _ [120] v6 (HD5.out.below hb6) (by decide)))
          | (go_at_call 44; refine HK.out.mono ?_; rintro e v7 ⟨rfl, hv7⟩; rw [keptF_of (oneF_same _ _)]))
        go_ret
        subst hv7
        exact ⟨by simp, HV5.out.trans (hb6.mono HV5.out.size)⟩
    | true =>
      go_wp2_with (fail)
      refine (dsMove _ C5 3 a pw _ (-1) 3 1000 _ [120] [121] (b0 ++ b1) b0.length w5 HD5.out (by omega) (.inl (by omega)) (by decide) (by decide) (oneF_same _ _)).mono ?_
      rintro e w6 ⟨rfl, C6, hd6, _, _, hb6⟩
      rw [oneF_move] at hd6
      have HD6 := Lib.hid hd6
      have HB6 := Lib.hid (HB5.out.trans (hb6.mono hB))
      clear hd6 hb6 HD5
      go_wp2_with (fail)
      refine (choice4 bits w6).mono ?_
      rintro e v1 ⟨rfl, hcell, hbv1, hz1⟩
      have hdv1 := HD6.out.below hbv1
      have hnc : ¬ C6 w6.heap.size := fun h => by have := HD6.out.lt _ (.inl h); omega
      have hA := asksChoice w6.heap.size bits C6 (oneF [121] (b0 ++ b1, b0.length)) v1 hcell hbits hnc
      have heg := hA.eg
      have HB1 := Lib.hid (HB6.out.trans (hbv1.mono HB6.out.size))
      clear hz1
      go_wp2_with (fail)
      refine (dsCrash _ _ _ C6 _ _ a pw _ _ _ _ _ (chB bits) _ v1 hdv1 hA (fun h => h) (chB_le bits)).mono ?_
      rintro e v2 ⟨rfl, ⟨t2, _, hdv2⟩, _, hmv2⟩
      rw [oneF_crash] at hdv2
      obtain ⟨m, hm1, hm2, hcr⟩ := crash1_form bits [121] (b0 ++ b1) b0.length (by simp)
      rw [hcr] at hdv2
      rw [List.length_append, HL0.out, HL1.out] at hm2
      rw [HL0.out] at hm1
      have HV2 := Lib.hid (HB1.out.trans ((hdv1.keeps (hmv2.mono fun _ _ h => .inl (h.resolve_right id))).mono hB))
      have HDV2 := Lib.hid hdv2
      clear hA heg hdv1 hmv2 hdv2 hcr hcell hnc hbv1 HD6 HB6 HB1
      have hlen : ((b0 ++ b1).take m).length = m := by rw [List.length_take, List.length_append, HL0.out, HL1.out]; omega
      go_wp2_with (fail)
      refine (dsReadN m _ C6 _ a pw t2 _ _ _ _ [121] ((b0 ++ b1).take m) m v2 HDV2.out (by decide) (oneF_same _ _) hlen).mono ?_
      rintro e v3 ⟨A3, c3, rfl, hrow3, hown3, hb3⟩
      have HD3 := Lib.hid (HDV2.out.below hb3)
      have HV3 := Lib.hid (HV2.out.trans (hb3.mono HV2.out.size))
      have HR3 := Lib.hid hrow3
      clear hrow3 hown3 hb3 HDV2 hlen
      obtain ⟨N, hN⟩ : ∃ N, N = n0 + n1 := ⟨_, rfl⟩
      have hb4 := (Below.refl v3.heap.size v3).alloc (Nat.le_refl _) (.cells #[.slice A0 n0 c0, .slice A1 n1 c1] 22 (0, 0))
      have HV4 := Lib.hid (HV3.out.trans (hb4.mono HV3.out.size))
      have HC := concat2 (g := v3.heap.size) (c := 2) (heap_alloc_new v3 (.cells #[.slice A0 n0 c0, .slice A1 n1 c1] 22 (0, 0))) HV4.out.size (reads_below H0.out HV4.out) (reads_below H1.out HV4.out) (by omega)
      rw [← hN] at HC
      have HC := Lib.hid HC
      go_wp2_with (fail)
      refine HC.out.mono ?_
      rintro e v5 ⟨A5, c5, rfl, hrow5, hown5, hb5⟩
      have hr3 := ((HR3.out.alloc _).below hb5).reads
      have hd5 := (HD3.out.below hb4).below hb5
      have HV5 := Lib.hid (HV4.out.trans (hb5.mono HV4.out.size))
      have hc5 : N ≤ c5 := by
        obtain ⟨_, _, e5, h5⟩ := hrow5.form
        injection e5 with _ _ e5'
        omega
      have hcut := (hrow5.cut (k := m) (by omega) rfl).reads
      rw [← bv_take] at hcut
      have HEQ := Lib.hid (fun c' => equalB true A3 A5 m c3 m c' _ _ _ _ v5 hr3 hcut (by omega) (by omega) (decide_eq_true rfl))
      have HD5 := Lib.hid hd5
      have hi1 : (n0 : Int) ≤ (m : Int) := by omega
      have hi2 : (m : Int) ≤ (N : Int) := by omega
      have hi3 : m ≤ c5 := by omega
      have hi4 : (m : Int) ≤ (c5 : Int) := by omega
      have hnone : Hid (A5 = none → m = 0) := Lib.hid fun h => by
        rcases hrow5.2 with ⟨_, h'⟩ | ⟨g, cap, cur, h', _⟩
        · omega
        · rw [h] at h'; cases h'
      clear hr3 hd5 hrow5 hown5 hb5 hcut hb4 HC HR3 HD3 HV3 HV2 HV4
      cases A5 with
      | none =>
        obtain rfl := hnone.out rfl
        obtain rfl : n0 = 0 := by omega
        go_wp2_with (first
          | (go_at_call 19; refine (HEQ.out _).mono ?_; rintro e v6 ⟨rfl, hb6⟩; have HK := Lib.hid (dsKept _ C6 _ a pw t2 _ _ _ _ [121] v6 (HD5.out.below hb6) (by decide)))
          | (go_at_call 44; refine HK.out.mono ?_; rintro e v7 ⟨rfl, hv7⟩; rw [keptF_of (oneF_same _ _)]))
        go_ret
        subst hv7
        exact ⟨by simp, HV5.out.trans (hb6.mono HV5.out.size)⟩
      | some ad =>
        go_wp2_with (first
          | (go_at_call 19; refine (HEQ.out _).mono ?_; rintro e v6 ⟨rfl, hb6⟩; have HK := Lib.hid (dsKept _ C6 _ a pw t2 _ _ _ _ [121] v6 (HD5.out.below hb6) (by decide)))
          | (go_at_call 44; refine HK.out.mono ?_; rintro e v7 ⟨rfl, hv7⟩; rw [keptF_of (oneF_same _ _)]))
        go_ret
        subst hv7
        exact ⟨by simp, HV5.out.trans (hb6.mono HV5.out.size)⟩
  · have hg : decide ((300 : Int) < (n0 : Int) + (n1 : Int)) = true := decide_eq_true (by omega)
    go_enter Tryd.func11, Tryd.ntmps11
    go_wp2_with (fail)
    refine (awake4_any w hn).mono ?_
    rintro e w1 ⟨rfl, hb1⟩
    clear hn
    go_wp2_with (fail)
    go_ret
    exact ⟨rfl, hb1⟩
end Go.Proofs.YtgonklbjbgekoaaDoor
