/- LawSplits6, Wal1, Wal2, Wal3, Wal4, Wal5, LawRaw7, in one text. The conditions stand at each theorem. -/
import Derived.Test.YtocgfcboigiigaaDoorLawSums6
import Derived.Test.YtocgfcboigiigaaDoorRows6
import Derived.Deep.RegionHeld3
import Derived.Deep.DrawnRows
import Derived.Test.YtocgfcboigiigaaDoorFrm2
import Derived.Test.YtocgfcboigiigaaDoorDS
import Derived.Test.YtocgfcboigiigaaDoorAwake6
namespace Go.Proofs.YtocgfcboigiigaaDoor
open Go Go.Proofs Go.RowKit

/-- Where the pieces end, one behind the other. -/
def endF (ps : List (List UInt8)) (i : Nat) : Nat := (rowsF (ps.take i)).length
def endsV (ps : List (List UInt8)) (k : Nat) : List Value := (List.range k).map fun i => .int .i64 (endF ps (i + 1) : Int)
theorem endsV_succ (ps : List (List UInt8)) (k : Nat) : endsV ps (k + 1) = endsV ps k ++ [.int .i64 (endF ps (k + 1) : Int)] := by simp [endsV, List.range_succ]
theorem endsV_len (ps : List (List UInt8)) (k : Nat) : (endsV ps k).length = k := by simp [endsV]
theorem endsV_get (ps : List (List UInt8)) {k i : Nat} (h : i < k) : (endsV ps k)[i]? = some (.int .i64 (endF ps (i + 1) : Int)) := by simp [endsV, h]
theorem info_int : (Tryd.prog.info? 3).map (fun i => (i.zero, i.size, i.bytes)) = some (some (.int .i64 0), 1, 8) := by kernel_rfl
theorem endF_succ {ps : List (List UInt8)} {k : Nat} {p : List UInt8} (h : ps[k]? = some p) : endF ps (k + 1) = endF ps k + (p.length + 8) := by
  unfold endF
  rw [rowsF_take h, List.length_append, wrapF_len]
theorem bytesOf_take (L : BL) (k : Nat) : bytesOf (L.take k) = (bytesOf L).take k := by simp [bytesOf, List.map_take]
theorem rows_small {w : World} {B n : Nat} {A : Option Addr} {L : BL} (h : RowsAt w B A n L) (hs : ∀ p ∈ bytesOf L, p.length ≤ 40) : ∀ x ∈ L, x.2.1 ≤ 1000000000 := fun x hx => by
  have h1 := hs x.2.2.2 (List.mem_map_of_mem hx)
  have h2 := (h.2 x hx).1
  rw [bv_length] at h2
  omega

/-- What the law's Split answers: the pieces lie in the bytes themselves. -/
def RetSplitL (w : World) (B : Nat) (bs : List UInt8) (e : Ending) (w' : World) : Prop := ∃ A c L, e = .returned (.tuple #[.slice A (splitF bs).1.length c, .int .i64 (splitF bs).2]) ∧ w'.ownsRow w.heap.size 22 1 (.slice A (splitF bs).1.length c) (splitF bs).1.length (L.map slV) ∧ BLok w' B L ∧ bytesOf L = (splitF bs).1 ∧ Below w.heap.size w w'
theorem first_is {bs : List UInt8} {j : Nat} (h : 8 ≤ bs.length) (hj : j < 2 ^ 32) : bs.take 4 = fourF j ↔ num4 bs = j := by
  rw [four_num4 (by omega)]
  refine ⟨fun e => ?_, fun e => by rw [e]⟩
  have h1 := num4_four (num4 bs) (num4_lt _) []
  have h2 := num4_four j hj []
  rw [e, h2] at h1
  exact h1.symm
theorem piece_is {bs : List UInt8} {j : Nat} (h : 8 + j ≤ bs.length) (hn : num4 bs = j) : bs.take (8 + j) = wrapF ((bs.drop 8).take j) ↔ sumB ((bs.drop 8).take j) = num4 (bs.drop 4) := by
  have hpl : ((bs.drop 8).take j).length = j := by rw [List.length_take, List.length_drop]; omega
  have e1 : bs.take (8 + j) = fourF j ++ (fourF (num4 (bs.drop 4)) ++ (bs.drop 8).take j) := by
    rw [show 8 + j = 4 + (4 + j) by omega, List.take_add, four_num4 (by omega), hn, List.take_add, four_num4 (by rw [List.length_drop]; omega), List.drop_drop]
  have e2 : wrapF ((bs.drop 8).take j) = fourF j ++ (fourF (sumB ((bs.drop 8).take j)) ++ (bs.drop 8).take j) := by
    unfold wrapF
    rw [hpl, List.append_assoc]
  rw [e1, e2]
  constructor
  · intro e
    have e := List.append_cancel_left e
    have e3 := congrArg (fun l => num4 l) e
    rw [num4_four _ (num4_lt _), num4_four _ (sumB_lt _)] at e3
    exact e3.symm
  · intro e
    rw [e]
theorem split1_is {bs p : List UInt8} {j : Nat} (h8 : 8 + j ≤ bs.length) (hn : num4 bs = j) (hp : p = (bs.drop 8).take j) (hs : sumB p = num4 (bs.drop 4)) : split1 bs = some (p, bs.drop (8 + j)) := by
  unfold split1
  rw [if_pos, hn, ← hp]
  rw [hn, ← hp]
  exact ⟨by omega, by omega, hs⟩
theorem split1_not {bs p : List UInt8} {j : Nat} (hn : num4 bs = j) (hp : p = (bs.drop 8).take j) (hs : ¬ sumB p = num4 (bs.drop 4)) : split1 bs = none := by
  unfold split1
  rw [if_neg]
  rw [hn, ← hp]
  exact fun h => hs h.2.2
theorem split1_out {bs : List UInt8} {j : Nat} (hl : bs.length < 8 + j) (hn : ∀ i, i < j → num4 bs ≠ i) : split1 bs = none := by
  unfold split1
  rw [if_neg]
  rintro ⟨h1, h2, _⟩
  exact hn (num4 bs) (by omega) rfl
theorem splitL_next {bs p : List UInt8} {g j c8 : Nat} {A8 : Option Addr} {Lq : BL} (h : splitF bs = (bytesOf Lq ++ (splitF (bs.drop g)).1, g + (splitF (bs.drop g)).2)) (hs : split1 (bs.drop g) = some (p, (bs.drop g).drop (8 + j))) (hp : p.length = j) :
    splitF bs = (bytesOf (Lq ++ [(A8, j, c8, p)]) ++ (splitF (bs.drop (g + 8 + j))).1, g + 8 + j + (splitF (bs.drop (g + 8 + j))).2) := by
  rw [splitF_some hs, List.drop_drop, show g + (8 + j) = g + 8 + j by omega] at h
  rw [h, hp]
  simp only [bytesOf, List.map_append, List.map_cons, List.map_nil, List.append_assoc, List.singleton_append, Prod.mk.injEq, true_and]
  omega
theorem retL {w w' : World} {bs : List UInt8} {g m cv B : Nat} {Av : Option Addr} {Lq : BL} (h : splitF bs = (bytesOf Lq ++ (splitF (bs.drop g)).1, g + (splitF (bs.drop g)).2)) (hn : split1 (bs.drop g) = none) (hm : m = Lq.length) (ho : w'.ownsRow w.heap.size 22 1 (.slice Av m cv) m (Lq.map slV)) (hb : BLok w' B Lq) (hbw : Below w.heap.size w w') : RetSplitL w B bs (.returned (.tuple #[.slice Av m cv, .int .i64 (g : Int)])) w' := by
  rw [splitF_none hn, List.append_nil] at h
  have hl : (bytesOf Lq).length = m := by simp [bytesOf, hm]
  refine ⟨Av, cv, Lq, by rw [h, hl]; rfl, ?_, hb, by rw [h], hbw⟩
  rw [h, hl]
  exact ho
set_option maxHeartbeats 8000000 in
set_option maxRecDepth 100000 in
theorem splitL (A : Option Addr) (n c B : Nat) (bs : List UInt8) (w : World) (hr : Reads w B 1 A n (bv bs)) (hB : B ≤ w.heap.size) (hn : n ≤ 100000) (hc : n ≤ c) :
    Calls Tryd.prog 25 #[.slice A n c] w (RetSplitL w B bs) := by
  have hl : bs.length = n := by have := hr.1; rw [bv_length] at this; omega
  have HRD := Lib.hid hr
  have HL := Lib.hid hl
  clear hr hl
  go_enter Tryd.func25, Tryd.ntmps25
  go_wp2_with (fail)
  go_loopw [4, 5] (fun vo vg wr => ∃ (g : Nat) (Lq : BL) (Av : Option Addr) (cv : Nat), g ≤ n ∧ vg = .int .i64 g ∧ vo = .slice Av Lq.length cv ∧ Hid (splitF bs = (bytesOf Lq ++ (splitF (bs.drop g)).1, g + (splitF (bs.drop g)).2)) ∧ Hid (wr.ownsRow w.heap.size 22 1 (.slice Av Lq.length cv) Lq.length (Lq.map slV)) ∧ Hid (BLok wr B Lq) ∧ Hid (Below w.heap.size w wr) ∧ Lq.length ≤ g) (fun _ vg _ => n - (intOf vg).toNat)
  case atStart => exact ⟨0, [], none, 0, Nat.zero_le _, rfl, rfl, Lib.hid (by simp [bytesOf]), Lib.hid (World.ownsRow_nil _ _ _ _), Lib.hid (fun x hx => by cases hx), Lib.hid (Below.refl _ _), Nat.le_refl _⟩
  case round =>
    obtain ⟨g, Lq, Av, cv, hg, rfl, rfl, HI, HO, HBL, HB, hlq⟩ := hrel
    obtain ⟨wo, rfl⟩ : ∃ wo : World, wo = wr := ⟨_, rfl⟩
    have hzo := HB.out.size
    obtain ⟨r, hr'⟩ : ∃ r, n = g + r := ⟨n - g, by omega⟩
    obtain ⟨N, hN⟩ : ∃ N, N = num4 (bs.drop g) := ⟨_, rfl⟩
    have hrl : (bs.drop g).length = r := by rw [List.length_drop, HL.out]; omega
    have HN := Lib.hid hN
    have HRL := Lib.hid hrl
    have hN32 := num4_lt (bs.drop g)
    rw [← hN] at hN32
    clear hN hrl
    subst hr'
    obtain ⟨m, hm⟩ : ∃ m, m = Lq.length := ⟨_, rfl⟩
    rw [← hm] at HO hlq ⊢
    have HM := Lib.hid hm
    clear hm
    go_wp2_with (fail)
    go_loopw [4, 5, 6, 7] (fun vo vg vf i wr => ∃ j : Nat, vo = .slice Av m cv ∧ vg = .int .i64 g ∧ vf = .bool false ∧ i = .int .i64 j ∧ j ≤ r + 1 ∧ Hid (∀ i, i < j → N ≠ i) ∧ Hid (Below wo.heap.size wo wr)) (fun _ _ _ i _ => r + 1 - (intOf i).toNat)
    case atStart => exact ⟨0, rfl, rfl, rfl, rfl, Nat.zero_le _, Lib.hid (fun i h => by omega), Lib.hid (Below.refl _ _)⟩
    case round =>
      obtain ⟨j, rfl, rfl, rfl, rfl, hjr, HNI, HBI⟩ := hrel
      have hzi := HBI.out.size
      by_cases hj8 : 8 + j ≤ r
      · obtain ⟨ad, rfl, had, _⟩ := HRD.out.2 (by omega)
        have hrd := (HRD.out.below ((HB.out.trans (HBI.out.mono hzo)).mono hB))
        have hrg := hrd.cut (k := g) (cap := g + r + 1) (by omega) (by omega)
        rw [if_neg (by omega), Nat.mul_one, show g + r - g = r by omega, show (bv bs).drop g = bv (bs.drop g) by simp [bv, List.map_drop]] at hrg
        simp only [Option.map_some] at hrg
        have hr8 := hrd.cut (k := g + 8) (cap := g + r + 9) (by omega) (by omega)
        rw [if_neg (by omega), Nat.mul_one, show g + r - (g + 8) = r - 8 by omega, show (bv bs).drop (g + 8) = bv ((bs.drop g).drop 8) by rw [List.drop_drop]; simp [bv, List.map_drop]] at hr8
        simp only [Option.map_some] at hr8
        obtain ⟨p, hp⟩ : ∃ p, p = ((bs.drop g).drop 8).take j := ⟨_, rfl⟩
        have hpl : p.length = j := by rw [hp, List.length_take, List.length_drop, HRL.out]; omega
        have hp8 := hr8.pre (k := j) (by omega)
        rw [← hp] at hp8
        have h4 := hrg.pre (k := 4) (by omega)
        have h8j := hrg.pre (k := 8 + j) (by omega)
        have hj32 : j < 2 ^ 32 := by omega
        have hw32 : IntKind.u32.wrap (j : Int) = (j : Int) := IntWalk.u32_in _ (by omega)
        have q0 : (0 : Int) ≤ (g : Int) := by omega
        have q1 : (g : Int) + 8 + (j : Int) ≤ (c : Int) := by omega
        have q2 : (g : Int) + 4 ≤ (c : Int) := by omega
        have q3 : ¬ c = g := by omega
        have q4 : decide ((g : Int) + 8 + (j : Int) ≤ (g : Int) + (r : Int)) = true := decide_eq_true (by omega)
        have q5 : g + 8 + j ≤ c := by omega
        have q6 : g + 4 ≤ c := by omega
        have q7 : g + 8 + j ≤ g + r := by omega
        have hBw : B ≤ wr.heap.size := by omega
        have i4 : IntKind.i64.wrap ((g : Int) + 4) = (g : Int) + 4 := IntWalk.i64_in _ (by omega)
        have i8 : IntKind.i64.wrap ((g : Int) + 8) = (g : Int) + 8 := IntWalk.i64_in _ (by omega)
        have ij : IntKind.i64.wrap ((g : Int) + 8 + (j : Int)) = (g : Int) + 8 + (j : Int) := IntWalk.i64_in _ (by omega)
        have t4 : (0 : Int) ≤ (g : Int) + 4 := by omega
        have t5 : (g : Int) ≤ (g : Int) + 4 := by omega
        have t6 : (g : Int) ≤ (g : Int) + 8 + (j : Int) := by omega
        have t7 : (0 : Int) ≤ (g : Int) + 8 + (j : Int) := by omega
        have t8 : ((g : Int) + 4).toNat = g + 4 := by omega
        have t9 : ((g : Int) + 8 + (j : Int)).toNat = g + 8 + j := by omega
        have t3 : ¬ c - g = 0 := by omega
        have HP := Lib.hid hp
        have HPL := Lib.hid hpl
        have HP8 := Lib.hid hp8
        have hBo : B ≤ wo.heap.size := by omega
        have t10 : g + 8 + j - g = 8 + j := by omega
        have hd0 := HRD.out.below (HB.out.mono hB)
        have hd1 := hd0.cut (k := g) (cap := g + r + 1) (by omega) (by omega)
        rw [if_neg (by omega), Nat.mul_one, show g + r - g = r by omega, show (bv bs).drop g = bv (bs.drop g) by simp [bv, List.map_drop]] at hd1
        simp only [Option.map_some] at hd1
        have hd8 := hd0.cut (k := g + 8) (cap := g + r + 9) (by omega) (by omega)
        rw [if_neg (by omega), Nat.mul_one, show g + r - (g + 8) = r - 8 by omega, show (bv bs).drop (g + 8) = bv ((bs.drop g).drop 8) by rw [List.drop_drop]; simp [bv, List.map_drop]] at hd8
        simp only [Option.map_some] at hd8
        have HP80 := Lib.hid (show Reads wo B 1 (some (ad.add (g + 8))) j (bv p) by have := hd8.pre (k := j) (by omega); rw [← HP.out] at this; exact this)
        have H8J0 := Lib.hid (hd1.pre (k := 8 + j) (by omega))
        clear hd0 hd1 hd8
        have hBo : B ≤ wo.heap.size := by omega
        have t10 : g + 8 + j - g = 8 + j := by omega
        have hd0 := HRD.out.below (HB.out.mono hB)
        have hd1 := hd0.cut (k := g) (cap := g + r + 1) (by omega) (by omega)
        rw [if_neg (by omega), Nat.mul_one, show g + r - g = r by omega, show (bv bs).drop g = bv (bs.drop g) by simp [bv, List.map_drop]] at hd1
        simp only [Option.map_some] at hd1
        have hd8 := hd0.cut (k := g + 8) (cap := g + r + 9) (by omega) (by omega)
        rw [if_neg (by omega), Nat.mul_one, show g + r - (g + 8) = r - 8 by omega, show (bv bs).drop (g + 8) = bv ((bs.drop g).drop 8) by rw [List.drop_drop]; simp [bv, List.map_drop]] at hd8
        simp only [Option.map_some] at hd8
        have HP80 := Lib.hid (show Reads wo B 1 (some (ad.add (g + 8))) j (bv p) by have := hd8.pre (k := j) (by omega); rw [← HP.out] at this; exact this)
        have H8J0 := Lib.hid (hd1.pre (k := 8 + j) (by omega))
        clear hd0 hd1 hd8
        have hBo : B ≤ wo.heap.size := by omega
        have t10 : g + 8 + j - g = 8 + j := by omega
        have hd0 := HRD.out.below (HB.out.mono hB)
        have hd1 := hd0.cut (k := g) (cap := g + r + 1) (by omega) (by omega)
        rw [if_neg (by omega), Nat.mul_one, show g + r - g = r by omega, show (bv bs).drop g = bv (bs.drop g) by simp [bv, List.map_drop]] at hd1
        simp only [Option.map_some] at hd1
        have hd8 := hd0.cut (k := g + 8) (cap := g + r + 9) (by omega) (by omega)
        rw [if_neg (by omega), Nat.mul_one, show g + r - (g + 8) = r - 8 by omega, show (bv bs).drop (g + 8) = bv ((bs.drop g).drop 8) by rw [List.drop_drop]; simp [bv, List.map_drop]] at hd8
        simp only [Option.map_some] at hd8
        have HP80 := Lib.hid (show Reads wo B 1 (some (ad.add (g + 8))) j (bv p) by have := hd8.pre (k := j) (by omega); rw [← HP.out] at this; exact this)
        have H8J0 := Lib.hid (hd1.pre (k := 8 + j) (by omega))
        clear hd0 hd1 hd8
        have hBo : B ≤ wo.heap.size := by omega
        have hd0 := HRD.out.below (HB.out.mono hB)
        have hd1 := hd0.cut (k := g) (cap := g + r + 1) (by omega) (by omega)
        rw [if_neg (by omega), Nat.mul_one, show g + r - g = r by omega, show (bv bs).drop g = bv (bs.drop g) by simp [bv, List.map_drop]] at hd1
        simp only [Option.map_some] at hd1
        have hd8 := hd0.cut (k := g + 8) (cap := g + r + 9) (by omega) (by omega)
        rw [if_neg (by omega), Nat.mul_one, show g + r - (g + 8) = r - 8 by omega, show (bv bs).drop (g + 8) = bv ((bs.drop g).drop 8) by rw [List.drop_drop]; simp [bv, List.map_drop]] at hd8
        simp only [Option.map_some] at hd8
        have HP80 := Lib.hid (show Reads wo B 1 (some (ad.add (g + 8))) j (bv p) by have := hd8.pre (k := j) (by omega); rw [← HP.out] at this; exact this)
        have H8J0 := Lib.hid (hd1.pre (k := 8 + j) (by omega))
        clear hd0 hd1 hd8
        have H4 := Lib.hid h4
        have H8J := Lib.hid h8j
        clear hrd hrg hr8 hp hpl hp8 h4 h8j
        by_cases hce : c = g + 8
        · go_wp2_with (fail)
          rw [← hce]
          have HCE := Lib.hid hce
          clear hce
          have HP80 := Lib.hid (show Reads wo B 1 (some ad) j (bv p) by
            have hce := HCE.out
            have e : j = 0 := by omega
            have e2 : p = [] := List.length_eq_zero_iff.1 (by rw [HPL.out]; exact e)
            rw [e, e2]
            exact Reads.none_)
          obtain ⟨i1, hj, hy0, hy1, hy2⟩ := info_parts info_sl
          by_cases hNj : N = j
          · have v1 : decide ((bs.drop g).take 4 = fourF j) = true := decide_eq_true ((first_is (by rw [HRL.out]; omega) hj32).2 (by rw [← HN.out]; exact hNj))
            go_region_held3 (fun _ => True) (trivial) ((first
              | (go_at_call 49; refine (fourL j _ hj32).mono ?_; rintro e w4 ⟨A4, c4, rfl, hown4, hb4⟩; have HB4 := Lib.hid (HBI.out.drew.trans (hb4.mono (by exact hzi))); have H44 := Lib.hid (Reads.below (show Reads wr.drew B 1 (some (ad.add g)) 4 (bv ((bs.drop g).take 4)) from H4.out) (hb4.mono (by exact hBw))); have HO4 := Lib.hid (Reads.of_own hown4); clear hown4 hb4)
              | (go_at_call 19; refine (equalBq true (some (ad.add g)) A4 4 _ 4 _ _ _ ((bs.drop g).take 4) (fourF j) w4 (by exact H44.out) (by exact HO4.out) (by omega) (by omega) v1).mono ?_; rintro e w5 ⟨rfl, q5, rfl⟩)))
            have HB5 := Lib.hid (bdrewN HB4.out q5)
            have hz5 := HB5.out.size
            have hBz5 : B ≤ (w4.drewN q5).heap.size := by omega
            have hb45 : Below wo.heap.size wo (w4.drewN q5) := HB5.out
            have HP85 := Lib.hid (show Reads (w4.drewN q5) B 1 (some ad) j (bv p) from HP80.out.below (hb45.mono hBo))
            have H8J5 := Lib.hid (show Reads (w4.drewN q5) B 1 (some (ad.add g)) (8 + j) (bv ((bs.drop g).take (8 + j))) from H8J0.out.below (hb45.mono hBo))
            clear hb45 HB4 H44 HO4
            generalize w4.drewN q5 = w5 at *
            have hnum : num4 (bs.drop g) = j := by rw [← HN.out]; exact hNj
            have hpi := piece_is (bs := bs.drop g) (j := j) (by rw [HRL.out]; omega) hnum
            rw [← HP.out] at hpi
            by_cases hss : sumB p = num4 ((bs.drop g).drop 4)
            · have v2 : decide ((bs.drop g).take (8 + j) = wrapF p) = true := decide_eq_true (hpi.2 hss)
              have HSS := Lib.hid hss
              have HNJ := Lib.hid hNj
              clear hpi hss v1 hNj hnum
              go_wp2_with (fail)
              go_region_held3 (fun _ => True) (trivial) ((first
                | (go_at_call 22; refine (wrapL (some ad) j _ B p _ (by exact HP85.out) (by exact hBz5) (by omega)).mono ?_; rintro e w6 ⟨A6, c6, rfl, hown6, hb6⟩; have HB6 := Lib.hid (HB5.out.drew.trans (hb6.mono (by exact hz5))); have H66 := Lib.hid (Reads.below (show Reads w5.drew B 1 (some (ad.add g)) (8 + j) (bv ((bs.drop g).take (8 + j))) from H8J5.out) (hb6.mono (by exact hBz5))); have HO6 := Lib.hid (Reads.of_own hown6); clear hown6 hb6)
                | (go_at_call 19; refine (equalBq true (some (ad.add g)) A6 _ _ _ _ B w6.heap.size ((bs.drop g).take (8 + j)) (wrapF p) w6 (by (try simp only [t10]); exact H66.out) HO6.out (by omega) (by omega) v2).mono ?_; rintro e w7 ⟨rfl, q7, rfl⟩)))
              have HB7 := Lib.hid (bdrewN HB6.out q7)
              have hz7 := HB7.out.size
              have HO7 := Lib.hid (owns_bel HO.out HB7.out)
              have HBW := Lib.hid (HB.out.trans (HB7.out.mono hzo))
              have HP87 := Lib.hid (HP80.out.below (HB7.out.mono hBo))
              have HBL7 := Lib.hid (show BLok (w6.drewN q7) B Lq from fun x hx => (HBL.out x hx).below (HB7.out.mono hBo))
              clear HB6 H66 HO6 HB5 HP85 H8J5 HBI H4 H8J HP8 hz5 hBz5 v2
              generalize w6.drewN q7 = w7 at *
              go_wp2_with (at_builtin; (refine wpList_append_any _ rfl (.tmp 46) (.tmp 48) 26 rfl w.heap.size 22 i1 (.slice none 0 0) 1 24 Tryd.underlying26 hj hy0 hy1 hy2 rfl (by decide) (.slice Av m cv) m (Lq.map slV) rfl (HO7.out.alloc _) _ (some ⟨w7.heap.size, 0, none⟩) 1 1 [.slice (some ad) j 0] rfl (reads_blk (heap_alloc_new _ _) rfl) (fun u hu => by obtain rfl := List.mem_singleton.1 hu; rfl) (by unfold maxLen; omega) (by omega) (by rw [World.size_alloc]; omega) ?_; intro v8 w8 hown8 hgr8 _; obtain ⟨A8', c8', rfl, hc8⟩ := owns_form hown8))
              have hb78 := ((Below.refl w.heap.size w7).alloc (by omega) (.cells #[.slice (some ad) j 0] 22 (0, 0))).grown hgr8 (by rw [World.size_alloc]; omega) (fun j hj => (HO7.out.lt j hj).1)
              refine ⟨⟨g + 8 + j, Lq ++ [(some ad, j, 0, p)], A8', c8', by omega, by go_num, by rw [List.length_append, ← HM.out]; rfl, Lib.hid (splitL_next HI.out (split1_is (by rw [HRL.out]; omega) (by rw [← HN.out, HNJ.out]) HP.out HSS.out) HPL.out), Lib.hid (by rw [List.length_append, ← HM.out, List.map_append]; exact hown8), Lib.hid (fun x hx => ?_), Lib.hid (HBW.out.trans hb78), by rw [List.length_append, ← HM.out]; simp; omega⟩, by simp [intOf]; omega⟩
              rcases List.mem_append.1 hx with h | h
              · exact (HBL7.out x h).below (hb78.mono hB)
              · obtain rfl := List.mem_singleton.1 h
                exact HP87.out.below (hb78.mono hB)
            · have v2 : decide ((bs.drop g).take (8 + j) = wrapF p) = false := decide_eq_false fun h => hss (hpi.1 h)
              have HSS := Lib.hid hss
              have HNJ := Lib.hid hNj
              clear hpi hss v1 hNj hnum
              go_wp2_with (fail)
              go_region_held3 (fun _ => True) (trivial) ((first
                | (go_at_call 22; refine (wrapL (some ad) j _ B p _ (by exact HP85.out) (by exact hBz5) (by omega)).mono ?_; rintro e w6 ⟨A6, c6, rfl, hown6, hb6⟩; have HB6 := Lib.hid (HB5.out.drew.trans (hb6.mono (by exact hz5))); have H66 := Lib.hid (Reads.below (show Reads w5.drew B 1 (some (ad.add g)) (8 + j) (bv ((bs.drop g).take (8 + j))) from H8J5.out) (hb6.mono (by exact hBz5))); have HO6 := Lib.hid (Reads.of_own hown6); clear hown6 hb6)
                | (go_at_call 19; refine (equalBq false (some (ad.add g)) A6 _ _ _ _ B w6.heap.size ((bs.drop g).take (8 + j)) (wrapF p) w6 (by (try simp only [t10]); exact H66.out) HO6.out (by omega) (by omega) v2).mono ?_; rintro e w7 ⟨rfl, q7, rfl⟩)))
              have HB7 := Lib.hid (bdrewN HB6.out q7)
              clear HB6 H66 HO6 HB5 HP85 H8J5 HBI H4 H8J HP8 hz5 hBz5 v2
              generalize w6.drewN q7 = w7 at *
              go_wp2_with (fail)
              go_ret2
              exact retL HI.out (split1_not (by rw [← HN.out, HNJ.out]) HP.out HSS.out) HM.out (owns_bel HO.out HB7.out) (fun x hx => (HBL.out x hx).below (HB7.out.mono hBo)) (HB.out.trans (HB7.out.mono hzo))
          · have v1 : decide ((bs.drop g).take 4 = fourF j) = false := decide_eq_false fun h => hNj (by rw [HN.out]; exact (first_is (by rw [HRL.out]; omega) hj32).1 h)
            have HNJ := Lib.hid hNj
            clear hNj
            go_region_held3 (fun _ => True) (trivial) ((first
              | (go_at_call 49; refine (fourL j _ hj32).mono ?_; rintro e w4 ⟨A4, c4, rfl, hown4, hb4⟩; have HB4 := Lib.hid (HBI.out.drew.trans (hb4.mono (by exact hzi))); have H44 := Lib.hid (Reads.below (show Reads wr.drew B 1 (some (ad.add g)) 4 (bv ((bs.drop g).take 4)) from H4.out) (hb4.mono (by exact hBw))); have HO4 := Lib.hid (Reads.of_own hown4); clear hown4 hb4)
              | (go_at_call 19; refine (equalBq false (some (ad.add g)) A4 4 _ 4 _ _ _ ((bs.drop g).take 4) (fourF j) w4 (by exact H44.out) (by exact HO4.out) (by omega) (by omega) v1).mono ?_; rintro e w5 ⟨rfl, q5, rfl⟩)))
            have HB5 := Lib.hid (bdrewN HB4.out q5)
            clear HB4 H44 HO4 v1
            generalize w4.drewN q5 = w5 at *
            go_wp2_with (fail)
            refine ⟨⟨j + 1, rfl, rfl, rfl, by go_num, by omega, Lib.hid (fun i hi => ?_), HB5⟩, by simp [intOf]; omega⟩
            rcases Nat.lt_or_ge i j with h | h
            · exact HNI.out i h
            · obtain rfl : i = j := by omega
              exact HNJ.out
        · go_wp2_with (fail)
          rw [show g + 8 + j - (g + 8) = j by omega]
          obtain ⟨P8, hP8⟩ : ∃ P8, P8 = some (ad.add (g + 8)) := ⟨_, rfl⟩
          rw [← hP8] at HP8 HP80 ⊢
          clear hP8
          obtain ⟨i1, hj, hy0, hy1, hy2⟩ := info_parts info_sl
          by_cases hNj : N = j
          · have v1 : decide ((bs.drop g).take 4 = fourF j) = true := decide_eq_true ((first_is (by rw [HRL.out]; omega) hj32).2 (by rw [← HN.out]; exact hNj))
            go_region_held3 (fun _ => True) (trivial) ((first
              | (go_at_call 49; refine (fourL j _ hj32).mono ?_; rintro e w4 ⟨A4, c4, rfl, hown4, hb4⟩; have HB4 := Lib.hid (HBI.out.drew.trans (hb4.mono (by exact hzi))); have H44 := Lib.hid (Reads.below (show Reads wr.drew B 1 (some (ad.add g)) 4 (bv ((bs.drop g).take 4)) from H4.out) (hb4.mono (by exact hBw))); have HO4 := Lib.hid (Reads.of_own hown4); clear hown4 hb4)
              | (go_at_call 19; refine (equalBq true (some (ad.add g)) A4 4 _ 4 _ _ _ ((bs.drop g).take 4) (fourF j) w4 (by exact H44.out) (by exact HO4.out) (by omega) (by omega) v1).mono ?_; rintro e w5 ⟨rfl, q5, rfl⟩)))
            have HB5 := Lib.hid (bdrewN HB4.out q5)
            have hz5 := HB5.out.size
            have hBz5 : B ≤ (w4.drewN q5).heap.size := by omega
            have hb45 : Below wo.heap.size wo (w4.drewN q5) := HB5.out
            have HP85 := Lib.hid (show Reads (w4.drewN q5) B 1 (P8) j (bv p) from HP80.out.below (hb45.mono hBo))
            have H8J5 := Lib.hid (show Reads (w4.drewN q5) B 1 (some (ad.add g)) (8 + j) (bv ((bs.drop g).take (8 + j))) from H8J0.out.below (hb45.mono hBo))
            clear hb45 HB4 H44 HO4
            generalize w4.drewN q5 = w5 at *
            have hnum : num4 (bs.drop g) = j := by rw [← HN.out]; exact hNj
            have hpi := piece_is (bs := bs.drop g) (j := j) (by rw [HRL.out]; omega) hnum
            rw [← HP.out] at hpi
            by_cases hss : sumB p = num4 ((bs.drop g).drop 4)
            · have v2 : decide ((bs.drop g).take (8 + j) = wrapF p) = true := decide_eq_true (hpi.2 hss)
              have HSS := Lib.hid hss
              have HNJ := Lib.hid hNj
              clear hpi hss v1 hNj hnum
              go_wp2_with (fail)
              go_region_held3 (fun _ => True) (trivial) ((first
                | (go_at_call 22; refine (wrapL (P8) j _ B p _ (by exact HP85.out) (by exact hBz5) (by omega)).mono ?_; rintro e w6 ⟨A6, c6, rfl, hown6, hb6⟩; have HB6 := Lib.hid (HB5.out.drew.trans (hb6.mono (by exact hz5))); have H66 := Lib.hid (Reads.below (show Reads w5.drew B 1 (some (ad.add g)) (8 + j) (bv ((bs.drop g).take (8 + j))) from H8J5.out) (hb6.mono (by exact hBz5))); have HO6 := Lib.hid (Reads.of_own hown6); clear hown6 hb6)
                | (go_at_call 19; refine (equalBq true (some (ad.add g)) A6 _ _ _ _ B w6.heap.size ((bs.drop g).take (8 + j)) (wrapF p) w6 (by (try simp only [t10]); exact H66.out) HO6.out (by omega) (by omega) v2).mono ?_; rintro e w7 ⟨rfl, q7, rfl⟩)))
              have HB7 := Lib.hid (bdrewN HB6.out q7)
              have hz7 := HB7.out.size
              have HO7 := Lib.hid (owns_bel HO.out HB7.out)
              have HBW := Lib.hid (HB.out.trans (HB7.out.mono hzo))
              have HP87 := Lib.hid (HP80.out.below (HB7.out.mono hBo))
              have HBL7 := Lib.hid (show BLok (w6.drewN q7) B Lq from fun x hx => (HBL.out x hx).below (HB7.out.mono hBo))
              clear HB6 H66 HO6 HB5 HP85 H8J5 HBI H4 H8J HP8 hz5 hBz5 v2
              generalize w6.drewN q7 = w7 at *
              go_wp2_with (at_builtin; (refine wpList_append_any _ rfl (.tmp 46) (.tmp 48) 26 rfl w.heap.size 22 i1 (.slice none 0 0) 1 24 Tryd.underlying26 hj hy0 hy1 hy2 rfl (by decide) (.slice Av m cv) m (Lq.map slV) rfl (HO7.out.alloc _) _ (some ⟨w7.heap.size, 0, none⟩) 1 1 [.slice (P8) j (c - (g + 8))] rfl (reads_blk (heap_alloc_new _ _) rfl) (fun u hu => by obtain rfl := List.mem_singleton.1 hu; rfl) (by unfold maxLen; omega) (by omega) (by rw [World.size_alloc]; omega) ?_; intro v8 w8 hown8 hgr8 _; obtain ⟨A8', c8', rfl, hc8⟩ := owns_form hown8))
              have hb78 := ((Below.refl w.heap.size w7).alloc (by omega) (.cells #[.slice (P8) j (c - (g + 8))] 22 (0, 0))).grown hgr8 (by rw [World.size_alloc]; omega) (fun j hj => (HO7.out.lt j hj).1)
              refine ⟨⟨g + 8 + j, Lq ++ [(P8, j, (c - (g + 8)), p)], A8', c8', by omega, by go_num, by rw [List.length_append, ← HM.out]; rfl, Lib.hid (splitL_next HI.out (split1_is (by rw [HRL.out]; omega) (by rw [← HN.out, HNJ.out]) HP.out HSS.out) HPL.out), Lib.hid (by rw [List.length_append, ← HM.out, List.map_append]; exact hown8), Lib.hid (fun x hx => ?_), Lib.hid (HBW.out.trans hb78), by rw [List.length_append, ← HM.out]; simp; omega⟩, by simp [intOf]; omega⟩
              rcases List.mem_append.1 hx with h | h
              · exact (HBL7.out x h).below (hb78.mono hB)
              · obtain rfl := List.mem_singleton.1 h
                exact HP87.out.below (hb78.mono hB)
            · have v2 : decide ((bs.drop g).take (8 + j) = wrapF p) = false := decide_eq_false fun h => hss (hpi.1 h)
              have HSS := Lib.hid hss
              have HNJ := Lib.hid hNj
              clear hpi hss v1 hNj hnum
              go_wp2_with (fail)
              go_region_held3 (fun _ => True) (trivial) ((first
                | (go_at_call 22; refine (wrapL (P8) j _ B p _ (by exact HP85.out) (by exact hBz5) (by omega)).mono ?_; rintro e w6 ⟨A6, c6, rfl, hown6, hb6⟩; have HB6 := Lib.hid (HB5.out.drew.trans (hb6.mono (by exact hz5))); have H66 := Lib.hid (Reads.below (show Reads w5.drew B 1 (some (ad.add g)) (8 + j) (bv ((bs.drop g).take (8 + j))) from H8J5.out) (hb6.mono (by exact hBz5))); have HO6 := Lib.hid (Reads.of_own hown6); clear hown6 hb6)
                | (go_at_call 19; refine (equalBq false (some (ad.add g)) A6 _ _ _ _ B w6.heap.size ((bs.drop g).take (8 + j)) (wrapF p) w6 (by (try simp only [t10]); exact H66.out) HO6.out (by omega) (by omega) v2).mono ?_; rintro e w7 ⟨rfl, q7, rfl⟩)))
              have HB7 := Lib.hid (bdrewN HB6.out q7)
              clear HB6 H66 HO6 HB5 HP85 H8J5 HBI H4 H8J HP8 hz5 hBz5 v2
              generalize w6.drewN q7 = w7 at *
              go_wp2_with (fail)
              go_ret2
              exact retL HI.out (split1_not (by rw [← HN.out, HNJ.out]) HP.out HSS.out) HM.out (owns_bel HO.out HB7.out) (fun x hx => (HBL.out x hx).below (HB7.out.mono hBo)) (HB.out.trans (HB7.out.mono hzo))
          · have v1 : decide ((bs.drop g).take 4 = fourF j) = false := decide_eq_false fun h => hNj (by rw [HN.out]; exact (first_is (by rw [HRL.out]; omega) hj32).1 h)
            have HNJ := Lib.hid hNj
            clear hNj
            go_region_held3 (fun _ => True) (trivial) ((first
              | (go_at_call 49; refine (fourL j _ hj32).mono ?_; rintro e w4 ⟨A4, c4, rfl, hown4, hb4⟩; have HB4 := Lib.hid (HBI.out.drew.trans (hb4.mono (by exact hzi))); have H44 := Lib.hid (Reads.below (show Reads wr.drew B 1 (some (ad.add g)) 4 (bv ((bs.drop g).take 4)) from H4.out) (hb4.mono (by exact hBw))); have HO4 := Lib.hid (Reads.of_own hown4); clear hown4 hb4)
              | (go_at_call 19; refine (equalBq false (some (ad.add g)) A4 4 _ 4 _ _ _ ((bs.drop g).take 4) (fourF j) w4 (by exact H44.out) (by exact HO4.out) (by omega) (by omega) v1).mono ?_; rintro e w5 ⟨rfl, q5, rfl⟩)))
            have HB5 := Lib.hid (bdrewN HB4.out q5)
            clear HB4 H44 HO4 v1
            generalize w4.drewN q5 = w5 at *
            go_wp2_with (fail)
            refine ⟨⟨j + 1, rfl, rfl, rfl, by go_num, by omega, Lib.hid (fun i hi => ?_), HB5⟩, by simp [intOf]; omega⟩
            rcases Nat.lt_or_ge i j with h | h
            · exact HNI.out i h
            · obtain rfl : i = j := by omega
              exact HNJ.out
      · have q4 : decide ((g : Int) + 8 + (j : Int) ≤ (g : Int) + (r : Int)) = false := decide_eq_false (by omega)
        have q5 : ¬ g + 8 + j ≤ g + r := by omega
        go_wp2_with (fail)
        go_ret2
        exact retL HI.out (split1_out (j := j) (by rw [HRL.out]; omega) (fun i hi h => HNI.out i hi (by rw [HN.out]; exact h))) HM.out (owns_bel HO.out HBI.out) (fun x hx => (HBL.out x hx).below (HBI.out.mono (by omega))) (HB.out.trans (HBI.out.mono hzo))

theorem splitF_small : ∀ (k : Nat) (bs : List UInt8), bs.length ≤ k → (splitF bs).1.length ≤ bs.length ∧ ∀ p ∈ (splitF bs).1, p.length ≤ bs.length := by
  intro k
  induction k with
  | zero =>
    intro bs h
    have hb : bs = [] := List.length_eq_zero_iff.1 (by omega)
    rw [hb, splitF_none (by decide)]
    exact ⟨Nat.le_refl _, fun p hp => by cases hp⟩
  | succ k ih =>
    intro bs h
    cases hs : split1 bs with
    | none =>
      rw [splitF_none hs]
      exact ⟨Nat.zero_le _, fun p hp => by cases hp⟩
    | some x =>
      obtain ⟨p, r⟩ := x
      have hl := (split1_len hs).1
      obtain ⟨h1, h2⟩ := ih r (by omega)
      rw [splitF_some hs]
      refine ⟨by simp only [List.length_cons]; omega, fun q hq => ?_⟩
      rcases List.mem_cons.1 hq with rfl | hq
      · omega
      · have := h2 q hq; omega
theorem rows_le {w : World} {B n : Nat} {A : Option Addr} {L : BL} (h : RowsAt w B A n L) {k : Nat} (hk : k ≤ 1000000000) (hs : ∀ p ∈ bytesOf L, p.length ≤ k) : ∀ x ∈ L, x.2.1 ≤ 1000000000 := fun x hx => by
  have h1 := hs x.2.2.2 (List.mem_map_of_mem hx)
  have h2 := (h.2 x hx).1
  rw [bv_length] at h2
  omega
theorem concat3o6 {w : World} {g c B n0 n1 n2 c0 c1 c2 : Nat} {A0 A1 A2 : Option Addr} {b0 b1 b2 : List UInt8} (hg : w.heap[g]? = some (.cells #[.slice A0 n0 c0, .slice A1 n1 c1, .slice A2 n2 c2] 22 (0, 0))) (hB : B ≤ w.heap.size) (h0 : Reads w B 1 A0 n0 (bv b0)) (h1 : Reads w B 1 A1 n1 (bv b1)) (h2 : Reads w B 1 A2 n2 (bv b2)) (hn : n0 + n1 + n2 ≤ 1000000000) :
    Calls Tryd.prog 24 #[.slice (some ⟨g, 0, none⟩) 3 c] w (RetBytes w (b0 ++ (b1 ++ b2))) := by
  have h := concatB g c 3 B [(A0, n0, c0, b0), (A1, n1, c1, b1), (A2, n2, c2, b2)] w rfl (by omega) (lt_of_heap hg) hB (fun j x hx => by
    rw [cell_of_blk hg]
    match j, hx with
    | 0, hx => obtain rfl := Option.some.inj hx; rfl
    | 1, hx => obtain rfl := Option.some.inj hx; rfl
    | 2, hx => obtain rfl := Option.some.inj hx; rfl) (fun x hx => by
    simp only [List.mem_cons, List.not_mem_nil, or_false] at hx
    rcases hx with rfl | rfl | rfl
    · exact h0
    · exact h1
    · exact h2) (by simp [totB]; omega)
  simpa [flatB] using h
theorem concat3z6 {w : World} {g c B n0 n1 n2 c0 c1 c2 lz : Nat} {A0 A1 A2 : Option Addr} {b0 b1 b2 Z : List UInt8} (hg : w.heap[g]? = some (.cells #[.slice A0 n0 c0, .slice A1 n1 c1, .slice A2 n2 c2] 22 (0, 0))) (hB : B ≤ w.heap.size) (h0 : Reads w B 1 A0 n0 (bv b0)) (h1 : Reads w B 1 A1 n1 (bv b1)) (h2 : Reads w B 1 A2 n2 (bv b2)) (hn : n0 + n1 + n2 ≤ 1000000000) (hz : Z = b0 ++ (b1 ++ b2)) (hlz : lz = Z.length) :
    Calls Tryd.prog 24 #[.slice (some ⟨g, 0, none⟩) 3 c] w fun e w' => ∃ A' c', e = .returned (.slice A' lz c') ∧ w'.ownsRow w.heap.size 5 1 (.slice A' lz c') lz (bv Z) ∧ Below w.heap.size w w' := by
  subst hlz
  subst hz
  exact concat3o6 hg hB h0 h1 h2 hn
set_option maxHeartbeats 8000000 in
set_option maxRecDepth 100000 in
theorem splits6 (A : Option Addr) (n c at_ cut : Nat) (L : BL) (A' : Option Addr) (n' c' : Nat) (more : List UInt8) (w : World) (hn : NoneLaid w) (hr : RowsAt w w.heap.size A n L) (hat : at_ < 65536) (hcut : cut < 256) (hr' : Reads w w.heap.size 1 A' n' (bv more)) :
    Calls Tryd.prog 7 #[.slice A n c, .int .u16 at_, .int .u8 cut, .slice A' n' c'] w fun e w' => e = .returned (.bool true) ∧ Below w.heap.size w w' := by
  have hl := hr.len
  have HR := Lib.hid hr
  have HL := Lib.hid hl
  have HR' := Lib.hid hr'
  have HNM := Lib.hid (show more.length = n' by have := hr'.1; rw [bv_length] at this; omega)
  clear hr hl hr'
  by_cases hbig : n ≤ 10 ∧ n' ≤ 30
  · obtain ⟨hs1, hs2⟩ := hbig
    have g1 : decide ((10 : Int) < (n : Int)) = false := decide_eq_false (by omega)
    have g3 : decide ((30 : Int) < (n' : Int)) = false := decide_eq_false (by omega)
    obtain ⟨ps, hps⟩ : ∃ ps, ps = bytesOf L := ⟨_, rfl⟩
    have hpl : ps.length = n := by rw [hps]; simp [bytesOf, HL.out]
    have HPS := Lib.hid hps
    have HPL := Lib.hid hpl
    clear hps hpl
    go_enter Tryd.func7, Tryd.ntmps7
    go_wp2_with (fail)
    refine (awake6_any w hn).mono ?_
    rintro e w1 ⟨rfl, hb1⟩
    clear hn
    have hz1 := hb1.size
    have HB1 := Lib.hid hb1
    clear hb1
    go_wp2_with (fail)
    go_loopw [9, 31] (fun vb i wr => ∃ (k : Nat) (Ab : Option Addr) (cb : Nat), k ≤ n ∧ i = .int .i64 k ∧ vb = .slice Ab (endF ps k) cb ∧ Hid (wr.ownsRow w1.heap.size 5 1 (.slice Ab (endF ps k) cb) (endF ps k) (bv (rowsF (ps.take k)))) ∧ Hid (Below w1.heap.size w1 wr) ∧ endF ps k ≤ 48 * k ∧ Hid (∀ j p, j < k → ps[j]? = some p → p.length ≤ 40)) (fun _ i _ => n - (intOf i).toNat)
    case atStart => exact ⟨0, none, 0, Nat.zero_le _, rfl, rfl, Lib.hid (World.ownsRow_nil _ _ _ _), Lib.hid (Below.refl _ _), Nat.le_refl _, Lib.hid (fun j p h => by omega)⟩
    case round =>
      obtain ⟨k, Ab, cb, hk, rfl, rfl, HOB, HB, hel, H40⟩ := hrel
      have hzr := HB.out.size
      by_cases hlt : k < n
      · obtain ⟨x, hx⟩ : ∃ x, L[k]? = some x := ⟨L[k]'(by rw [HL.out]; exact hlt), List.getElem?_eq_getElem _⟩
        obtain ⟨ad, rfl, had, hc⟩ := HR.out.1.2 (by omega)
        have hbw := HB1.out.trans (HB.out.mono hz1)
        have d0 : wr.cell? (ad.add k) = some (.slice x.1 x.2.1 x.2.2.1) := cellk hbw (by rw [block_of_add]; exact had) (hc k (slV x) (by rw [List.getElem?_map, hx]; rfl))
        have r0 := (HR.out.2 x (List.mem_of_getElem? hx)).below hbw
        have hp : ps[k]? = some x.2.2.2 := by rw [HPS.out]; exact bytesOf_get hx
        obtain ⟨a1, n1, c1, p⟩ := x
        simp only at d0 r0 hp
        have hpn : p.length = n1 := by have := r0.1; rw [bv_length] at this; omega
        have hes := endF_succ hp
        have hrt := rowsF_take hp
        rw [hpn] at hes
        have hin0 : (0 : Int) ≤ (k : Int) := by omega
        have hin1 : (k : Int) < (n : Int) := by omega
        have R0 := Lib.hid r0
        have HP := Lib.hid hp
        have HPN := Lib.hid hpn
        have HES := Lib.hid hes
        have HRT := Lib.hid hrt
        have HBW := Lib.hid hbw
        clear hx hc r0 hp hpn hes hrt hbw
        obtain ⟨E, hE⟩ : ∃ E, E = endF ps k := ⟨_, rfl⟩
        rw [← hE] at HOB HES hel ⊢
        have HE := Lib.hid hE
        clear hE
        by_cases h40 : n1 ≤ 40
        · have g2 : decide ((40 : Int) < (n1 : Int)) = false := decide_eq_false (by omega)
          obtain ⟨i0, hi, hz0, hz1', hz2⟩ := info_parts info_u8
          go_wp2_with (fail)
          refine (wrapC a1 n1 c1 _ p wr R0.out (HBW.out.size) (by omega)).mono ?_
          rintro e w3 ⟨A3, c3, rfl, hown3, hb3⟩
          have hz3 := hb3.size
          have HO3 := Lib.hid (Reads.of_own hown3)
          have HOB3 := Lib.hid (owns_bel HOB.out hb3)
          have HB3 := Lib.hid (HB.out.trans (hb3.mono hzr))
          clear hown3 hb3
          go_wp2_with (at_builtin; (refine wpList_append_any _ rfl (.tmp 38) (.tmp 40) 22 rfl w1.heap.size 5 i0 (.int .u8 0) 1 1 Tryd.underlying22 hi hz0 hz1' hz2 rfl (by decide) (.slice Ab E cb) E (bv (rowsF (ps.take k))) rfl HOB3.out _ A3 (n1 + 8) c3 (bv (wrapF p)) rfl HO3.out (bv_one _) (by unfold maxLen; omega) (by omega) (by omega) ?_; intro v5 w5 hown5 hgr5 _; obtain ⟨A5, c5, rfl, hc5⟩ := owns_form hown5))
          have hb5 := HB3.out.grown hgr5 (by omega) (fun j hj => (HOB3.out.lt j hj).1)
          refine ⟨⟨k + 1, A5, c5, by omega, by go_num, by rw [HES.out], Lib.hid ?_, Lib.hid hb5, by rw [HES.out]; omega, Lib.hid ?_⟩, by simp [intOf]; omega⟩
          · rw [HES.out, HRT.out, bv_append]
            exact hown5
          · intro j p' hj' hp'
            by_cases hjk : j = k
            · subst hjk
              obtain rfl := Option.some.inj (HP.out.symm.trans hp')
              rw [HPN.out]
              exact h40
            · exact H40.out j p' (by omega) hp'
        · have g2 : decide ((40 : Int) < (n1 : Int)) = true := decide_eq_true (by omega)
          go_wp2_with (fail)
          go_ret
          exact ⟨rfl, HBW.out⟩
      · obtain rfl : k = n := by omega
        have hall : ∀ p ∈ ps, p.length ≤ 40 := fun p hp => by
          obtain ⟨j, hj⟩ := List.getElem?_of_mem hp
          exact H40.out j p (by have := (List.getElem?_eq_some_iff.1 hj).1; rw [HPL.out] at this; exact this) hj
        have htk : ps.take k = ps := List.take_of_length_le (by rw [HPL.out]; exact Nat.le_refl _)
        have hob := HOB.out
        rw [htk] at hob
        have hEX : endF ps k = (rowsF ps).length := by unfold endF; rw [htk]
        obtain ⟨E, hE⟩ : ∃ E, E = endF ps k := ⟨_, rfl⟩
        rw [← hE] at hob hel hEX ⊢
        obtain ⟨X, hX⟩ : ∃ X, X = rowsF ps := ⟨_, rfl⟩
        rw [← hX] at hob hEX
        have hsx : splitF X = (ps, E) := by rw [hEX, hX]; exact splitF_all ps fun p hp => by have := hall p hp; omega
        have hcb : E ≤ cb := by
          obtain ⟨_, _, e2, h2⟩ := owns_form hob
          injection e2 with _ _ e2
          omega
        obtain ⟨kk, hkk⟩ : ∃ kk, kk = at_ % (E + 1) := ⟨_, rfl⟩
        have hkE : kk ≤ E := by rw [hkk]; have := Nat.mod_lt at_ (show 0 < E + 1 by omega); omega
        have hk1 : (at_ : Int) % ((E : Int) + 1) = (kk : Int) := by rw [hkk]; push_cast; rfl
        obtain ⟨ct, hct⟩ : ∃ ct, ct = cut % 9 := ⟨_, rfl⟩
        have hc1 : (cut : Int) % 9 = (ct : Int) := by omega
        have hc2 : ct ≤ 8 := by omega
        have hc0 : (cut : Int).tmod 9 = (ct : Int) := by rw [Int.tmod_eq_emod_of_nonneg (by omega)]; exact hc1
        obtain ⟨mm, hmm⟩ : ∃ mm, mm = min (kk + ct) E := ⟨_, rfl⟩
        have hm1 : min ((kk : Int) + (ct : Int)) (E : Int) = (mm : Int) := by omega
        have hm2 : mm ≤ E := by omega
        have HOB' := Lib.hid hob
        have HALL := Lib.hid hall
        have HEX := Lib.hid hEX
        have SX := Lib.hid hsx
        clear HOB hob hall hEX hsx hE hkk hct hmm htk H40 hX
        go_wp2_with (fail)
        refine (splitC Ab E cb _ X wr (Reads.of_own HOB'.out) (Nat.le_refl _) (by omega) (by omega)).mono ?_
        rintro e w4 ⟨v4, rfl, hp4, hb4⟩
        rw [SX.out] at hp4 ⊢
        obtain ⟨A4, c4, L4, rfl, hr4, hL4⟩ := hp4.rows
        simp only at hr4
        rw [HPL.out] at hr4 ⊢
        have hz4 := hb4.size
        have HR4 := Lib.hid hr4
        have HL4 := Lib.hid hL4
        have RX := Lib.hid ((Reads.of_own HOB'.out).below hb4)
        have HB4 := Lib.hid (HB.out.trans (hb4.mono hzr))
        clear hp4 hr4 hL4 hb4
        have hbt := HB1.out.trans (HB4.out.mono hz1)
        have hr1 := HR.out.below hbt
        have a1 := rows_small HR4.out fun p hp => HALL.out p (by rw [HL4.out] at hp; exact hp)
        have a2 := rows_small hr1 fun p hp => HALL.out p (by rw [← HPS.out] at hp; exact hp)
        have a3 : decide (bytesOf L4 = bytesOf L) = true := decide_eq_true (by rw [HL4.out, HPS.out])
        have HR1 := Lib.hid hr1
        have HBT := Lib.hid hbt
        have a1 := Lib.hid a1
        have a2 := Lib.hid a2
        have a3 := Lib.hid a3
        clear hr1 hbt
        go_wp2_with (fail)
        refine (eqRows true A4 A k c4 k c _ _ L4 L w4 HR4.out HR1.out a1.out a2.out a3.out (by omega)).mono ?_
        rintro e w5 ⟨rfl, q, rfl⟩
        have HB5 := Lib.hid (bdrewN HB4.out q)
        have RX5 := Lib.hid (show Reads (w4.drewN q) wr.heap.size 1 Ab E (bv X) from RX.out)
        have hz5 : wr.heap.size ≤ (w4.drewN q).heap.size := by exact hz4
        have HM5 := Lib.hid (show Reads (w4.drewN q) w.heap.size 1 A' n' (bv more) from HR'.out.below (HB1.out.trans (HB5.out.mono hz1)))
        clear HB4 RX HR1 HBT a1 a2 a3 HR4 HL4
        generalize w4.drewN q = w5 at *
        go_wp2_with (fail)
        have t0 : (0 : Int) ≤ (kk : Int) := by omega
        have t1 : (kk : Int) ≤ (cb : Int) := by omega
        have t2 : (0 : Int) ≤ (mm : Int) := by omega
        have t3 : (mm : Int) ≤ (E : Int) := by omega
        have t4 : IntKind.i64.wrap ((kk : Int) + (ct : Int)) = (kk : Int) + (ct : Int) := IntWalk.i64_in _ (by omega)
        have t5 : IntKind.u8.wrap ((ct : Int)) = (ct : Int) := IntWalk.u8_in _ (by omega)
        have t6 : IntKind.i64.wrap ((ct : Int)) = (ct : Int) := IntWalk.i64_in _ (by omega)
        have hrp := RX5.out.pre (k := kk) hkE
        have hrc := RX5.out.cut (k := mm) (cap := cb) hm2 hcb
        rw [Nat.mul_one] at hrc
        rw [show (bv X).drop mm = bv (X.drop mm) by simp [bv, List.map_drop]] at hrc
        have HRP := Lib.hid hrp
        have HRC := Lib.hid hrc
        clear hrp hrc
        have RP' := Lib.hid (show Reads w5.drew w5.heap.size 1 Ab kk (bv (X.take kk)) from HRP.out.more hz5)
        have RM' := Lib.hid (show Reads w5.drew w5.heap.size 1 A' n' (bv more) from HM5.out.more (by omega))
        have RC' := Lib.hid (show Reads w5.drew w5.heap.size 1 (if cb = mm then Ab else Ab.map (·.add mm)) (E - mm) (bv (X.drop mm)) from HRC.out.more hz5)
        obtain ⟨Z, hZ⟩ : ∃ Z, Z = X.take kk ++ (more ++ X.drop mm) := ⟨_, rfl⟩
        obtain ⟨lz, hlz⟩ : ∃ lz, lz = Z.length := ⟨_, rfl⟩
        have hl1 : lz ≤ 2000 := by
          rw [hlz, hZ, List.length_append, List.length_append, List.length_take, List.length_drop, ← HEX.out, HNM.out]
          omega
        have HZ := Lib.hid hZ
        have HLZ := Lib.hid hlz
        have HB5' := Lib.hid (HB1.out.trans (HB5.out.mono hz1))
        clear HRP HRC HM5 hZ hlz
        rw [hk1]
        by_cases hcm : cb = mm
        · have hE2 : E = mm := by omega
          have hE1 : E = cb := by omega
          clear hcm
          subst hE1
          subst hE2
          have RC0 := Lib.hid (show Reads w5.drew w5.heap.size 1 Ab 0 (bv (X.drop E)) by have := RC'.out; rw [if_pos rfl, Nat.sub_self] at this; exact this)
          clear RC'
          go_region_held3 (fun _ => True) (trivial) ((go_at_call 24; refine (concat3z6 (B := w5.heap.size) (b0 := X.take kk) (b1 := more) (b2 := X.drop E) (heap_alloc_new w5.drew _) (by rw [World.size_alloc]; exact Nat.le_succ _) (RP'.out.alloc (Nat.le_refl _) _) (RM'.out.alloc (Nat.le_refl _) _) (RC0.out.alloc (Nat.le_refl _) _) (by omega) HZ.out HLZ.out).mono ?_; rintro e w6 ⟨A6, c6, rfl, hown6, hb6⟩))
          have hcz : lz ≤ c6 := by
            obtain ⟨_, _, e2, h2⟩ := owns_form hown6
            injection e2 with _ _ e2
            omega
          have HRZ := Lib.hid (Reads.of_own hown6)
          have bz := (((Below.refl w5.heap.size w5).drew).alloc (Nat.le_refl _) _).trans (hb6.mono (by rw [World.size_alloc]; exact Nat.le_succ _))
          have hz6 := bz.size
          have HB6 := Lib.hid (HB5'.out.trans (bz.mono (by have := HB5'.out.size; omega)))
          clear hown6 hb6 bz RP' RM' RC0 HB5 RX5
          go_wp2_with (fail)
          refine (splitC A6 lz c6 _ Z w6 HRZ.out (Nat.le_refl _) (by omega) hcz).mono ?_
          rintro e w7 ⟨v7, rfl, hp7, hb7⟩
          obtain ⟨A7, c7, L7, rfl, hr7, hL7⟩ := hp7.rows
          have hsm := splitF_small Z.length Z (Nat.le_refl _)
          rw [← HLZ.out] at hsm
          obtain ⟨hsm1, hsm2⟩ := hsm
          obtain ⟨M, hM⟩ : ∃ M, M = (splitF Z).1.length := ⟨_, rfl⟩
          obtain ⟨G, hG⟩ : ∃ G, G = (splitF Z).2 := ⟨_, rfl⟩
          rw [← hM] at hr7 hsm1 ⊢
          rw [← hG]
          have hz7 := hb7.size
          have HM := Lib.hid hM
          have HG := Lib.hid hG
          have HSM := Lib.hid hsm2
          have HR7 := Lib.hid hr7
          have HL7 := Lib.hid hL7
          have HRZ7 := Lib.hid (HRZ.out.below hb7)
          have HB7 := Lib.hid (HB6.out.trans (hb7.mono (by have := HB6.out.size; omega)))
          clear hM hG hsm2 hr7 hL7 hp7 hb7
          go_wp2_with (fail)
          refine (splitL A6 lz c6 _ Z w7 HRZ7.out hz7 (by omega) hcz).mono ?_
          rintro e w8 ⟨A8, c8, L8, rfl, ho8, hk8, hL8, hb8⟩
          have hr8 : RowsAt w8 w8.heap.size A8 (splitF Z).1.length L8 := ⟨Reads.of_own ho8, fun x hx => (hk8 x hx).more (by have := hb8.size; omega)⟩
          clear ho8 hk8
          rw [← HM.out] at hr8 ⊢
          rw [← HG.out]
          have r7 := HR7.out.below hb8
          have a1 := rows_le r7 (k := lz) (by omega) fun p hp => HSM.out p (by rw [HL7.out] at hp; exact hp)
          have a2 := rows_le hr8 (k := lz) (by omega) fun p hp => HSM.out p (by rw [hL8] at hp; exact hp)
          have a3 : decide (bytesOf L7 = bytesOf L8) = true := decide_eq_true (by rw [HL7.out, hL8])
          have R7 := Lib.hid r7
          have R8 := Lib.hid hr8
          have a1 := Lib.hid a1
          have a2 := Lib.hid a2
          have a3 := Lib.hid a3
          have HBF := Lib.hid (HB7.out.trans (hb8.mono (by have := HB7.out.size; omega)))
          clear r7 hr8 hL8 hb8
          go_wp2_with (fail)
          refine (eqRows true A7 A8 M c7 M c8 _ _ L7 L8 w8 R7.out R8.out a1.out a2.out a3.out (by omega)).mono ?_
          rintro e w9 ⟨rfl, q9, rfl⟩
          go_wp2_with (fail)
          go_ret
          exact ⟨rfl, bdrewN HBF.out q9⟩
        · have RC0 := Lib.hid (show Reads w5.drew w5.heap.size 1 (Ab.map (·.add mm)) (E - mm) (bv (X.drop mm)) by have := RC'.out; rw [if_neg hcm] at this; exact this)
          clear RC'
          go_region_held3 (fun _ => True) (trivial) ((go_at_call 24; refine (concat3z6 (B := w5.heap.size) (b0 := X.take kk) (b1 := more) (b2 := X.drop mm) (heap_alloc_new w5.drew _) (by rw [World.size_alloc]; exact Nat.le_succ _) (RP'.out.alloc (Nat.le_refl _) _) (RM'.out.alloc (Nat.le_refl _) _) (RC0.out.alloc (Nat.le_refl _) _) (by omega) HZ.out HLZ.out).mono ?_; rintro e w6 ⟨A6, c6, rfl, hown6, hb6⟩))
          have hcz : lz ≤ c6 := by
            obtain ⟨_, _, e2, h2⟩ := owns_form hown6
            injection e2 with _ _ e2
            omega
          have HRZ := Lib.hid (Reads.of_own hown6)
          have bz := (((Below.refl w5.heap.size w5).drew).alloc (Nat.le_refl _) _).trans (hb6.mono (by rw [World.size_alloc]; exact Nat.le_succ _))
          have hz6 := bz.size
          have HB6 := Lib.hid (HB5'.out.trans (bz.mono (by have := HB5'.out.size; omega)))
          clear hown6 hb6 bz RP' RM' RC0 HB5 RX5
          go_wp2_with (fail)
          refine (splitC A6 lz c6 _ Z w6 HRZ.out (Nat.le_refl _) (by omega) hcz).mono ?_
          rintro e w7 ⟨v7, rfl, hp7, hb7⟩
          obtain ⟨A7, c7, L7, rfl, hr7, hL7⟩ := hp7.rows
          have hsm := splitF_small Z.length Z (Nat.le_refl _)
          rw [← HLZ.out] at hsm
          obtain ⟨hsm1, hsm2⟩ := hsm
          obtain ⟨M, hM⟩ : ∃ M, M = (splitF Z).1.length := ⟨_, rfl⟩
          obtain ⟨G, hG⟩ : ∃ G, G = (splitF Z).2 := ⟨_, rfl⟩
          rw [← hM] at hr7 hsm1 ⊢
          rw [← hG]
          have hz7 := hb7.size
          have HM := Lib.hid hM
          have HG := Lib.hid hG
          have HSM := Lib.hid hsm2
          have HR7 := Lib.hid hr7
          have HL7 := Lib.hid hL7
          have HRZ7 := Lib.hid (HRZ.out.below hb7)
          have HB7 := Lib.hid (HB6.out.trans (hb7.mono (by have := HB6.out.size; omega)))
          clear hM hG hsm2 hr7 hL7 hp7 hb7
          go_wp2_with (fail)
          refine (splitL A6 lz c6 _ Z w7 HRZ7.out hz7 (by omega) hcz).mono ?_
          rintro e w8 ⟨A8, c8, L8, rfl, ho8, hk8, hL8, hb8⟩
          have hr8 : RowsAt w8 w8.heap.size A8 (splitF Z).1.length L8 := ⟨Reads.of_own ho8, fun x hx => (hk8 x hx).more (by have := hb8.size; omega)⟩
          clear ho8 hk8
          rw [← HM.out] at hr8 ⊢
          rw [← HG.out]
          have r7 := HR7.out.below hb8
          have a1 := rows_le r7 (k := lz) (by omega) fun p hp => HSM.out p (by rw [HL7.out] at hp; exact hp)
          have a2 := rows_le hr8 (k := lz) (by omega) fun p hp => HSM.out p (by rw [hL8] at hp; exact hp)
          have a3 : decide (bytesOf L7 = bytesOf L8) = true := decide_eq_true (by rw [HL7.out, hL8])
          have R7 := Lib.hid r7
          have R8 := Lib.hid hr8
          have a1 := Lib.hid a1
          have a2 := Lib.hid a2
          have a3 := Lib.hid a3
          have HBF := Lib.hid (HB7.out.trans (hb8.mono (by have := HB7.out.size; omega)))
          clear r7 hr8 hL8 hb8
          go_wp2_with (fail)
          refine (eqRows true A7 A8 M c7 M c8 _ _ L7 L8 w8 R7.out R8.out a1.out a2.out a3.out (by omega)).mono ?_
          rintro e w9 ⟨rfl, q9, rfl⟩
          go_wp2_with (fail)
          go_ret
          exact ⟨rfl, bdrewN HBF.out q9⟩
  · go_enter Tryd.func7, Tryd.ntmps7
    go_wp2_with (fail)
    refine (awake6_any w hn).mono ?_
    rintro e w1 ⟨rfl, hb1⟩
    clear hn
    by_cases h1 : n ≤ 10
    · have g1 : decide ((10 : Int) < (n : Int)) = false := decide_eq_false (by omega)
      have g2 : decide ((30 : Int) < (n' : Int)) = true := decide_eq_true (by omega)
      clear hbig
      go_wp2_with (fail)
      go_ret
      exact ⟨rfl, hb1⟩
    · have g1 : decide ((10 : Int) < (n : Int)) = true := decide_eq_true (by omega)
      clear hbig
      go_wp2_with (fail)
      go_ret
      exact ⟨rfl, hb1⟩

/-- A log: its disk, its file's name. -/
def LogAt (w : World) (p a : Nat) (k : Txt) : Prop := w.heap[p]? = some (.cells #[.pointer (some ⟨a, 0, none⟩), .string ⟨k.toArray⟩] 80 (0, 0))
theorem LogAt.c0 {w : World} {p a : Nat} {k : Txt} (h : LogAt w p a k) : w.cell? ⟨p, 0, none⟩ = some (.pointer (some ⟨a, 0, none⟩)) := by rw [cell_of_blk h]; rfl
theorem LogAt.c1 {w : World} {p a : Nat} {k : Txt} (h : LogAt w p a k) : w.cell? ⟨p, 1, none⟩ = some (.string ⟨k.toArray⟩) := by rw [cell_of_blk h]; rfl
theorem LogAt.below {w w' : World} {p a : Nat} {k : Txt} (h : LogAt w p a k) (hb : Below w.heap.size w w') : LogAt w' p a k := (hb.block _ (lt_of_heap h)).trans h
theorem LogAt.mod {w w' : World} {p a : Nat} {k : Txt} {F : Nat → Prop} (h : LogAt w p a k) (hm : Mod F w w') (hn : ¬ F p) : LogAt w' p a k := hm.blk h hn
theorem putF_putF (F : Files) (k : FName) (x y : List UInt8 × Nat) : putF (putF F k x) k y = putF F k y := by
  funext z
  unfold putF
  split <;> rfl
theorem own_sep {w : World} {base e n c g : Nat} {A : Option Addr} {xs : List Value} (h : w.ownsRow base e 1 (.slice A n c) n xs) (hg : A.map (·.block) = some g) : base ≤ g := by
  rcases h.2 with ⟨h1, _⟩ | ⟨g', cap, cur, h1, h2, _⟩
  · injection h1 with h1
    subst h1
    cases hg
  · injection h1 with h1
    subst h1
    simp at hg
    omega
/-- Two calls, one behind the other. -/
theorem RetDS.trans {w w1 w2 : World} {B a pw nb' t' : Nat} {C C1 : Nat → Prop} {l room u' : Int} {F' : Files} {v : Value} {e : Ending} (hm : Mod (TouchD C pw) w w1) (hc : ∀ b, C1 b → C b ∨ w.heap.size ≤ b) (hb : Below B w w1) (h : RetDS w1 B C1 nb' a pw l u' room F' t' v e w2) : RetDS w B C nb' a pw l u' room F' t' v e w2 := by
  obtain ⟨h1, C2, h2, h3, h4, h5⟩ := h
  have hs := hm.size
  refine ⟨h1, C2, h2, fun b hb' => ?_, hm.trans h4 (fun k hk hk' => ?_), hb.trans (h5.mono (Nat.le_refl _))⟩
  · rcases h3 b hb' with h | h
    · exact hc b h
    · exact .inr (by omega)
  · rcases hk' with h | h
    · rcases hc k h with h | h
      · exact .inl h
      · omega
    · exact .inr h
set_option maxHeartbeats 4000000 in
set_option maxRecDepth 100000 in
theorem logAppend (B nb a pw t p B' : Nat) (C : Nat → Prop) (l u room : Int) (F : Files) (k : Txt) (bs : List UInt8) (A : Option Addr) (n c : Nat) (w : World) (h : DS B w C nb a pw l u room F t) (hp : LogAt w p a k) (hpc : ¬ C p) (hpp : p ≠ pw) (hnb : nb + 2 ≤ 1000000) (hl : l < 0) (hk : k.length ≤ maxLen) (hr : Reads w B' 1 A n (bv bs)) (hB' : B' ≤ w.heap.size) (hn : n ≤ 100000) (hroom : (t : Int) + ((n + 8 : Nat) : Int) ≤ room) :
    Calls Tryd.prog 32 #[.pointer (some ⟨p, 0, none⟩), .slice A n c] w (RetDS w B C (nb + 2) a pw l (u + 2) room (putF F k (dataF F k ++ wrapF bs, (dataF F k ++ wrapF bs).length)) (t + (n + 8)) (.int .i64 0)) := by
  have HD := Lib.hid h
  have HP := Lib.hid hp
  have HR := Lib.hid hr
  have c0 := hp.c0
  have c1 := hp.c1
  have hplt := lt_of_heap hp
  have hsz := h.size
  clear h hp hr
  go_enter Tryd.func32, Tryd.ntmps32
  go_wp2_with (fail)
  have hlt := HD.out.lt
  go_region_held3 (fun w' => w'.cell? ⟨p, 0, none⟩ = some (.pointer (some ⟨a, 0, none⟩)) ∧ w'.cell? ⟨p, 1, none⟩ = some (.string ⟨k.toArray⟩)) (first | exact ⟨e0, e1⟩ | exact ⟨d0, d1⟩ | exact ⟨c0, c1⟩ | go_keep) ((first
    | (go_at_call 16; refine (wrapC A n c B' bs _ (by exact HR.out) (by exact hB') (by omega)).mono ?_; rintro e w1 ⟨A1, c1', rfl, hown1, hb1⟩; have hbx : Below w.heap.size w w1 := ((Below.refl w.heap.size w).drew).trans hb1; have d0 := cellk hbx hplt c0; have d1 := cellk hbx hplt c1; have HB1 := Lib.hid hbx; clear hbx; have HO1 := Lib.hid hown1; clear hown1 hb1)
    | (go_at_call 33; refine (dsAppend B w1.heap.size C nb a pw t l u room F k (wrapF bs) A1 (n + 8) c1' w1 (HD.out.below HB1.out) (by omega) (.inl hl) hk hroom (Reads.of_own HO1.out) (Nat.le_refl _) (fun g hg hn => (by (have h1 := own_sep HO1.out hg); exact ⟨fun h => Nat.not_lt.2 h1 (hlt g (.inl h)), fun h => Nat.not_lt.2 h1 (hlt g (.inr h))⟩))).mono ?_; rintro e w2 ⟨rfl, C2, hd2, hc2, hm2, hb2⟩; have hp2 := (HP.out.below HB1.out).mod hm2 (fun h => h.elim hpc hpp); have e0 := hp2.c0; have e1 := hp2.c1; have HD2 := Lib.hid hd2; have HC2 := Lib.hid hc2; have HM2 := Lib.hid hm2; have HP2 := Lib.hid hp2; clear hd2 hc2 hm2 hb2 hp2)))
  have hzw := HB1.out.size
  have hp2c : ¬ TouchD C2 pw p := fun h => by
    rcases h with h | h
    · rcases HC2.out p h with h | h
      · exact hpc h
      · omega
    · exact hpp h
  go_wp2_with (fail)
  go_region_held3 (fun w' => w'.cell? ⟨p, 0, none⟩ = some (.pointer (some ⟨a, 0, none⟩)) ∧ w'.cell? ⟨p, 1, none⟩ = some (.string ⟨k.toArray⟩)) (first | exact ⟨f0, f1⟩ | exact ⟨e0, e1⟩ | go_keep) ((go_at_call 45; refine (dsSync B C2 (nb + 1) a pw (t + (n + 8)) l (u + 1) room (putF F k (dataF F k ++ wrapF bs, keptF F k)) k (dataF F k ++ wrapF bs) (keptF F k) _ (HD2.out.below ((Below.refl _ _).drew)) (by omega) (.inl hl) hk (putF_same _ _ _)).mono ?_; rintro e w3 ⟨rfl, C3, hd3, hc3, hm3, hb3⟩; have hp3 := LogAt.mod (by exact HP2.out) hm3 hp2c; have f0 := hp3.c0; have f1 := hp3.c1; have HD3 := Lib.hid hd3; have HC3 := Lib.hid hc3; have HM3 := Lib.hid hm3; have HB3 := Lib.hid hb3; clear hd3 hc3 hm3 hb3 hp3))
  go_wp2_with (fail)
  go_ret
  have hmw := (Mod.of_below (F := TouchD C pw) HB1.out).trans HM2.out (fun _ _ h => h)
  have hd3 := HD3.out
  rw [putF_putF, show nb + 1 + 1 = nb + 2 from rfl, show u + 1 + 1 = u + 2 by omega] at hd3
  refine RetDS.trans hmw (fun b hb => ?_) (HD.out.keeps hmw) ⟨rfl, C3, hd3, HC3.out, HM3.out.undrew, ((Below.refl B w2).drew).trans HB3.out⟩
  rcases HC2.out b hb with h | h
  · exact .inl h
  · exact .inr (by omega)

set_option maxHeartbeats 4000000 in
set_option maxRecDepth 100000 in
theorem logSize (B nb a pw t p : Nat) (C : Nat → Prop) (l u room : Int) (F : Files) (k : Txt) (w : World) (h : DS B w C nb a pw l u room F t) (hp : LogAt w p a k) (hk : k.length ≤ maxLen) :
    Calls Tryd.prog 43 #[.pointer (some ⟨p, 0, none⟩)] w fun e w' => e = .returned (.int .i64 (lenF F k : Nat)) ∧ Below w.heap.size w w' := by
  have HD := Lib.hid h
  have c0 := hp.c0
  have c1 := hp.c1
  have hplt := lt_of_heap hp
  clear h hp
  cases hF : F k with
  | none =>
    have HF := Lib.hid hF
    have hl : lenF F k = 0 := by simp [lenF, hF]
    clear hF
    rw [hl]
    go_enter Tryd.func43, Tryd.ntmps43
    go_wp2_with (fail)
    go_region_held3 (fun w' => w'.cell? ⟨p, 0, none⟩ = some (.pointer (some ⟨a, 0, none⟩)) ∧ w'.cell? ⟨p, 1, none⟩ = some (.string ⟨k.toArray⟩)) (first | exact ⟨c0, c1⟩ | go_keep) ((go_at_call 34; refine (dsReadNone B C nb a pw t l u room F k _ (HD.out.below ((Below.refl _ _).drew)) hk HF.out).mono ?_; rintro e w1 ⟨rfl, rfl⟩))
    go_wp2_with (fail)
    go_ret
    exact ⟨rfl, (Below.refl _ _).drew⟩
  | some x =>
    obtain ⟨bs, kept⟩ := x
    have HF := Lib.hid hF
    have hl : lenF F k = bs.length := by simp [lenF, hF]
    clear hF
    rw [hl]
    go_enter Tryd.func43, Tryd.ntmps43
    go_wp2_with (fail)
    go_region_held3 (fun w' => w'.cell? ⟨p, 0, none⟩ = some (.pointer (some ⟨a, 0, none⟩)) ∧ w'.cell? ⟨p, 1, none⟩ = some (.string ⟨k.toArray⟩)) (first | exact ⟨d0, d1⟩ | exact ⟨c0, c1⟩ | go_keep) ((go_at_call 34; refine (dsRead B C nb a pw t l u room F k bs kept _ (HD.out.below ((Below.refl _ _).drew)) hk HF.out).mono ?_; rintro e w1 ⟨v, A1, c1', rfl, rfl, _, _, hb1⟩; have hbx : Below w.heap.size w w1 := ((Below.refl w.heap.size w).drew).trans hb1; have d0 := cellk hbx hplt c0; have d1 := cellk hbx hplt c1; have HB1 := Lib.hid hbx; clear hbx hb1))
    go_wp2_with (fail)
    go_ret
    exact ⟨rfl, HB1.out⟩
set_option maxHeartbeats 4000000 in
set_option maxRecDepth 100000 in
theorem logClear (B nb a pw t p kept : Nat) (C : Nat → Prop) (l u room : Int) (F : Files) (k : Txt) (bs : List UInt8) (w : World) (h : DS B w C nb a pw l u room F t) (hp : LogAt w p a k) (hpc : ¬ C p) (hpp : p ≠ pw) (hnb : nb + 1 ≤ 1000000) (hl : l < 0) (hk : k.length ≤ maxLen) (hF : F k = some (bs, kept)) :
    Calls Tryd.prog 44 #[.pointer (some ⟨p, 0, none⟩)] w (RetDS w B C (nb + 1) a pw l (u + 1) room (putF F k ([], 0)) (t - bs.length) (.int .i64 0)) := by
  have HD := Lib.hid h
  have HP := Lib.hid hp
  have HF := Lib.hid hF
  have c0 := hp.c0
  have c1 := hp.c1
  have hplt := lt_of_heap hp
  clear h hp hF
  go_enter Tryd.func44, Tryd.ntmps44
  go_wp2_with (fail)
  go_region_held3 (fun w' => w'.cell? ⟨p, 0, none⟩ = some (.pointer (some ⟨a, 0, none⟩)) ∧ w'.cell? ⟨p, 1, none⟩ = some (.string ⟨k.toArray⟩)) (first | exact ⟨d0, d1⟩ | exact ⟨c0, c1⟩ | go_keep) ((go_at_call 34; refine (dsRead B C nb a pw t l u room F k bs kept _ (HD.out.below ((Below.refl _ _).drew)) hk HF.out).mono ?_; rintro e w1 ⟨v, A1, c1', rfl, rfl, _, _, hb1⟩; have hbx : Below w.heap.size w w1 := ((Below.refl w.heap.size w).drew).trans hb1; have d0 := cellk hbx hplt c0; have d1 := cellk hbx hplt c1; have HB1 := Lib.hid hbx; clear hbx hb1))
  have hd1 := HD.out.below HB1.out
  have hp1 := HP.out.below HB1.out
  have HD1 := Lib.hid hd1
  have HP1 := Lib.hid hp1
  have hz1 := HB1.out.size
  have hpt : ¬ TouchD C pw p := fun h => h.elim hpc hpp
  clear hd1 hp1
  go_wp2_with (fail)
  go_region_held3 (fun w' => w'.cell? ⟨p, 0, none⟩ = some (.pointer (some ⟨a, 0, none⟩)) ∧ w'.cell? ⟨p, 1, none⟩ = some (.string ⟨k.toArray⟩)) (first | exact ⟨f0, f1⟩ | exact ⟨d0, d1⟩ | go_keep) ((go_at_call 53; refine (dsCut B C nb a pw t 0 l u room F k bs kept _ (HD1.out.below ((Below.refl _ _).drew)) (by omega) (.inl hl) hk HF.out (Nat.zero_le _)).mono ?_; rintro e w3 ⟨rfl, C3, hd3, hc3, hm3, hb3⟩; have hp3 := LogAt.mod (by exact HP1.out) hm3 hpt; have f0 := hp3.c0; have f1 := hp3.c1; have HD3 := Lib.hid hd3; have HC3 := Lib.hid hc3; have HM3 := Lib.hid hm3; have HB3 := Lib.hid hb3; clear hd3 hc3 hm3 hb3 hp3))
  go_wp2_with (fail)
  go_ret
  have hmw := Mod.of_below (F := TouchD C pw) HB1.out
  exact RetDS.trans hmw (fun b hb => .inl hb) (HD.out.keeps hmw) ⟨rfl, C3, HD3.out, HC3.out, HM3.out.undrew, ((Below.refl B w1).drew).trans HB3.out⟩

theorem splitF_le : ∀ (k : Nat) (bs : List UInt8), bs.length ≤ k → (splitF bs).2 ≤ bs.length := by
  intro k
  induction k with
  | zero =>
    intro bs h
    have hb : bs = [] := List.length_eq_zero_iff.1 (by omega)
    rw [hb, splitF_none (by decide)]
    exact Nat.le_refl _
  | succ k ih =>
    intro bs h
    cases hs : split1 bs with
    | none => rw [splitF_none hs]; exact Nat.zero_le _
    | some x =>
      obtain ⟨p, r⟩ := x
      have hl := (split1_len hs).1
      have h1 := ih r (by omega)
      rw [splitF_some hs]
      simp only
      omega
theorem owns_mod {w w' : World} {base e size n : Nat} {v : Value} {xs : List Value} {F : Nat → Prop} (h : w.ownsRow base e size v n xs) (hm : Mod F w w') (hn : ∀ g, base ≤ g → ¬ F g) : w'.ownsRow base e size v n xs := by
  refine ⟨h.1, ?_⟩
  rcases h.2 with h2 | ⟨g, cap, cur, h2, h3, h4, h5⟩
  · exact .inl h2
  · exact .inr ⟨g, cap, cur, h2, h3, hm.blk h4 (hn g h3), h5⟩
theorem Pieces.mod {w w' : World} {base : Nat} {v : Value} {ps : List (List UInt8)} {F : Nat → Prop} (h : Pieces w base v ps) (hm : Mod F w w') (hn : ∀ g, base ≤ g → ¬ F g) : Pieces w' base v ps := by
  obtain ⟨L, h1, h2, h3⟩ := h
  exact ⟨L, h1, owns_mod h2 hm hn, fun x hx => owns_mod (h3 x hx) hm hn⟩
theorem Pieces.lower {w : World} {base base' : Nat} {v : Value} {ps : List (List UInt8)} (h : Pieces w base v ps) (hb : base' ≤ base) : Pieces w base' v ps := by
  obtain ⟨L, h1, h2, h3⟩ := h
  exact ⟨L, h1, owns_lower h2 hb, fun x hx => owns_lower (h3 x hx) hb⟩
/-- The files behind an opening. -/
def openF (F : Files) (k : FName) : Files := match F k with
  | some x => putF F k (x.1.take (splitF x.1).2, (splitF x.1).2)
  | none => F
/-- A log is answered, and the pieces that its file has; the file has these alone. -/
def RetOpen (w : World) (B : Nat) (C : Nat → Prop) (nb a pw : Nat) (l room : Int) (F : Files) (k : Txt) (e : Ending) (w' : World) : Prop :=
  ∃ (p : Nat) (v : Value) (C' : Nat → Prop) (u' : Int) (t' : Nat), e = .returned (.tuple #[.pointer (some ⟨p, 0, none⟩), v, .int .i64 0]) ∧ DS B w' C' (nb + 1) a pw l u' room (openF F k) t' ∧ (∀ b, C' b → C b ∨ w.heap.size ≤ b) ∧ Mod (TouchD C pw) w w' ∧ LogAt w' p a k ∧ w.heap.size ≤ p ∧ ¬ C' p ∧ Pieces w' w.heap.size v (splitF (dataF F k)).1
set_option maxHeartbeats 4000000 in
set_option maxRecDepth 100000 in
theorem logOpen_none (B nb a pw t : Nat) (C : Nat → Prop) (l u room : Int) (F : Files) (k : Txt) (w : World) (h : DS B w C nb a pw l u room F t) (hnb : nb + 1 ≤ 1000000) (hk : k.length ≤ maxLen) (hF : F k = none) :
    Calls Tryd.prog 31 #[.pointer (some ⟨a, 0, none⟩), .string ⟨k.toArray⟩] w (RetOpen w B C nb a pw l room F k) := by
  have HD := Lib.hid h
  have HF := Lib.hid hF
  clear h hF
  go_enter Tryd.func31, Tryd.ntmps31
  go_wp2_with (fail)
  refine (dsReadNone B C nb a pw t l u room F k _ (HD.out.below ((Below.refl _ _).alloc (Nat.le_refl _) _)) hk HF.out).mono ?_
  rintro e w1 ⟨rfl, rfl⟩
  go_wp2_with (fail)
  refine bodyPost_ret (v := .tuple #[.pointer (some ⟨w.heap.size, 0, none⟩), .slice none 0 0, .int .i64 0]) (by simp [results, Tryd.results31, go_sem, *]) rfl ?_
  have hb := (Below.refl w.heap.size w).alloc (Nat.le_refl _) (.cells #[.pointer (some ⟨a, 0, none⟩), .string ⟨k.toArray⟩] 80 (0, 0))
  refine ⟨_, _, C, u, t, rfl, ?_, fun b hb => .inl hb, Mod.of_below hb, heap_alloc_new _ _, Nat.le_refl _, fun h => ?_, ?_⟩
  · have : openF F k = F := by simp [openF, HF.out]
    rw [this]
    exact (HD.out.below hb).more (by omega) hnb
  · have := HD.out.lt _ (.inl h)
    omega
  · have : (splitF (dataF F k)).1 = [] := by simp [dataF, HF.out]; rw [splitF_none (by decide)]
    rw [this]
    exact Pieces.nil _ _
set_option maxHeartbeats 4000000 in
set_option maxRecDepth 100000 in
theorem logOpen_some (B nb a pw t kept : Nat) (C : Nat → Prop) (l u room : Int) (F : Files) (k : Txt) (bs : List UInt8) (w : World) (h : DS B w C nb a pw l u room F t) (hnb : nb + 1 ≤ 1000000) (hl : l < 0) (hk : k.length ≤ maxLen) (hF : F k = some (bs, kept)) :
    Calls Tryd.prog 31 #[.pointer (some ⟨a, 0, none⟩), .string ⟨k.toArray⟩] w (RetOpen w B C nb a pw l room F k) := by
  have hlt := h.lt
  have hln : bs.length ≤ 1000000 := by
    have h1 := h.tot.one k
    have h2 : lenF F k = bs.length := by simp [lenF, hF]
    have := h.t1
    have := h.r1
    omega
  have hkp := h.kept k bs kept hF
  have hop : openF F k = putF F k (bs.take (splitF bs).2, (splitF bs).2) := by simp [openF, hF]
  have hda : dataF F k = bs := by simp [dataF, hF]
  have hgl := splitF_le bs.length bs (Nat.le_refl _)
  have HD := Lib.hid h
  have HF := Lib.hid hF
  have HOP := Lib.hid hop
  have HDA := Lib.hid hda
  clear h hF hop hda
  obtain ⟨G, hG⟩ : ∃ G, G = (splitF bs).2 := ⟨_, rfl⟩
  obtain ⟨len, hlen⟩ : ∃ len, len = bs.length := ⟨_, rfl⟩
  rw [← hG] at hgl
  rw [← hlen] at hgl hln hkp
  have HG := Lib.hid hG
  have HLEN := Lib.hid hlen
  clear hG hlen
  go_enter Tryd.func31, Tryd.ntmps31
  go_wp2_with (fail)
  have hb1 := (Below.refl w.heap.size w).alloc (Nat.le_refl _) (.cells #[.pointer (some ⟨a, 0, none⟩), .string ⟨k.toArray⟩] 80 (0, 0))
  have hp1 : LogAt (w.alloc (.cells #[.pointer (some ⟨a, 0, none⟩), .string ⟨k.toArray⟩] 80 (0, 0))) w.heap.size a k := heap_alloc_new _ _
  have hs1 : (w.alloc (.cells #[.pointer (some ⟨a, 0, none⟩), .string ⟨k.toArray⟩] 80 (0, 0))).heap.size = w.heap.size + 1 := World.size_alloc _ _
  have HD1 := Lib.hid (HD.out.below hb1)
  generalize w.alloc (.cells #[.pointer (some ⟨a, 0, none⟩), .string ⟨k.toArray⟩] 80 (0, 0)) = w1 at *
  refine (dsRead B C nb a pw t l u room F k bs kept w1 HD1.out hk HF.out).mono ?_
  rintro e w2 ⟨v, A2, c2, rfl, rfl, hrow2, _, hb2⟩
  rw [← HLEN.out] at hrow2 ⊢
  have hc2 : len ≤ c2 := by
    obtain ⟨_, _, e2, h2⟩ := hrow2.form
    injection e2 with _ _ e2
    omega
  have hz2 := hb2.size
  have hp2 := hp1.below hb2
  have HD2 := Lib.hid (HD1.out.below hb2)
  have HB2 := Lib.hid (hb1.trans (hb2.mono (by omega)))
  have HR2 := Lib.hid hrow2.reads
  clear hrow2 hb2 hp1 hb1 HD1
  go_wp2_with (fail)
  refine (splitC A2 len c2 _ bs w2 HR2.out (Nat.le_refl _) (by omega) hc2).mono ?_
  rintro e w3 ⟨v3, rfl, hpc3, hb3⟩
  rw [← HG.out]
  obtain ⟨A3, c3, rfl, _⟩ := hpc3.form
  have hz3 := hb3.size
  have hp3 := hp2.below hb3
  have HD3 := Lib.hid (HD2.out.below hb3)
  have HB3 := Lib.hid (HB2.out.trans (hb3.mono (by omega)))
  have HPC := Lib.hid hpc3
  clear hpc3 hb3 hp2 HD2 HB2
  by_cases hg : G < len
  · have hgd : decide (G < len) = true := decide_eq_true hg
    go_wp2_with (fail)
    refine (dsCut B C nb a pw t G l u room F k bs kept w3 HD3.out (by omega) (.inl hl) hk HF.out (by rw [← HLEN.out]; omega)).mono ?_
    rintro e w4 ⟨rfl, C4, hd4, hc4, hm4, hb4⟩
    have HD4 := Lib.hid hd4
    have HC4 := Lib.hid hc4
    have HM4 := Lib.hid hm4
    clear hd4 hc4 hm4 hb4
    go_wp2_with (fail)
    refine bodyPost_ret (v := .tuple #[.pointer (some ⟨w.heap.size, 0, none⟩), .slice A3 (splitF bs).1.length c3, .int .i64 0]) (by simp [results, Tryd.results31, go_sem, *]) rfl ?_
    have hpt : ∀ g, w.heap.size ≤ g → ¬ TouchD C pw g := fun g hg h => Nat.not_lt.2 hg (hlt g h)
    refine ⟨_, _, C4, u + 1, _, rfl, by rw [HOP.out, ← HG.out]; exact HD4.out, fun b hb => ?_, (Mod.of_below HB3.out).trans HM4.out (fun _ _ h => h), hp3.mod HM4.out (hpt _ (Nat.le_refl _)), Nat.le_refl _, fun h => ?_, ?_⟩
    · rcases HC4.out b hb with h | h
      · exact .inl h
      · exact .inr (by omega)
    · rcases HC4.out _ h with h | h
      · exact hpt _ (Nat.le_refl _) (.inl h)
      · omega
    · rw [HDA.out]
      exact (HPC.out.mod HM4.out (fun g hg => hpt g (by omega))).lower (by omega)
  · have hgd : decide (G < len) = false := decide_eq_false hg
    go_wp2_with (fail)
    refine (dsKept B C nb a pw t l u room F k w3 HD3.out hk).mono ?_
    rintro e w4 ⟨rfl, rfl⟩
    have hkf : keptF F k = kept := by simp [keptF, HF.out]
    rw [hkf]
    clear hkf
    by_cases hkg : kept < G
    · have hkd : decide (kept < G) = true := decide_eq_true hkg
      go_wp2_with (fail)
      refine (dsCut B C nb a pw t G l u room F k bs kept w4 HD3.out (by omega) (.inl hl) hk HF.out (by rw [← HLEN.out]; omega)).mono ?_
      rintro e w5 ⟨rfl, C4, hd4, hc4, hm4, hb4⟩
      have HD4 := Lib.hid hd4
      have HC4 := Lib.hid hc4
      have HM4 := Lib.hid hm4
      clear hd4 hc4 hm4 hb4
      go_wp2_with (fail)
      refine bodyPost_ret (v := .tuple #[.pointer (some ⟨w.heap.size, 0, none⟩), .slice A3 (splitF bs).1.length c3, .int .i64 0]) (by simp [results, Tryd.results31, go_sem, *]) rfl ?_
      have hpt : ∀ g, w.heap.size ≤ g → ¬ TouchD C pw g := fun g hg h => Nat.not_lt.2 hg (hlt g h)
      refine ⟨_, _, C4, u + 1, _, rfl, by rw [HOP.out, ← HG.out]; exact HD4.out, fun b hb => ?_, (Mod.of_below HB3.out).trans HM4.out (fun _ _ h => h), hp3.mod HM4.out (hpt _ (Nat.le_refl _)), Nat.le_refl _, fun h => ?_, ?_⟩
      · rcases HC4.out b hb with h | h
        · exact .inl h
        · exact .inr (by omega)
      · rcases HC4.out _ h with h | h
        · exact hpt _ (Nat.le_refl _) (.inl h)
        · omega
      · rw [HDA.out]
        exact (HPC.out.mod HM4.out (fun g hg => hpt g (by omega))).lower (by omega)
    · have hkd : decide (kept < G) = false := decide_eq_false hkg
      go_wp2_with (fail)
      refine bodyPost_ret (v := .tuple #[.pointer (some ⟨w.heap.size, 0, none⟩), .slice A3 (splitF bs).1.length c3, .int .i64 0]) (by simp [results, Tryd.results31, go_sem, *]) rfl ?_
      have hsame : openF F k = F := by
        rw [HOP.out, ← HG.out, List.take_of_length_le (by rw [← HLEN.out]; omega)]
        funext z
        unfold putF
        split
        · rename_i hz
          rw [hz, HF.out, show kept = G by omega]
        · rfl
      refine ⟨_, _, C, u, t, rfl, by rw [hsame]; exact HD3.out.more (by omega) hnb, fun b hb => .inl hb, Mod.of_below HB3.out, hp3, Nat.le_refl _, fun h => ?_, ?_⟩
      · have := hlt _ (.inl h)
        omega
      · rw [HDA.out]
        exact HPC.out.lower (by omega)

set_option maxHeartbeats 4000000 in
set_option maxRecDepth 100000 in
theorem light7 (v : Bool) (A : Option Addr) (n c B : Nat) (L : BL) (w : World) (hr : RowsAt w B A n L) (hn : n ≤ 9223372036854775807) (hv : decide ((∀ x ∈ L, x.2.1 ≤ 40) ∧ n ≤ 12) = v) :
    Calls Tryd.prog 29 #[.slice A n c] w fun e w' => e = .returned (.bool v) ∧ w' = w := by
  have hl := hr.len
  have HR := Lib.hid hr
  have HL := Lib.hid hl
  have HV := Lib.hid hv
  clear hr hl hv
  go_enter Tryd.func29, Tryd.ntmps29
  go_wp2_with (fail)
  go_loopw [7] (fun i wr => ∃ k : Nat, k ≤ n ∧ i = .int .i64 k ∧ Hid (∀ j x, j < k → L[j]? = some x → x.2.1 ≤ 40) ∧ wr = w) (fun i _ => n - (intOf i).toNat)
  case atStart => exact ⟨0, Nat.zero_le _, rfl, Lib.hid (fun j x h => by omega), rfl⟩
  case round =>
    obtain ⟨k, hk, rfl, H40, rfl⟩ := hrel
    by_cases hlt : k < n
    · obtain ⟨x, hx⟩ : ∃ x, L[k]? = some x := ⟨L[k]'(by rw [HL.out]; exact hlt), List.getElem?_eq_getElem _⟩
      obtain ⟨ad, rfl, had, hc⟩ := HR.out.1.2 (by omega)
      have d0 : wr.cell? (ad.add k) = some (.slice x.1 x.2.1 x.2.2.1) := hc k (slV x) (by rw [List.getElem?_map, hx]; rfl)
      obtain ⟨a1, n1, c1, p⟩ := x
      simp only at d0
      have HX := Lib.hid hx
      have hin0 : (0 : Int) ≤ (k : Int) := by omega
      have hin1 : (k : Int) < (n : Int) := by omega
      clear hx hc
      by_cases h40 : n1 ≤ 40
      · have g2 : decide ((40 : Int) < (n1 : Int)) = false := decide_eq_false (by omega)
        go_wp2_with (fail)
        refine ⟨⟨k + 1, by omega, by go_num, Lib.hid (fun j y hj hy => ?_), trivial⟩, by simp [intOf]; omega⟩
        by_cases hjk : j = k
        · subst hjk
          obtain rfl := Option.some.inj (HX.out.symm.trans hy)
          exact h40
        · exact H40.out j y (by omega) hy
      · have g2 : decide ((40 : Int) < (n1 : Int)) = true := decide_eq_true (by omega)
        have hF : v = false := by
          rw [← HV.out]
          exact decide_eq_false fun h => h40 (h.1 _ (List.mem_of_getElem? HX.out))
        subst hF
        go_wp2_with (fail)
        go_ret
        exact ⟨rfl, rfl⟩
    · obtain rfl : k = n := by omega
      have hall : ∀ x ∈ L, x.2.1 ≤ 40 := fun x hx => by
        obtain ⟨j, hj⟩ := List.getElem?_of_mem hx
        exact H40.out j x (by have := (List.getElem?_eq_some_iff.1 hj).1; rw [HL.out] at this; exact this) hj
      have hv : decide (k ≤ 12) = v := by
        rw [← HV.out]
        simp only [decide_eq_decide]
        exact ⟨fun h => ⟨hall, h⟩, fun h => h.2⟩
      clear hall
      go_wp2_with (fail)
      go_ret
      have hv' : decide ((k : Int) ≤ 12) = v := by
        rw [← hv]
        simp only [decide_eq_decide]
        omega
      exact ⟨congrArg (fun b => Ending.returned (.bool b)) hv', rfl⟩

set_option maxHeartbeats 4000000 in
set_option maxRecDepth 100000 in
theorem logOpen_new (B nb a pw t : Nat) (C : Nat → Prop) (l u room : Int) (F : Files) (k : Txt) (w : World) (h : DS B w C nb a pw l u room F t) (hk : k.length ≤ maxLen) (hF : F k = none) :
    Calls Tryd.prog 31 #[.pointer (some ⟨a, 0, none⟩), .string ⟨k.toArray⟩] w fun e w' => e = .returned (.tuple #[.pointer (some ⟨w.heap.size, 0, none⟩), .slice none 0 0, .int .i64 0]) ∧ LogAt w' w.heap.size a k ∧ Below w.heap.size w w' := by
  have HD := Lib.hid h
  have HF := Lib.hid hF
  clear h hF
  go_enter Tryd.func31, Tryd.ntmps31
  go_wp2_with (fail)
  refine (dsReadNone B C nb a pw t l u room F k _ (HD.out.below ((Below.refl _ _).alloc (Nat.le_refl _) _)) hk HF.out).mono ?_
  rintro e w1 ⟨rfl, rfl⟩
  go_wp2_with (fail)
  refine bodyPost_ret (v := .tuple #[.pointer (some ⟨w.heap.size, 0, none⟩), .slice none 0 0, .int .i64 0]) (by simp [results, Tryd.results31, go_sem, *]) rfl ?_
  exact ⟨rfl, heap_alloc_new _ _, (Below.refl w.heap.size w).alloc (Nat.le_refl _) _⟩
set_option maxHeartbeats 4000000 in
set_option maxRecDepth 100000 in
theorem awake7_any (w : World) (hn : NoneLaid w) : Calls Tryd.prog 28 #[] w fun e w' => e = .returned (.bool true) ∧ Below w.heap.size w w' := by
  go_enter Tryd.func28, Tryd.ntmps28
  go_wp2_with (fail)
  refine (awake6_any w hn).mono ?_
  rintro e w1 ⟨rfl, hb1⟩
  clear hn
  have hz1 := hb1.size
  go_wp2_with (fail)
  refine (dsNew 100 w1 (by omega) (by omega)).mono ?_
  rintro e w2 ⟨C, a, pw, rfl, hd, hb2⟩
  have hz2 := hb2.size
  have hlt := hd.lt
  have HD := Lib.hid hd
  have HB2 := Lib.hid (hb1.trans (hb2.mono hz1))
  clear hd hb1 hb2
  go_wp2_with (fail)
  refine (logOpen_new w1.heap.size 0 a pw 0 C (-1) 0 100 (fun _ => none) [108, 111, 103] w2 HD.out (by decide) rfl).mono ?_
  rintro e w3 ⟨rfl, hp3, hb3⟩
  have hz3 := hb3.size
  have hpc : ¬ C w2.heap.size := fun h => Nat.lt_irrefl _ (hlt _ (.inl h))
  have hpp : w2.heap.size ≠ pw := fun h => by have := hlt pw (.inr rfl); omega
  have HD3 := Lib.hid (HD.out.below hb3)
  have HP3 := Lib.hid hp3
  have HB3 := Lib.hid (HB2.out.trans (hb3.mono (by omega)))
  obtain ⟨p, hpe⟩ : ∃ p, p = w2.heap.size := ⟨_, rfl⟩
  rw [← hpe] at HP3 hpc hpp ⊢
  clear hp3 hb3 hpe
  go_wp2_with (fail)
  have hba := (Below.refl w3.heap.size w3).alloc (Nat.le_refl _) (.cells #[.int .u8 7] 5 (0, 0))
  have hrd : Reads (w3.alloc (.cells #[.int .u8 7] 5 (0, 0))) (w3.alloc (.cells #[.int .u8 7] 5 (0, 0))).heap.size 1 (some ⟨w3.heap.size, 0, none⟩) 1 (bv [7]) := reads_blk (heap_alloc_new w3 (.cells #[.int .u8 7] 5 (0, 0))) rfl
  have HD4 := Lib.hid (HD3.out.below hba)
  have HP4 := Lib.hid (HP3.out.below hba)
  have HR4 := Lib.hid hrd
  have HB4 := Lib.hid (HB3.out.trans (hba.mono (by omega)))
  clear hba hrd
  generalize w3.alloc (.cells #[.int .u8 7] 5 (0, 0)) = w4 at *
  refine (logAppend w1.heap.size 0 a pw 0 p w4.heap.size C (-1) 0 100 (fun _ => none) [108, 111, 103] [7] _ 1 1 w4 HD4.out HP4.out hpc hpp (by omega) (by omega) (by decide) HR4.out (Nat.le_refl _) (by omega) (by decide)).mono ?_
  rintro e w5 ⟨rfl, C5, hd5, hc5, hm5, hb5⟩
  have HD5 := Lib.hid hd5
  have HP5 := Lib.hid (HP4.out.mod hm5 (fun h => h.elim hpc hpp))
  have HB5 := Lib.hid (HB4.out.trans (hb5.mono hz1))
  clear hd5 hc5 hm5 hb5
  go_wp2_with (fail)
  refine (logSize w1.heap.size 2 a pw _ p C5 (-1) _ 100 _ [108, 111, 103] w5 HD5.out HP5.out (by decide)).mono ?_
  rintro e w6 ⟨rfl, hb6⟩
  have h9 : lenF (putF (fun _ => none) [108, 111, 103] (dataF (fun _ => none) [108, 111, 103] ++ wrapF [7], (dataF (fun _ => none) [108, 111, 103] ++ wrapF [7]).length)) [108, 111, 103] = 9 := by
    simp only [lenF, putF_same, dataF, List.nil_append, wrapF_len]
    rfl
  rw [h9]
  clear h9
  go_wp2_with (fail)
  go_ret
  exact ⟨rfl, HB5.out.trans (hb6.mono (by have := HB5.out.size; omega))⟩

set_option maxHeartbeats 8000000 in
set_option maxRecDepth 100000 in
theorem raw7 (A : Option Addr) (n c at_ cut : Nat) (L : BL) (A' : Option Addr) (n' c' : Nat) (more : List UInt8) (sync : Bool) (w : World) (hn : NoneLaid w) (hr : RowsAt w w.heap.size A n L) (hnb : n ≤ 9223372036854775807) (hat : at_ < 65536) (hcut : cut < 256) (hr' : Reads w w.heap.size 1 A' n' (bv more)) :
    Calls Tryd.prog 14 #[.slice A n c, .int .u16 at_, .int .u8 cut, .slice A' n' c', .bool sync] w fun e w' => e = .returned (.bool true) ∧ Below w.heap.size w w' := by
  have hl := hr.len
  have HR := Lib.hid hr
  have HL := Lib.hid hl
  have HR' := Lib.hid hr'
  have HNM := Lib.hid (show more.length = n' by have := hr'.1; rw [bv_length] at this; omega)
  clear hr hl hr'
  go_enter Tryd.func14, Tryd.ntmps14
  go_wp2_with (fail)
  refine (awake7_any w hn).mono ?_
  rintro e w1 ⟨rfl, hb1⟩
  clear hn
  have hz1 := hb1.size
  have HB1 := Lib.hid hb1
  clear hb1
  go_wp2_with (fail)
  by_cases hlight : (∀ x ∈ L, x.2.1 ≤ 40) ∧ n ≤ 12
  · refine (light7 true A n c _ L w1 (HR.out.below HB1.out) hnb (decide_eq_true hlight)).mono ?_
    rintro e w1' ⟨rfl, hw1'⟩
    rw [hw1']
    clear hw1' w1'
    obtain ⟨h40, hs1⟩ := hlight
    by_cases hs2 : n' ≤ 40
    · have g3 : decide ((40 : Int) < (n' : Int)) = false := decide_eq_false (by omega)
      obtain ⟨ps, hps⟩ : ∃ ps, ps = bytesOf L := ⟨_, rfl⟩
      have hpl : ps.length = n := by rw [hps]; simp [bytesOf, HL.out]
      have HPS := Lib.hid hps
      have HPL := Lib.hid hpl
      have H40 := Lib.hid h40
      clear hps hpl h40
      go_wp2_with (fail)
      go_loopw [11, 35] (fun vb i wr => ∃ (k : Nat) (Ab : Option Addr) (cb : Nat), k ≤ n ∧ i = .int .i64 k ∧ vb = .slice Ab (endF ps k) cb ∧ Hid (wr.ownsRow w1.heap.size 5 1 (.slice Ab (endF ps k) cb) (endF ps k) (bv (rowsF (ps.take k)))) ∧ Hid (Below w1.heap.size w1 wr) ∧ endF ps k ≤ 48 * k) (fun _ i _ => n - (intOf i).toNat)
      case atStart => exact ⟨0, none, 0, Nat.zero_le _, rfl, rfl, Lib.hid (World.ownsRow_nil _ _ _ _), Lib.hid (Below.refl _ _), Nat.le_refl _⟩
      case round =>
        obtain ⟨k, Ab, cb, hk, rfl, rfl, HOB, HB, hel⟩ := hrel
        have hzr := HB.out.size
        by_cases hlt : k < n
        · obtain ⟨x, hx⟩ : ∃ x, L[k]? = some x := ⟨L[k]'(by rw [HL.out]; exact hlt), List.getElem?_eq_getElem _⟩
          obtain ⟨ad, rfl, had, hc⟩ := HR.out.1.2 (by omega)
          have hbw := HB1.out.trans (HB.out.mono hz1)
          have d0 : wr.cell? (ad.add k) = some (.slice x.1 x.2.1 x.2.2.1) := cellk hbw (by rw [block_of_add]; exact had) (hc k (slV x) (by rw [List.getElem?_map, hx]; rfl))
          have r0 := (HR.out.2 x (List.mem_of_getElem? hx)).below hbw
          have h40 := H40.out x (List.mem_of_getElem? hx)
          have hp : ps[k]? = some x.2.2.2 := by rw [HPS.out]; exact bytesOf_get hx
          obtain ⟨a1, n1, c1, p⟩ := x
          simp only at d0 r0 hp h40
          have hpn : p.length = n1 := by have := r0.1; rw [bv_length] at this; omega
          have hes := endF_succ hp
          have hrt := rowsF_take hp
          rw [hpn] at hes
          have hin0 : (0 : Int) ≤ (k : Int) := by omega
          have hin1 : (k : Int) < (n : Int) := by omega
          have R0 := Lib.hid r0
          have HES := Lib.hid hes
          have HRT := Lib.hid hrt
          have HBW := Lib.hid hbw
          clear hx hc r0 hp hpn hes hrt hbw
          obtain ⟨E, hE⟩ : ∃ E, E = endF ps k := ⟨_, rfl⟩
          rw [← hE] at HOB HES hel ⊢
          clear hE
          obtain ⟨i0, hi, hz0, hz1', hz2⟩ := info_parts info_u8
          go_wp2_with (fail)
          refine (wrapL a1 n1 c1 _ p wr R0.out (HBW.out.size) (by omega)).mono ?_
          rintro e w3 ⟨A3, c3, rfl, hown3, hb3⟩
          have hz3 := hb3.size
          have HO3 := Lib.hid (Reads.of_own hown3)
          have HOB3 := Lib.hid (owns_bel HOB.out hb3)
          have HB3 := Lib.hid (HB.out.trans (hb3.mono hzr))
          clear hown3 hb3
          go_wp2_with (at_builtin; (refine wpList_append_any _ rfl (.tmp 39) (.tmp 41) 22 rfl w1.heap.size 5 i0 (.int .u8 0) 1 1 Tryd.underlying22 hi hz0 hz1' hz2 rfl (by decide) (.slice Ab E cb) E (bv (rowsF (ps.take k))) rfl HOB3.out _ A3 (n1 + 8) c3 (bv (wrapF p)) rfl HO3.out (bv_one _) (by unfold maxLen; omega) (by omega) (by omega) ?_; intro v5 w5 hown5 hgr5 _; obtain ⟨A5, c5, rfl, hc5⟩ := owns_form hown5))
          have hb5 := HB3.out.grown hgr5 (by omega) (fun j hj => (HOB3.out.lt j hj).1)
          refine ⟨⟨k + 1, A5, c5, by omega, by go_num, by rw [HES.out], Lib.hid ?_, Lib.hid hb5, by rw [HES.out]; omega⟩, by simp [intOf]; omega⟩
          rw [HES.out, HRT.out, bv_append]
          exact hown5
        · obtain rfl : k = n := by omega
          have hall : ∀ p ∈ ps, p.length ≤ 40 := fun p hp => by
            rw [HPS.out] at hp
            obtain ⟨x, hx, rfl⟩ := List.mem_map.1 hp
            have h1 := (HR.out.2 x hx).1
            rw [bv_length] at h1
            have h2 := H40.out x hx
            omega
          have htk : ps.take k = ps := List.take_of_length_le (by rw [HPL.out]; exact Nat.le_refl _)
          have hob := HOB.out
          rw [htk] at hob
          have hEX : endF ps k = (rowsF ps).length := by unfold endF; rw [htk]
          obtain ⟨E, hE⟩ : ∃ E, E = endF ps k := ⟨_, rfl⟩
          rw [← hE] at hob hel hEX ⊢
          obtain ⟨X, hX⟩ : ∃ X, X = rowsF ps := ⟨_, rfl⟩
          rw [← hX] at hob hEX
          have hcb : E ≤ cb := by
            obtain ⟨_, _, e2, h2⟩ := owns_form hob
            injection e2 with _ _ e2
            omega
          obtain ⟨kk, hkk⟩ : ∃ kk, kk = at_ % (E + 1) := ⟨_, rfl⟩
          have hkE : kk ≤ E := by rw [hkk]; have := Nat.mod_lt at_ (show 0 < E + 1 by omega); omega
          have hk1 : (at_ : Int) % ((E : Int) + 1) = (kk : Int) := by rw [hkk]; push_cast; rfl
          obtain ⟨ct, hct⟩ : ∃ ct, ct = cut % 9 := ⟨_, rfl⟩
          have hc1 : (cut : Int) % 9 = (ct : Int) := by omega
          have hc2 : ct ≤ 8 := by omega
          have hc0 : (cut : Int).tmod 9 = (ct : Int) := by rw [Int.tmod_eq_emod_of_nonneg (by omega)]; exact hc1
          obtain ⟨mm, hmm⟩ : ∃ mm, mm = min (kk + ct) E := ⟨_, rfl⟩
          have hm1 : min ((kk : Int) + (ct : Int)) (E : Int) = (mm : Int) := by omega
          have hm2 : mm ≤ E := by omega
          have RX5 := Lib.hid (Reads.of_own hob)
          have HEX := Lib.hid hEX
          have HM5 := Lib.hid (HR'.out.below (HB1.out.trans (HB.out.mono hz1)))
          clear HOB hob hall hEX hE hkk hct hmm htk hX
          go_wp2_with (fail)
          have t0 : (0 : Int) ≤ (kk : Int) := by omega
          have t1 : (kk : Int) ≤ (cb : Int) := by omega
          have t2 : (0 : Int) ≤ (mm : Int) := by omega
          have t3 : (mm : Int) ≤ (E : Int) := by omega
          have t4 : IntKind.i64.wrap ((kk : Int) + (ct : Int)) = (kk : Int) + (ct : Int) := IntWalk.i64_in _ (by omega)
          have t5 : IntKind.u8.wrap ((ct : Int)) = (ct : Int) := IntWalk.u8_in _ (by omega)
          have t6 : IntKind.i64.wrap ((ct : Int)) = (ct : Int) := IntWalk.i64_in _ (by omega)
          have hrp := RX5.out.pre (k := kk) hkE
          have hrc := RX5.out.cut (k := mm) (cap := cb) hm2 hcb
          rw [Nat.mul_one] at hrc
          rw [show (bv X).drop mm = bv (X.drop mm) by simp [bv, List.map_drop]] at hrc
          have RP' := Lib.hid (show Reads wr.drew wr.heap.size 1 Ab kk (bv (X.take kk)) from hrp)
          have RM' := Lib.hid (show Reads wr.drew wr.heap.size 1 A' n' (bv more) from HM5.out.more (by omega))
          have RC' := Lib.hid (show Reads wr.drew wr.heap.size 1 (if cb = mm then Ab else Ab.map (·.add mm)) (E - mm) (bv (X.drop mm)) from hrc)
          obtain ⟨Z, hZ⟩ : ∃ Z, Z = X.take kk ++ (more ++ X.drop mm) := ⟨_, rfl⟩
          obtain ⟨lz, hlz⟩ : ∃ lz, lz = Z.length := ⟨_, rfl⟩
          have hl1 : lz ≤ 2000 := by
            rw [hlz, hZ, List.length_append, List.length_append, List.length_take, List.length_drop, ← HEX.out, HNM.out]
            omega
          have HZ := Lib.hid hZ
          have HLZ := Lib.hid hlz
          have HB5' := Lib.hid (HB1.out.trans (HB.out.mono hz1))
          clear hrp hrc HM5 RX5 hZ hlz
          rw [hk1]
          by_cases hcm : cb = mm
          · have hE2 : E = mm := by omega
            have hE1 : E = cb := by omega
            clear hcm
            subst hE1
            subst hE2
            have RC0 := Lib.hid (show Reads wr.drew wr.heap.size 1 Ab 0 (bv (X.drop E)) by have := RC'.out; rw [if_pos rfl, Nat.sub_self] at this; exact this)
            clear RC'
            go_region_held3 (fun _ => True) (trivial) ((go_at_call 24; refine (concat3z6 (B := wr.heap.size) (b0 := X.take kk) (b1 := more) (b2 := X.drop E) (heap_alloc_new wr.drew _) (by rw [World.size_alloc]; exact Nat.le_succ _) (RP'.out.alloc (Nat.le_refl _) _) (RM'.out.alloc (Nat.le_refl _) _) (RC0.out.alloc (Nat.le_refl _) _) (by omega) HZ.out HLZ.out).mono ?_; rintro e w6 ⟨A6, c6, rfl, hown6, hb6⟩))
            have hcz : lz ≤ c6 := by
              obtain ⟨_, _, e2, h2⟩ := owns_form hown6
              injection e2 with _ _ e2
              omega
            have HRZ := Lib.hid (Reads.of_own hown6)
            have bz := (((Below.refl wr.heap.size wr).drew).alloc (Nat.le_refl _) _).trans (hb6.mono (by rw [World.size_alloc]; exact Nat.le_succ _))
            have HB6 := Lib.hid (HB5'.out.trans (bz.mono (by have := HB5'.out.size; omega)))
            clear hown6 hb6 bz RP' RM' RC0
            go_wp2_with (fail)
            refine (dsNew 3000 w6 (by omega) (by omega)).mono ?_
            rintro e w7 ⟨C, a, pw, rfl, hd7, hb7⟩
            have hz7 := hb7.size
            have HD7 := Lib.hid hd7
            have HRZ7 := Lib.hid (HRZ.out.below hb7)
            have HB7 := Lib.hid (HB6.out.trans (hb7.mono (by have := HB6.out.size; omega)))
            have hsep : ∀ g, A6.map (·.block) = some g → 0 < lz → ¬ C g ∧ g ≠ pw := fun g hg hn => by
              obtain ⟨ad, h1, h2, _⟩ := HRZ.out.2 hn
              rw [h1] at hg
              have hg' : ad.block = g := by simpa using hg
              refine ⟨fun h => ?_, fun h => ?_⟩
              · have := HD7.out.base g h; omega
              · have := HD7.out.pbase; omega
            clear hd7 hb7
            go_wp2_with (fail)
            refine (dsAppend w6.heap.size w6.heap.size C 0 a pw 0 (-1) 0 3000 (fun _ => none) [108, 111, 103] Z A6 lz c6 w7 HD7.out (by omega) (.inl (by omega)) (by decide) (by omega) HRZ7.out hz7 hsep).mono ?_
            rintro e w8 ⟨rfl, C8, hd8, hc8, hm8, hb8⟩
            have HD8 := Lib.hid hd8
            have HRZ8 := Lib.hid (HRZ7.out.below hb8)
            have HB8 := Lib.hid (HB7.out.trans (hb8.mono (by have := HB6.out.size; omega)))
            have hz8 := hb8.size
            clear hd8 hc8 hm8 hb8 hsep
            go_wp2_with (fail)
            · refine (dsSync w6.heap.size C8 1 a pw lz (-1) 1 3000 (putF (fun _ => none) [108, 111, 103] (Z, 0)) [108, 111, 103] Z 0 w8 (by have := HD8.out; rw [Nat.zero_add, Nat.zero_add] at this; exact this) (by omega) (.inl (by omega)) (by decide) (putF_same _ _ _)).mono ?_
              rintro e w9 ⟨rfl, C9, hd9, hc9, hm9, hb9⟩
              have HRZ9 := Lib.hid (HRZ8.out.below hb9)
              have HB9 := Lib.hid (HB8.out.trans (hb9.mono (by have := HB6.out.size; omega)))
              rw [putF_putF] at hd9
              obtain ⟨kp, hkp⟩ : ∃ kp, kp = Z.length := ⟨_, rfl⟩
              rw [← hkp] at hd9
              obtain ⟨u9, hu9⟩ : ∃ u9 : Int, u9 = 1 + 1 := ⟨_, rfl⟩
              rw [← hu9] at hd9
              have hz89 := hb9.size
              clear hc9 hm9 hb9 hkp hu9
              go_wp2_with (fail)
              have HD9 := Lib.hid (show DS w6.heap.size w9 C9 2 a pw (-1) u9 3000 (putF (fun _ => none) [108, 111, 103] (Z, kp)) lz from hd9)
              clear hd9 HD8
              have hz9 := HB9.out.size
              refine (splitL A6 lz c6 _ Z w9 HRZ9.out (by omega) (by omega) hcz).mono ?_
              rintro e w10 ⟨A10, c10, L10, rfl, ho10, hk10, hL10, hb10⟩
              obtain ⟨M, hM⟩ : ∃ M, M = (splitF Z).1.length := ⟨_, rfl⟩
              obtain ⟨G, hG⟩ : ∃ G, G = (splitF Z).2 := ⟨_, rfl⟩
              rw [← hM] at ho10 ⊢
              rw [← hG]
              have hz10 := hb10.size
              have HM := Lib.hid hM
              have HG := Lib.hid hG
              have HO10 := Lib.hid ho10
              have HK10 := Lib.hid hk10
              have HL10 := Lib.hid hL10
              have HD10 := Lib.hid (HD9.out.below hb10)
              have HRZ10 := Lib.hid (HRZ9.out.below (hb10.mono (by omega)))
              have HB10 := Lib.hid (HB9.out.trans (hb10.mono (by omega)))
              clear hM hG ho10 hk10 hL10 hb10
              go_wp2_with (fail)
              refine (logOpen_some w6.heap.size 2 a pw lz kp C9 (-1) u9 3000 _ [108, 111, 103] Z w10 HD10.out (by omega) (by omega) (by decide) (putF_same _ _ _)).mono ?_
              rintro e w11 ⟨p, v11, C11, u11, t11, rfl, hd11, hc11, hm11, hp11, hpn, hpc, hpcs⟩
              have hda : dataF (putF (fun _ => none) [108, 111, 103] (Z, kp)) [108, 111, 103] = Z := by simp [dataF, putF_same]
              have hof : openF (putF (fun _ => none) [108, 111, 103] (Z, kp)) [108, 111, 103] = putF (fun _ => none) [108, 111, 103] (Z.take G, G) := by simp only [openF, putF_same, putF_putF, ← HG.out]
              rw [hda] at hpcs
              rw [hof] at hd11
              clear hda hof
              obtain ⟨A11, c11, L11, rfl, hr11, hL11⟩ := hpcs.rows
              rw [← HM.out] at hr11 ⊢
              have hk11 := HD10.out.keeps hm11
              have hlt9 := HD9.out.lt
              have hgl : G ≤ lz := by rw [HG.out, HLZ.out]; exact splitF_le _ _ (Nat.le_refl _)
              have ho11 := owns_mod HO10.out hm11 (fun g hg h => Nat.not_lt.2 hg (hlt9 g h))
              have r10 : RowsAt w11 w11.heap.size A10 M L10 := ⟨Reads.of_own ho11, fun x hx => ((HK10.out x hx).below hk11).more (by have := hm11.size; omega)⟩
              have rz := (HRZ10.out.below hk11).pre (k := G) hgl
              have hz11 := hm11.size
              have HD11 := Lib.hid hd11
              have HR11 := Lib.hid hr11
              have HL11 := Lib.hid hL11
              have R10 := Lib.hid r10
              have RZ11 := Lib.hid rz
              have HB11 := Lib.hid (HB10.out.trans (hk11.mono (by have := HB6.out.size; omega)))
              have hGl : (Z.take G).length = G := by rw [List.length_take, ← HLZ.out]; omega
              clear hd11 hc11 hm11 hp11 hpcs hr11 hL11 hk11 hlt9 ho11 r10 rz
              go_wp2_with (fail)
              refine (dsRead w6.heap.size C11 3 a pw t11 (-1) u11 3000 _ [108, 111, 103] (Z.take G) G w11 HD11.out (by decide) (putF_same _ _ _)).mono ?_
              rintro e w12 ⟨v12, A12, c12, rfl, rfl, hrow, _, hb12⟩
              rw [hGl] at hrow ⊢
              have hz12 := hb12.size
              have HD12 := Lib.hid (HD11.out.below hb12)
              have r11 := HR11.out.below hb12
              have r10 := R10.out.below hb12
              have RZ12 := Lib.hid (RZ11.out.below (hb12.mono (by omega)))
              have RK := Lib.hid hrow.reads
              have HB12 := Lib.hid (HB11.out.trans (hb12.mono (by omega)))
              have hsm := splitF_small Z.length Z (Nat.le_refl _)
              rw [← HLZ.out, ← HM.out] at hsm
              obtain ⟨hsm1, hsm2⟩ := hsm
              have a1 := rows_le r11 (k := lz) (by omega) fun p hp => hsm2 p (by rw [HL11.out] at hp; exact hp)
              have a2 := rows_le r10 (k := lz) (by omega) fun p hp => hsm2 p (by rw [HL10.out] at hp; exact hp)
              have a3 : decide (bytesOf L11 = bytesOf L10) = true := decide_eq_true (by rw [HL11.out, HL10.out])
              have R11 := Lib.hid r11
              have R10' := Lib.hid r10
              have a1 := Lib.hid a1
              have a2 := Lib.hid a2
              have a3 := Lib.hid a3
              clear hrow hb12 r11 r10 hsm2
              go_wp2_with (fail)
              refine (eqRows true A11 A10 M c11 M c10 _ _ L11 L10 w12 R11.out R10'.out a1.out a2.out a3.out (by omega)).mono ?_
              rintro e w13 ⟨rfl, q13, rfl⟩
              have gi0 : (0 : Int) ≤ (G : Int) := by omega
              have gi1 : (G : Int) ≤ (c6 : Int) := by omega
              go_wp2_with (fail)
              refine (equalBq true A12 A6 G c12 G c6 _ _ (Z.take G) (Z.take G) _ (show Reads (w12.drewN q13) _ 1 A12 G _ from RK.out) (show Reads (w12.drewN q13) _ 1 A6 G _ from RZ12.out) (by omega) (by omega) (decide_eq_true rfl)).mono ?_
              rintro e w14 ⟨rfl, q14, rfl⟩
              go_wp2_with (fail)
              refine (dsKept w6.heap.size C11 3 a pw t11 (-1) u11 3000 _ [108, 111, 103] _ (HD12.out.below (bdrewN (Below.refl _ _) (q13 + q14))) (by decide)).mono ?_
              rintro e w15 ⟨rfl, rfl⟩
              rw [show keptF (putF (fun _ => none) [108, 111, 103] (Z.take G, G)) [108, 111, 103] = G by simp [keptF, putF_same]]
              go_wp2_with (fail)
              go_ret
              exact ⟨rfl, bdrewN HB12.out (q13 + q14)⟩
            · obtain ⟨w9, rfl⟩ : ∃ w9 : World, w9 = w8 := ⟨_, rfl⟩
              obtain ⟨C9, rfl⟩ : ∃ C9 : Nat → Prop, C9 = C8 := ⟨_, rfl⟩
              have HRZ9 := HRZ8
              have HB9 := HB8
              have hz89 : w7.heap.size ≤ w9.heap.size := hz8
              have hd9 := HD8.out.more (nb' := 2) (by omega) (by omega)
              rw [Nat.zero_add] at hd9
              obtain ⟨kp, hkp⟩ : ∃ kp : Nat, kp = 0 := ⟨_, rfl⟩
              obtain ⟨u9, hu9⟩ : ∃ u9 : Int, u9 = 0 + 1 := ⟨_, rfl⟩
              rw [← hu9, show keptF (fun _ => none) [108, 111, 103] = kp by rw [hkp]; rfl] at hd9
              clear hkp hu9
              go_wp2_with (fail)
              have HD9 := Lib.hid (show DS w6.heap.size w9 C9 2 a pw (-1) u9 3000 (putF (fun _ => none) [108, 111, 103] (Z, kp)) lz from hd9)
              clear hd9 HD8
              have hz9 := HB9.out.size
              refine (splitL A6 lz c6 _ Z w9 HRZ9.out (by omega) (by omega) hcz).mono ?_
              rintro e w10 ⟨A10, c10, L10, rfl, ho10, hk10, hL10, hb10⟩
              obtain ⟨M, hM⟩ : ∃ M, M = (splitF Z).1.length := ⟨_, rfl⟩
              obtain ⟨G, hG⟩ : ∃ G, G = (splitF Z).2 := ⟨_, rfl⟩
              rw [← hM] at ho10 ⊢
              rw [← hG]
              have hz10 := hb10.size
              have HM := Lib.hid hM
              have HG := Lib.hid hG
              have HO10 := Lib.hid ho10
              have HK10 := Lib.hid hk10
              have HL10 := Lib.hid hL10
              have HD10 := Lib.hid (HD9.out.below hb10)
              have HRZ10 := Lib.hid (HRZ9.out.below (hb10.mono (by omega)))
              have HB10 := Lib.hid (HB9.out.trans (hb10.mono (by omega)))
              clear hM hG ho10 hk10 hL10 hb10
              go_wp2_with (fail)
              refine (logOpen_some w6.heap.size 2 a pw lz kp C9 (-1) u9 3000 _ [108, 111, 103] Z w10 HD10.out (by omega) (by omega) (by decide) (putF_same _ _ _)).mono ?_
              rintro e w11 ⟨p, v11, C11, u11, t11, rfl, hd11, hc11, hm11, hp11, hpn, hpc, hpcs⟩
              have hda : dataF (putF (fun _ => none) [108, 111, 103] (Z, kp)) [108, 111, 103] = Z := by simp [dataF, putF_same]
              have hof : openF (putF (fun _ => none) [108, 111, 103] (Z, kp)) [108, 111, 103] = putF (fun _ => none) [108, 111, 103] (Z.take G, G) := by simp only [openF, putF_same, putF_putF, ← HG.out]
              rw [hda] at hpcs
              rw [hof] at hd11
              clear hda hof
              obtain ⟨A11, c11, L11, rfl, hr11, hL11⟩ := hpcs.rows
              rw [← HM.out] at hr11 ⊢
              have hk11 := HD10.out.keeps hm11
              have hlt9 := HD9.out.lt
              have hgl : G ≤ lz := by rw [HG.out, HLZ.out]; exact splitF_le _ _ (Nat.le_refl _)
              have ho11 := owns_mod HO10.out hm11 (fun g hg h => Nat.not_lt.2 hg (hlt9 g h))
              have r10 : RowsAt w11 w11.heap.size A10 M L10 := ⟨Reads.of_own ho11, fun x hx => ((HK10.out x hx).below hk11).more (by have := hm11.size; omega)⟩
              have rz := (HRZ10.out.below hk11).pre (k := G) hgl
              have hz11 := hm11.size
              have HD11 := Lib.hid hd11
              have HR11 := Lib.hid hr11
              have HL11 := Lib.hid hL11
              have R10 := Lib.hid r10
              have RZ11 := Lib.hid rz
              have HB11 := Lib.hid (HB10.out.trans (hk11.mono (by have := HB6.out.size; omega)))
              have hGl : (Z.take G).length = G := by rw [List.length_take, ← HLZ.out]; omega
              clear hd11 hc11 hm11 hp11 hpcs hr11 hL11 hk11 hlt9 ho11 r10 rz
              go_wp2_with (fail)
              refine (dsRead w6.heap.size C11 3 a pw t11 (-1) u11 3000 _ [108, 111, 103] (Z.take G) G w11 HD11.out (by decide) (putF_same _ _ _)).mono ?_
              rintro e w12 ⟨v12, A12, c12, rfl, rfl, hrow, _, hb12⟩
              rw [hGl] at hrow ⊢
              have hz12 := hb12.size
              have HD12 := Lib.hid (HD11.out.below hb12)
              have r11 := HR11.out.below hb12
              have r10 := R10.out.below hb12
              have RZ12 := Lib.hid (RZ11.out.below (hb12.mono (by omega)))
              have RK := Lib.hid hrow.reads
              have HB12 := Lib.hid (HB11.out.trans (hb12.mono (by omega)))
              have hsm := splitF_small Z.length Z (Nat.le_refl _)
              rw [← HLZ.out, ← HM.out] at hsm
              obtain ⟨hsm1, hsm2⟩ := hsm
              have a1 := rows_le r11 (k := lz) (by omega) fun p hp => hsm2 p (by rw [HL11.out] at hp; exact hp)
              have a2 := rows_le r10 (k := lz) (by omega) fun p hp => hsm2 p (by rw [HL10.out] at hp; exact hp)
              have a3 : decide (bytesOf L11 = bytesOf L10) = true := decide_eq_true (by rw [HL11.out, HL10.out])
              have R11 := Lib.hid r11
              have R10' := Lib.hid r10
              have a1 := Lib.hid a1
              have a2 := Lib.hid a2
              have a3 := Lib.hid a3
              clear hrow hb12 r11 r10 hsm2
              go_wp2_with (fail)
              refine (eqRows true A11 A10 M c11 M c10 _ _ L11 L10 w12 R11.out R10'.out a1.out a2.out a3.out (by omega)).mono ?_
              rintro e w13 ⟨rfl, q13, rfl⟩
              have gi0 : (0 : Int) ≤ (G : Int) := by omega
              have gi1 : (G : Int) ≤ (c6 : Int) := by omega
              go_wp2_with (fail)
              refine (equalBq true A12 A6 G c12 G c6 _ _ (Z.take G) (Z.take G) _ (show Reads (w12.drewN q13) _ 1 A12 G _ from RK.out) (show Reads (w12.drewN q13) _ 1 A6 G _ from RZ12.out) (by omega) (by omega) (decide_eq_true rfl)).mono ?_
              rintro e w14 ⟨rfl, q14, rfl⟩
              go_wp2_with (fail)
              refine (dsKept w6.heap.size C11 3 a pw t11 (-1) u11 3000 _ [108, 111, 103] _ (HD12.out.below (bdrewN (Below.refl _ _) (q13 + q14))) (by decide)).mono ?_
              rintro e w15 ⟨rfl, rfl⟩
              rw [show keptF (putF (fun _ => none) [108, 111, 103] (Z.take G, G)) [108, 111, 103] = G by simp [keptF, putF_same]]
              go_wp2_with (fail)
              go_ret
              exact ⟨rfl, bdrewN HB12.out (q13 + q14)⟩
          · have RC0 := Lib.hid (show Reads wr.drew wr.heap.size 1 (Ab.map (·.add mm)) (E - mm) (bv (X.drop mm)) by have := RC'.out; rw [if_neg hcm] at this; exact this)
            clear RC'
            go_region_held3 (fun _ => True) (trivial) ((go_at_call 24; refine (concat3z6 (B := wr.heap.size) (b0 := X.take kk) (b1 := more) (b2 := X.drop mm) (heap_alloc_new wr.drew _) (by rw [World.size_alloc]; exact Nat.le_succ _) (RP'.out.alloc (Nat.le_refl _) _) (RM'.out.alloc (Nat.le_refl _) _) (RC0.out.alloc (Nat.le_refl _) _) (by omega) HZ.out HLZ.out).mono ?_; rintro e w6 ⟨A6, c6, rfl, hown6, hb6⟩))
            have hcz : lz ≤ c6 := by
              obtain ⟨_, _, e2, h2⟩ := owns_form hown6
              injection e2 with _ _ e2
              omega
            have HRZ := Lib.hid (Reads.of_own hown6)
            have bz := (((Below.refl wr.heap.size wr).drew).alloc (Nat.le_refl _) _).trans (hb6.mono (by rw [World.size_alloc]; exact Nat.le_succ _))
            have HB6 := Lib.hid (HB5'.out.trans (bz.mono (by have := HB5'.out.size; omega)))
            clear hown6 hb6 bz RP' RM' RC0
            go_wp2_with (fail)
            refine (dsNew 3000 w6 (by omega) (by omega)).mono ?_
            rintro e w7 ⟨C, a, pw, rfl, hd7, hb7⟩
            have hz7 := hb7.size
            have HD7 := Lib.hid hd7
            have HRZ7 := Lib.hid (HRZ.out.below hb7)
            have HB7 := Lib.hid (HB6.out.trans (hb7.mono (by have := HB6.out.size; omega)))
            have hsep : ∀ g, A6.map (·.block) = some g → 0 < lz → ¬ C g ∧ g ≠ pw := fun g hg hn => by
              obtain ⟨ad, h1, h2, _⟩ := HRZ.out.2 hn
              rw [h1] at hg
              have hg' : ad.block = g := by simpa using hg
              refine ⟨fun h => ?_, fun h => ?_⟩
              · have := HD7.out.base g h; omega
              · have := HD7.out.pbase; omega
            clear hd7 hb7
            go_wp2_with (fail)
            refine (dsAppend w6.heap.size w6.heap.size C 0 a pw 0 (-1) 0 3000 (fun _ => none) [108, 111, 103] Z A6 lz c6 w7 HD7.out (by omega) (.inl (by omega)) (by decide) (by omega) HRZ7.out hz7 hsep).mono ?_
            rintro e w8 ⟨rfl, C8, hd8, hc8, hm8, hb8⟩
            have HD8 := Lib.hid hd8
            have HRZ8 := Lib.hid (HRZ7.out.below hb8)
            have HB8 := Lib.hid (HB7.out.trans (hb8.mono (by have := HB6.out.size; omega)))
            have hz8 := hb8.size
            clear hd8 hc8 hm8 hb8 hsep
            go_wp2_with (fail)
            · refine (dsSync w6.heap.size C8 1 a pw lz (-1) 1 3000 (putF (fun _ => none) [108, 111, 103] (Z, 0)) [108, 111, 103] Z 0 w8 (by have := HD8.out; rw [Nat.zero_add, Nat.zero_add] at this; exact this) (by omega) (.inl (by omega)) (by decide) (putF_same _ _ _)).mono ?_
              rintro e w9 ⟨rfl, C9, hd9, hc9, hm9, hb9⟩
              have HRZ9 := Lib.hid (HRZ8.out.below hb9)
              have HB9 := Lib.hid (HB8.out.trans (hb9.mono (by have := HB6.out.size; omega)))
              rw [putF_putF] at hd9
              obtain ⟨kp, hkp⟩ : ∃ kp, kp = Z.length := ⟨_, rfl⟩
              rw [← hkp] at hd9
              obtain ⟨u9, hu9⟩ : ∃ u9 : Int, u9 = 1 + 1 := ⟨_, rfl⟩
              rw [← hu9] at hd9
              have hz89 := hb9.size
              clear hc9 hm9 hb9 hkp hu9
              go_wp2_with (fail)
              have HD9 := Lib.hid (show DS w6.heap.size w9 C9 2 a pw (-1) u9 3000 (putF (fun _ => none) [108, 111, 103] (Z, kp)) lz from hd9)
              clear hd9 HD8
              have hz9 := HB9.out.size
              refine (splitL A6 lz c6 _ Z w9 HRZ9.out (by omega) (by omega) hcz).mono ?_
              rintro e w10 ⟨A10, c10, L10, rfl, ho10, hk10, hL10, hb10⟩
              obtain ⟨M, hM⟩ : ∃ M, M = (splitF Z).1.length := ⟨_, rfl⟩
              obtain ⟨G, hG⟩ : ∃ G, G = (splitF Z).2 := ⟨_, rfl⟩
              rw [← hM] at ho10 ⊢
              rw [← hG]
              have hz10 := hb10.size
              have HM := Lib.hid hM
              have HG := Lib.hid hG
              have HO10 := Lib.hid ho10
              have HK10 := Lib.hid hk10
              have HL10 := Lib.hid hL10
              have HD10 := Lib.hid (HD9.out.below hb10)
              have HRZ10 := Lib.hid (HRZ9.out.below (hb10.mono (by omega)))
              have HB10 := Lib.hid (HB9.out.trans (hb10.mono (by omega)))
              clear hM hG ho10 hk10 hL10 hb10
              go_wp2_with (fail)
              refine (logOpen_some w6.heap.size 2 a pw lz kp C9 (-1) u9 3000 _ [108, 111, 103] Z w10 HD10.out (by omega) (by omega) (by decide) (putF_same _ _ _)).mono ?_
              rintro e w11 ⟨p, v11, C11, u11, t11, rfl, hd11, hc11, hm11, hp11, hpn, hpc, hpcs⟩
              have hda : dataF (putF (fun _ => none) [108, 111, 103] (Z, kp)) [108, 111, 103] = Z := by simp [dataF, putF_same]
              have hof : openF (putF (fun _ => none) [108, 111, 103] (Z, kp)) [108, 111, 103] = putF (fun _ => none) [108, 111, 103] (Z.take G, G) := by simp only [openF, putF_same, putF_putF, ← HG.out]
              rw [hda] at hpcs
              rw [hof] at hd11
              clear hda hof
              obtain ⟨A11, c11, L11, rfl, hr11, hL11⟩ := hpcs.rows
              rw [← HM.out] at hr11 ⊢
              have hk11 := HD10.out.keeps hm11
              have hlt9 := HD9.out.lt
              have hgl : G ≤ lz := by rw [HG.out, HLZ.out]; exact splitF_le _ _ (Nat.le_refl _)
              have ho11 := owns_mod HO10.out hm11 (fun g hg h => Nat.not_lt.2 hg (hlt9 g h))
              have r10 : RowsAt w11 w11.heap.size A10 M L10 := ⟨Reads.of_own ho11, fun x hx => ((HK10.out x hx).below hk11).more (by have := hm11.size; omega)⟩
              have rz := (HRZ10.out.below hk11).pre (k := G) hgl
              have hz11 := hm11.size
              have HD11 := Lib.hid hd11
              have HR11 := Lib.hid hr11
              have HL11 := Lib.hid hL11
              have R10 := Lib.hid r10
              have RZ11 := Lib.hid rz
              have HB11 := Lib.hid (HB10.out.trans (hk11.mono (by have := HB6.out.size; omega)))
              have hGl : (Z.take G).length = G := by rw [List.length_take, ← HLZ.out]; omega
              clear hd11 hc11 hm11 hp11 hpcs hr11 hL11 hk11 hlt9 ho11 r10 rz
              go_wp2_with (fail)
              refine (dsRead w6.heap.size C11 3 a pw t11 (-1) u11 3000 _ [108, 111, 103] (Z.take G) G w11 HD11.out (by decide) (putF_same _ _ _)).mono ?_
              rintro e w12 ⟨v12, A12, c12, rfl, rfl, hrow, _, hb12⟩
              rw [hGl] at hrow ⊢
              have hz12 := hb12.size
              have HD12 := Lib.hid (HD11.out.below hb12)
              have r11 := HR11.out.below hb12
              have r10 := R10.out.below hb12
              have RZ12 := Lib.hid (RZ11.out.below (hb12.mono (by omega)))
              have RK := Lib.hid hrow.reads
              have HB12 := Lib.hid (HB11.out.trans (hb12.mono (by omega)))
              have hsm := splitF_small Z.length Z (Nat.le_refl _)
              rw [← HLZ.out, ← HM.out] at hsm
              obtain ⟨hsm1, hsm2⟩ := hsm
              have a1 := rows_le r11 (k := lz) (by omega) fun p hp => hsm2 p (by rw [HL11.out] at hp; exact hp)
              have a2 := rows_le r10 (k := lz) (by omega) fun p hp => hsm2 p (by rw [HL10.out] at hp; exact hp)
              have a3 : decide (bytesOf L11 = bytesOf L10) = true := decide_eq_true (by rw [HL11.out, HL10.out])
              have R11 := Lib.hid r11
              have R10' := Lib.hid r10
              have a1 := Lib.hid a1
              have a2 := Lib.hid a2
              have a3 := Lib.hid a3
              clear hrow hb12 r11 r10 hsm2
              go_wp2_with (fail)
              refine (eqRows true A11 A10 M c11 M c10 _ _ L11 L10 w12 R11.out R10'.out a1.out a2.out a3.out (by omega)).mono ?_
              rintro e w13 ⟨rfl, q13, rfl⟩
              have gi0 : (0 : Int) ≤ (G : Int) := by omega
              have gi1 : (G : Int) ≤ (c6 : Int) := by omega
              go_wp2_with (fail)
              refine (equalBq true A12 A6 G c12 G c6 _ _ (Z.take G) (Z.take G) _ (show Reads (w12.drewN q13) _ 1 A12 G _ from RK.out) (show Reads (w12.drewN q13) _ 1 A6 G _ from RZ12.out) (by omega) (by omega) (decide_eq_true rfl)).mono ?_
              rintro e w14 ⟨rfl, q14, rfl⟩
              go_wp2_with (fail)
              refine (dsKept w6.heap.size C11 3 a pw t11 (-1) u11 3000 _ [108, 111, 103] _ (HD12.out.below (bdrewN (Below.refl _ _) (q13 + q14))) (by decide)).mono ?_
              rintro e w15 ⟨rfl, rfl⟩
              rw [show keptF (putF (fun _ => none) [108, 111, 103] (Z.take G, G)) [108, 111, 103] = G by simp [keptF, putF_same]]
              go_wp2_with (fail)
              go_ret
              exact ⟨rfl, bdrewN HB12.out (q13 + q14)⟩
            · obtain ⟨w9, rfl⟩ : ∃ w9 : World, w9 = w8 := ⟨_, rfl⟩
              obtain ⟨C9, rfl⟩ : ∃ C9 : Nat → Prop, C9 = C8 := ⟨_, rfl⟩
              have HRZ9 := HRZ8
              have HB9 := HB8
              have hz89 : w7.heap.size ≤ w9.heap.size := hz8
              have hd9 := HD8.out.more (nb' := 2) (by omega) (by omega)
              rw [Nat.zero_add] at hd9
              obtain ⟨kp, hkp⟩ : ∃ kp : Nat, kp = 0 := ⟨_, rfl⟩
              obtain ⟨u9, hu9⟩ : ∃ u9 : Int, u9 = 0 + 1 := ⟨_, rfl⟩
              rw [← hu9, show keptF (fun _ => none) [108, 111, 103] = kp by rw [hkp]; rfl] at hd9
              clear hkp hu9
              go_wp2_with (fail)
              have HD9 := Lib.hid (show DS w6.heap.size w9 C9 2 a pw (-1) u9 3000 (putF (fun _ => none) [108, 111, 103] (Z, kp)) lz from hd9)
              clear hd9 HD8
              have hz9 := HB9.out.size
              refine (splitL A6 lz c6 _ Z w9 HRZ9.out (by omega) (by omega) hcz).mono ?_
              rintro e w10 ⟨A10, c10, L10, rfl, ho10, hk10, hL10, hb10⟩
              obtain ⟨M, hM⟩ : ∃ M, M = (splitF Z).1.length := ⟨_, rfl⟩
              obtain ⟨G, hG⟩ : ∃ G, G = (splitF Z).2 := ⟨_, rfl⟩
              rw [← hM] at ho10 ⊢
              rw [← hG]
              have hz10 := hb10.size
              have HM := Lib.hid hM
              have HG := Lib.hid hG
              have HO10 := Lib.hid ho10
              have HK10 := Lib.hid hk10
              have HL10 := Lib.hid hL10
              have HD10 := Lib.hid (HD9.out.below hb10)
              have HRZ10 := Lib.hid (HRZ9.out.below (hb10.mono (by omega)))
              have HB10 := Lib.hid (HB9.out.trans (hb10.mono (by omega)))
              clear hM hG ho10 hk10 hL10 hb10
              go_wp2_with (fail)
              refine (logOpen_some w6.heap.size 2 a pw lz kp C9 (-1) u9 3000 _ [108, 111, 103] Z w10 HD10.out (by omega) (by omega) (by decide) (putF_same _ _ _)).mono ?_
              rintro e w11 ⟨p, v11, C11, u11, t11, rfl, hd11, hc11, hm11, hp11, hpn, hpc, hpcs⟩
              have hda : dataF (putF (fun _ => none) [108, 111, 103] (Z, kp)) [108, 111, 103] = Z := by simp [dataF, putF_same]
              have hof : openF (putF (fun _ => none) [108, 111, 103] (Z, kp)) [108, 111, 103] = putF (fun _ => none) [108, 111, 103] (Z.take G, G) := by simp only [openF, putF_same, putF_putF, ← HG.out]
              rw [hda] at hpcs
              rw [hof] at hd11
              clear hda hof
              obtain ⟨A11, c11, L11, rfl, hr11, hL11⟩ := hpcs.rows
              rw [← HM.out] at hr11 ⊢
              have hk11 := HD10.out.keeps hm11
              have hlt9 := HD9.out.lt
              have hgl : G ≤ lz := by rw [HG.out, HLZ.out]; exact splitF_le _ _ (Nat.le_refl _)
              have ho11 := owns_mod HO10.out hm11 (fun g hg h => Nat.not_lt.2 hg (hlt9 g h))
              have r10 : RowsAt w11 w11.heap.size A10 M L10 := ⟨Reads.of_own ho11, fun x hx => ((HK10.out x hx).below hk11).more (by have := hm11.size; omega)⟩
              have rz := (HRZ10.out.below hk11).pre (k := G) hgl
              have hz11 := hm11.size
              have HD11 := Lib.hid hd11
              have HR11 := Lib.hid hr11
              have HL11 := Lib.hid hL11
              have R10 := Lib.hid r10
              have RZ11 := Lib.hid rz
              have HB11 := Lib.hid (HB10.out.trans (hk11.mono (by have := HB6.out.size; omega)))
              have hGl : (Z.take G).length = G := by rw [List.length_take, ← HLZ.out]; omega
              clear hd11 hc11 hm11 hp11 hpcs hr11 hL11 hk11 hlt9 ho11 r10 rz
              go_wp2_with (fail)
              refine (dsRead w6.heap.size C11 3 a pw t11 (-1) u11 3000 _ [108, 111, 103] (Z.take G) G w11 HD11.out (by decide) (putF_same _ _ _)).mono ?_
              rintro e w12 ⟨v12, A12, c12, rfl, rfl, hrow, _, hb12⟩
              rw [hGl] at hrow ⊢
              have hz12 := hb12.size
              have HD12 := Lib.hid (HD11.out.below hb12)
              have r11 := HR11.out.below hb12
              have r10 := R10.out.below hb12
              have RZ12 := Lib.hid (RZ11.out.below (hb12.mono (by omega)))
              have RK := Lib.hid hrow.reads
              have HB12 := Lib.hid (HB11.out.trans (hb12.mono (by omega)))
              have hsm := splitF_small Z.length Z (Nat.le_refl _)
              rw [← HLZ.out, ← HM.out] at hsm
              obtain ⟨hsm1, hsm2⟩ := hsm
              have a1 := rows_le r11 (k := lz) (by omega) fun p hp => hsm2 p (by rw [HL11.out] at hp; exact hp)
              have a2 := rows_le r10 (k := lz) (by omega) fun p hp => hsm2 p (by rw [HL10.out] at hp; exact hp)
              have a3 : decide (bytesOf L11 = bytesOf L10) = true := decide_eq_true (by rw [HL11.out, HL10.out])
              have R11 := Lib.hid r11
              have R10' := Lib.hid r10
              have a1 := Lib.hid a1
              have a2 := Lib.hid a2
              have a3 := Lib.hid a3
              clear hrow hb12 r11 r10 hsm2
              go_wp2_with (fail)
              refine (eqRows true A11 A10 M c11 M c10 _ _ L11 L10 w12 R11.out R10'.out a1.out a2.out a3.out (by omega)).mono ?_
              rintro e w13 ⟨rfl, q13, rfl⟩
              have gi0 : (0 : Int) ≤ (G : Int) := by omega
              have gi1 : (G : Int) ≤ (c6 : Int) := by omega
              go_wp2_with (fail)
              refine (equalBq true A12 A6 G c12 G c6 _ _ (Z.take G) (Z.take G) _ (show Reads (w12.drewN q13) _ 1 A12 G _ from RK.out) (show Reads (w12.drewN q13) _ 1 A6 G _ from RZ12.out) (by omega) (by omega) (decide_eq_true rfl)).mono ?_
              rintro e w14 ⟨rfl, q14, rfl⟩
              go_wp2_with (fail)
              refine (dsKept w6.heap.size C11 3 a pw t11 (-1) u11 3000 _ [108, 111, 103] _ (HD12.out.below (bdrewN (Below.refl _ _) (q13 + q14))) (by decide)).mono ?_
              rintro e w15 ⟨rfl, rfl⟩
              rw [show keptF (putF (fun _ => none) [108, 111, 103] (Z.take G, G)) [108, 111, 103] = G by simp [keptF, putF_same]]
              go_wp2_with (fail)
              go_ret
              exact ⟨rfl, bdrewN HB12.out (q13 + q14)⟩
    · have g3 : decide ((40 : Int) < (n' : Int)) = true := decide_eq_true (by omega)
      go_wp2_with (fail)
      go_ret
      exact ⟨rfl, HB1.out⟩
  · refine (light7 false A n c _ L w1 (HR.out.below HB1.out) hnb (decide_eq_false hlight)).mono ?_
    rintro e w1' ⟨rfl, hw1'⟩
    rw [hw1']
    clear hw1' w1'
    clear hlight
    go_wp2_with (fail)
    go_ret
    exact ⟨rfl, HB1.out⟩
end Go.Proofs.YtocgfcboigiigaaDoor
