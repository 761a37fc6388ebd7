/- selionlaw06.FrameApart answers true, whatever the bytes. Condition: the package's variable 'none' holds what its text lays. -/
import Derived.Test.YtocgfcboigiigaaDoorAwake6
namespace Go.Proofs.YtocgfcboigiigaaDoor
open Go Go.Proofs Go.RowKit

theorem wrapF_len (p : List UInt8) : (wrapF p).length = p.length + 8 := by simp [wrapF, fourF_len]; omega
theorem split1_wrap (p r : List UInt8) (h : p.length < 2 ^ 32) : split1 (wrapF p ++ r) = some (p, r) := by
  have e1 : num4 (wrapF p ++ r) = p.length := by unfold wrapF; rw [List.append_assoc, List.append_assoc, num4_four _ h]
  have e2 : (wrapF p ++ r).drop 4 = fourF (sumB p) ++ (p ++ r) := by unfold wrapF; simp [fourF]
  have e3 : (wrapF p ++ r).drop 8 = p ++ r := by unfold wrapF; simp [fourF]
  have e4 : (wrapF p ++ r).drop (8 + p.length) = r := by rw [← List.drop_drop, e3, List.drop_left]
  unfold split1
  rw [e1, e2, e3, e4, num4_four _ (sumB_lt p), List.take_left, if_pos]
  rw [List.length_append, wrapF_len]
  exact ⟨by omega, by omega, rfl⟩
theorem splitF_wrap (p r : List UInt8) (h : p.length < 2 ^ 32) : splitF (wrapF p ++ r) = (p :: (splitF r).1, 8 + p.length + (splitF r).2) := splitF_some (split1_wrap p r h)
theorem splitF_nil : splitF [] = ([], 0) := splitF_none rfl
theorem splitF_one (p : List UInt8) (h : p.length < 2 ^ 32) : splitF (wrapF p) = ([p], 8 + p.length) := by
  have := splitF_wrap p [] h
  rwa [List.append_nil, splitF_nil] at this
/-- One piece. -/
theorem pieces_one {w : World} {base : Nat} {v : Value} {p : List UInt8} (h : Pieces w base v [p]) : ∃ g c A c', v = .slice (some ⟨g, 0, none⟩) 1 c ∧ 1 ≤ c ∧ base ≤ g ∧ w.cell? ⟨g, 0, none⟩ = some (.slice A p.length c') ∧ w.ownsRow base 5 1 (.slice A p.length c') p.length (bv p) := by
  obtain ⟨L, h1, h2, h3⟩ := h
  match L, h1 with
  | [x], h1 =>
    obtain ⟨A, n, c', q⟩ := x
    simp only [List.map_cons, List.map_nil, List.cons.injEq, and_true] at h1
    subst h1
    obtain ⟨Av, cv, rfl, hcv⟩ := owns_form h2
    obtain ⟨g, rfl, hb, hlt, hc⟩ := owns_at h2 (by simp)
    have h4 := h3 _ (List.mem_singleton.2 rfl)
    have hn : p.length = n := by have := h4.1; simp only [bv_length] at this; omega
    subst hn
    exact ⟨g, cv, A, c', rfl, hcv, hb, hc 0 _ rfl, h4⟩
theorem owns_frz {w : World} {base e n c g : Nat} {xs : List Value} (h : w.ownsRow base e 1 (.slice (some ⟨g, 0, none⟩) n c) n xs) (j : Nat) : w.frozen? ⟨g, j, none⟩ = false := by
  rcases h.2 with ⟨h, _⟩ | ⟨g', cap, cur, h, _, hg, _⟩
  · cases h
  · injection h with h
    injection h with h
    injection h with h
    subst h
    exact frozen_of_blk hg j
set_option maxHeartbeats 4000000 in
set_option maxRecDepth 100000 in
theorem apart6 (A : Option Addr) (n c at_ : Nat) (bs : List UInt8) (w : World) (hn : NoneLaid w) (hr : Reads w w.heap.size 1 A n (bv bs)) (hat : at_ < 256) (hn1 : n ≤ 140737488355328) :
    Calls Tryd.prog 4 #[.slice A n c, .int .u8 at_] w fun e w' => e = .returned (.bool true) ∧ Below w.heap.size w w' := by
  have hl : bs.length = n := by have := hr.1; rw [bv_length] at this; omega
  have HR := Lib.hid hr
  have HL := Lib.hid hl
  clear hr hl
  by_cases hbig : n ≤ 100 ∧ 1 ≤ n
  · obtain ⟨hs1, hs2⟩ := hbig
    have g1 : decide ((100 : Int) < (n : Int)) = false := decide_eq_false (by omega)
    have g2 : ((n : Int) == 0) = false := by simp; omega
    obtain ⟨i, hi⟩ : ∃ i : Nat, i = at_ % n := ⟨_, rfl⟩
    have hi1 : (at_ : Int) % (n : Int) = (i : Int) := by rw [hi]; push_cast; rfl
    have hi2 : i < n := by rw [hi]; exact Nat.mod_lt _ (by omega)
    clear hi
    go_enter Tryd.func4, Tryd.ntmps4
    go_wp2_with (fail)
    refine (awake6_any w hn).mono ?_
    rintro e w1 ⟨rfl, hb1⟩
    clear hn
    have hz1 := hb1.size
    go_wp2_with (fail)
    refine (wrapC A n c _ bs w1 (HR.out.below hb1) hz1 (by omega)).mono ?_
    rintro e w2 ⟨A2, c2, rfl, hown2, hb2⟩
    have hc2 : n + 8 ≤ c2 := by
      obtain ⟨_, _, e2, h2⟩ := owns_form hown2
      injection e2 with _ _ e2
      omega
    have hz2 := hb2.size
    have HO2 := Lib.hid hown2
    have HB2 := Lib.hid (hb1.trans (hb2.mono hz1))
    clear hown2 hb1 hb2
    go_wp2_with (fail)
    refine (cloneB A2 (n + 8) c2 _ (bv (wrapF bs)) w2 (Reads.of_own HO2.out) (Nat.le_refl _) (bv_one _) (by omega)).mono ?_
    rintro e w3 ⟨v3, rfl, hown3, hb3⟩
    obtain ⟨A3, c3, rfl, hc3⟩ := owns_form hown3
    have hz3 := hb3.size
    have HO3 := Lib.hid hown3
    have HR2 := Lib.hid ((Reads.of_own HO2.out).below hb3)
    have HB3 := Lib.hid (HB2.out.trans (hb3.mono HB2.out.size))
    clear hown3 hb3
    go_wp2_with (fail)
    refine (splitC A2 (n + 8) c2 _ (wrapF bs) w3 HR2.out hz3 (by omega) hc2).mono ?_
    rintro e w4 ⟨v4, rfl, hp4, hb4⟩
    rw [splitF_one bs (by rw [HL.out]; omega)] at hp4 ⊢
    obtain ⟨g4, c4, A5, c5, rfl, hc4, hg4, d4, ho5⟩ := pieces_one hp4
    rw [HL.out] at d4 ho5
    obtain ⟨g5, rfl, hg5, hlt5, hcl5⟩ := owns_at ho5 (by omega)
    obtain ⟨b, hb⟩ : ∃ b, bs[i]? = some b := ⟨bs[i]'(by rw [HL.out]; exact hi2), List.getElem?_eq_getElem _⟩
    have d5 : w4.cell? ⟨g5, i, none⟩ = some (.int .u8 b.toNat) := hcl5 i _ (bv_get hb)
    have f5 := owns_frz ho5 i
    have hz4 := hb4.size
    have HR2 := Lib.hid (HR2.out.below (hb4.mono hz3))
    have HR3 := Lib.hid ((Reads.of_own HO3.out).below hb4)
    have HB4 := Lib.hid (HB3.out.trans (hb4.mono HB3.out.size))
    have hi3 : (0 : Int) ≤ (i : Int) := by omega
    have hi4 : (i : Int) < (n : Int) := by omega
    clear hp4 hb4 ho5 hcl5 hb
    go_wp2_with (fail)
    go_region
    go_wp2_with (fail)
    refine (equalB true A2 A3 (n + 8) c2 (n + 8) c3 _ _ (wrapF bs) (wrapF bs) _ (HR2.out.setCell (p := ⟨g5, i, none⟩) (by simp only; omega) _).drew (HR3.out.setCell (p := ⟨g5, i, none⟩) (by simp only; omega) _).drew (by omega) (by omega) (decide_eq_true rfl)).mono ?_
    rintro e w5 ⟨rfl, hb5⟩
    go_wp2_with (fail)
    go_ret
    exact ⟨rfl, ((HB4.out.setCell (p := ⟨g5, i, none⟩) (by simp only; omega) _).drew).trans (hb5.mono (by simp; omega))⟩
  · go_enter Tryd.func4, Tryd.ntmps4
    go_wp2_with (fail)
    refine (awake6_any w hn).mono ?_
    rintro e w1 ⟨rfl, hb1⟩
    clear hn
    by_cases h1 : n ≤ 100
    · obtain rfl : n = 0 := by omega
      clear hbig
      go_wp2_with (fail)
      go_ret
      exact ⟨rfl, hb1⟩
    · have g1 : decide ((100 : Int) < (n : Int)) = true := decide_eq_true (by omega)
      clear hbig
      go_wp2_with (fail)
      go_ret
      exact ⟨rfl, hb1⟩
end Go.Proofs.YtocgfcboigiigaaDoor
