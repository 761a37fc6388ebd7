/- selionlaw02.SpansOrder: in whatever order spans come, some twice, the set is the same. No condition. -/
import Derived.Test.YtccmalpbejednaaDoorLawOf
import Derived.Test.YtccmalpbejednaaDoorConcat2
import Derived.Test.YtccmalpbejednaaDoorSame2
namespace Go.Proofs.YtccmalpbejednaaDoor
open Go Go.Proofs Go.RowKit

theorem three_cells {w : World} {g : Nat} {a b c : Option Addr × Nat × Nat × List (Int × Int)} {ty : TypeId}
    (h : w.heap[g]? = some (.cells #[.slice a.1 a.2.1 a.2.2.1, .slice b.1 b.2.1 b.2.2.1, .slice c.1 c.2.1 c.2.2.1] ty (0, 0))) : ∀ j x, [a, b, c][j]? = some x → w.cell? ⟨g, j, none⟩ = some (.slice x.1 x.2.1 x.2.2.1) := by
  intro j x hj
  rw [cell_of_row w g j _ ty (0, 0) h]
  match j, hj with
  | 0, hj => obtain rfl := Option.some.inj hj; rfl
  | 1, hj => obtain rfl := Option.some.inj hj; rfl
  | 2, hj => obtain rfl := Option.some.inj hj; rfl
  | j + 3, hj => simp at hj
set_option maxHeartbeats 4000000 in
set_option maxRecDepth 100000 in
theorem spansOrder_any (A : Option Addr) (n c : Nat) (xs3 : List (Int × Int × Int)) (turn : Int) (w : World) (hN : NoneLaid w) (ha : SArg w A n xs3) (hnm : n ≤ maxLen) (ht0 : 0 ≤ turn) (ht1 : turn ≤ 255) :
    Calls Tryd.prog 11 #[.slice A n c, .int .u8 turn] w fun e w' => e = .returned (.bool true) ∧ Below w.heap.size w w' := by
  unfold maxLen at hnm
  by_cases hbig : 30 < n
  · have hbig' : decide ((30 : Int) < (n : Int)) = true := by simp; omega
    go_enter Tryd.func11, Tryd.ntmps11
    go_wp2_with (go_at_call 13; refine (awake2_any _ hN).mono ?_; rintro e w1 ⟨rfl, hb1⟩)
    go_ret
    exact ⟨rfl, hb1⟩
  have hbig' : decide ((30 : Int) < (n : Int)) = false := by simp; omega
  by_cases hz : n = 0
  · subst hz
    go_enter Tryd.func11, Tryd.ntmps11
    go_wp2_with (go_at_call 13; refine (awake2_any _ hN).mono ?_; rintro e w1 ⟨rfl, hb1⟩)
    go_ret
    exact ⟨rfl, hb1⟩
  have hz' : ((n : Int) == 0) = false := by simp; omega
  have hHA := Lib.hid ha
  clear ha
  go_enter Tryd.func11, Tryd.ntmps11
  go_wp2_with (go_at_call 13; refine (awake2_any _ hN).mono ?_; rintro e w1 ⟨rfl, hb1⟩)
  refine (make_row A n c xs3 _ (hHA.out.below hb1) (by omega)).mono ?_
  rintro e w2 ⟨A2, n2, c2, xs, rfl, hc2, hr2, hxs, hb2⟩
  obtain rfl : n2 = n := by
    have := hr2.len
    rw [hxs, List.length_map, hHA.out.1] at this
    exact this.symm
  have hux : AllU xs := by rw [hxs]; exact mkF_all hHA.out.2.1
  have hb02 : Below w.heap.size w w2 := hb1.trans (hb2.mono hb1.size)
  clear hxs hb1 hb2 hHA
  obtain ⟨k, hk⟩ : ∃ k : Nat, turn % (n2 : Int) = k := ⟨(turn % (n2 : Int)).toNat, by have := Int.emod_nonneg turn (b := (n2 : Int)) (by omega); omega⟩
  have hkn : k < n2 := by have := Int.emod_lt_of_pos turn (b := (n2 : Int)) (by omega); omega
  have hKK := Lib.hid hk
  obtain ⟨b, off, rfl, hrd, hrt⟩ := hr2.cut hkn
  clear hk
  go_wp2_with (fail)
  rw [hKK.out]
  have hk0 : (0 : Int) ≤ (k : Int) := by omega
  have hk1 : (k : Int) ≤ (n2 : Int) := by omega
  have hk2 : (n2 : Int) ≤ (c2 : Int) := by omega
  have hk3 : ¬ c2 = k := by omega
  have hk4 : (k : Int) ≤ (c2 : Int) := by omega
  have hk5 : k ≤ c2 := by omega
  have hk6 : k ≤ n2 := by omega
  have hTl : totL [(some ⟨b, off + k * 2, none⟩, n2 - k, c2 - k, xs.drop k), (some ⟨b, off, none⟩, k, c2, xs.take k), (some ⟨b, off, none⟩, k, c2, xs.take k)] ≤ 1000000000 := by simp [totL]; omega
  have hOk : SLok w2 w2.heap.size [(some ⟨b, off + k * 2, none⟩, n2 - k, c2 - k, xs.drop k), (some ⟨b, off, none⟩, k, c2, xs.take k), (some ⟨b, off, none⟩, k, c2, xs.take k)] := fun x hx => by
    simp only [List.mem_cons, List.not_mem_nil, or_false] at hx
    rcases hx with rfl | rfl | rfl
    · exact hrd
    · exact hrt
    · exact hrt
  have hln : (xs.drop k ++ (xs.take k ++ xs.take k)).length ≤ 60 ∧ 0 < (xs.drop k ++ (xs.take k ++ xs.take k)).length := by have := hr2.len; simp; omega
  have hfl : flatL [(some ⟨b, off + k * 2, none⟩, n2 - k, c2 - k, xs.drop k), (some ⟨b, off, none⟩, k, c2, xs.take k), (some ⟨b, off, none⟩, k, c2, xs.take k)] = xs.drop k ++ (xs.take k ++ xs.take k) := by simp [flatL]
  have hmem : ∀ s, s ∈ xs ↔ s ∈ (xs.drop k ++ (xs.take k ++ xs.take k)).reverse := fun s => by
    have h1 : s ∈ xs ↔ s ∈ xs.take k ∨ s ∈ xs.drop k := by rw [← List.mem_append, List.take_append_drop]
    rw [h1]
    simp only [List.mem_reverse, List.mem_append]
    constructor
    · rintro (h | h)
      · exact .inr (.inl h)
      · exact .inl h
    · rintro (h | h | h)
      · exact .inr h
      · exact .inl h
      · exact .inl h
  have HTL := Lib.hid hTl
  have HOK := Lib.hid hOk
  have HLN := Lib.hid hln
  have HME := Lib.hid hmem
  have HFL := Lib.hid hfl
  have HR2 := Lib.hid hr2
  clear hTl hOk hln hmem hfl hrd hrt hr2
  have HC : Calls Tryd.prog 39 #[.slice (some ⟨w2.heap.size, 0, none⟩) 3 3] (w2.alloc (.cells #[.slice (some ⟨b, off + k * 2, none⟩) (n2 - k) (c2 - k), .slice (some ⟨b, off, none⟩) k c2, .slice (some ⟨b, off, none⟩) k c2] 24)).drew (RetOwn _ _) :=
    concatSpans w2.heap.size 3 3 w2.heap.size [(some ⟨b, off + k * 2, none⟩, n2 - k, c2 - k, xs.drop k), (some ⟨b, off, none⟩, k, c2, xs.take k), (some ⟨b, off, none⟩, k, c2, xs.take k)] _ rfl (by omega) (by simp) (by simp) (three_cells (a := (some ⟨b, off + k * 2, none⟩, n2 - k, c2 - k, xs.drop k)) (b := (some ⟨b, off, none⟩, k, c2, xs.take k)) (c := (some ⟨b, off, none⟩, k, c2, xs.take k)) (heap_new_at rfl)) (HOK.out.below ((Below.refl w2.heap.size w2).alloc (Nat.le_refl _) _).drew (Nat.le_refl _)) HTL.out
  rw [HFL.out] at HC
  go_region_with (go_at_call 39; refine HC.mono ?_; rintro e w3 ⟨v3, n3, rfl, hown3, hb3⟩)
  all_goals
    clear HC
    have hb23 : Below w2.heap.size w2 w3 := (((Below.refl w2.heap.size w2).alloc (Nat.le_refl _) _).drew).trans (hb3.mono (by simp))
    have hown4 := owns_lower (base' := w2.heap.size) hown3 (by simp)
    have hl3 := hown4.1
    rw [flatS_length] at hl3
    have hln := HLN.out
    generalize xs.drop k ++ (xs.take k ++ xs.take k) = ys at *
    have hn3 : n3 = ys.length := by omega
    obtain ⟨g, cap, rfl, hg, hgl, hnc⟩ := (owns_form2 hown4).resolve_left (by rintro ⟨_, h⟩; omega)
    have hn3a : n3 ≤ 60 := by omega
    have hn3b : (n3 : Int) ≤ 60 := by omega
    have HRev := reverseAny w2.heap.size g n3 cap ys w3 hown4 hg hgl (by omega)
    clear hown3 hown4 hb3 hl3 hn3 hln
    go_wp2_with (go_at_call 40; refine HRev.mono ?_; rintro e w4 ⟨rfl, hb4, hr4⟩)
    have hb24 : Below w2.heap.size w2 w4 := hb23.trans hb4
    have hr24 := HR2.out.below hb24 (Nat.le_refl _)
    have hs24 := hb24.size
    clear HRev hb4 hb23
    refine (of_set _ _ _ _ xs _ hr24 (by omega) hux).mono ?_
    rintro e w5 ⟨A5, n5, c5, zs, rfl, hc5, hr5, ⟨hg5, hh5, hn5⟩, hb5⟩
    have hn5' : n5 ≤ 60 := by have := hr5.len; omega
    have hr45 := hr4.below hb5 (Nat.le_refl _)
    have huy : AllU ys.reverse := fun s hs => hux s ((HME.out s).2 hs)
    have HG5 := Lib.hid hg5
    have HH5 := Lib.hid hh5
    clear hr4 hr24 hg5 hh5 hn5
    go_wp2_with (fail)
    refine (of_set _ _ _ _ ys.reverse _ hr45 (by omega) huy).mono ?_
    rintro e w6 ⟨A6, n6, c6, qs, rfl, hc6, hr6, ⟨hg6, hh6, hn6⟩, hb6⟩
    have hn6' : n6 ≤ 60 := by have := hr6.len; omega
    have hr56 := hr5.below hb6 (Nat.le_refl _)
    have HE : Hid (decide (zs = qs) = true) := Lib.hid (decide_eq_true (good_ext HG5.out hg6 fun t => by rw [HH5.out, hh6, hasB_same HME.out]))
    have hb06 : Below w.heap.size w w6 := hb02.trans ((hb24.trans ((hb5.trans (hb6.mono hb5.size)).mono hs24)).mono hb02.size)
    clear hr45 hg6 hh6 hn6 hr5 hb5 hb6 hb24 huy
    go_wp2_with (fail)
    refine (sameAny true _ _ _ _ _ _ _ _ zs qs _ hr56 hr6 (by omega) (by omega) HE.out).mono ?_
    rintro e w7 ⟨rfl, hb7⟩
    clear hr56 hr6
    go_wp2_with (fail)
    go_ret
    exact ⟨rfl, hb06.trans (hb7.mono hb06.size)⟩
end Go.Proofs.YtccmalpbejednaaDoor
