/- selionlaw02.SpansOf: whatever spans come, the set has their times and no others, and its least one is the least. No condition. -/
import Derived.Test.YtccmalpbejednaaDoorMake2
import Derived.Test.YtccmalpbejednaaDoorGood2
import Derived.Test.YtccmalpbejednaaDoorIn2
import Derived.Test.YtccmalpbejednaaDoorAwake2
namespace Go.Proofs.YtccmalpbejednaaDoor
open Go Go.Proofs Go.RowKit

/-- A row of S among the arguments: its numbers. -/
def SArg (w : World) (A : Option Addr) (n : Nat) (xs : List (Int × Int × Int)) : Prop :=
  xs.length = n ∧ (∀ s ∈ xs, U64 s.1 ∧ U64 s.2.1 ∧ 0 ≤ s.2.2 ∧ s.2.2 < 256) ∧
  (xs = [] ∨ ∃ g0 : Addr, A = some g0 ∧ g0.block < w.heap.size ∧ ∀ j s, xs[j]? = some s → w.cell? (g0.add (j * 3)) = some (.int .u64 s.1) ∧ w.cell? (g0.add (j * 3 + 1)) = some (.int .u64 s.2.1) ∧ w.cell? (g0.add (j * 3 + 2)) = some (.int .u8 s.2.2))
theorem SArg.below {w w' : World} {A : Option Addr} {n : Nat} {xs : List (Int × Int × Int)} (h : SArg w A n xs) (hb : Below w.heap.size w w') : SArg w' A n xs := by
  refine ⟨h.1, h.2.1, ?_⟩
  rcases h.2.2 with rfl | ⟨g0, rfl, hlt, hc⟩
  · exact .inl rfl
  · refine .inr ⟨g0, rfl, Nat.lt_of_lt_of_le hlt hb.size, fun j s hj => ?_⟩
    obtain ⟨h1, h2, h3⟩ := hc j s hj
    exact ⟨cellk hb (by rw [block_of_add]; exact hlt) h1, cellk hb (by rw [block_of_add]; exact hlt) h2, cellk hb (by rw [block_of_add]; exact hlt) h3⟩
theorem mkF_all {xs : List (Int × Int × Int)} (h : ∀ s ∈ xs, U64 s.1 ∧ U64 s.2.1 ∧ 0 ≤ s.2.2 ∧ s.2.2 < 256) : AllU (xs.map mkF) := by
  intro x hx
  obtain ⟨s, hs, rfl⟩ := List.mem_map.1 hx
  have h1 := h s hs
  have h2 := makeF_range s.1 s.2.1 s.2.2 h1.1.1 h1.1.2 h1.2.1.1 h1.2.1.2
  exact ⟨h2.1, h2.2⟩
theorem make_row (A : Option Addr) (n c : Nat) (xs : List (Int × Int × Int)) (w : World) (h : SArg w A n xs) (hn : n ≤ 1000) :
    Calls Tryd.prog 14 #[.slice A n c] w (RetRow w (fun l => l = xs.map mkF)) := by
  refine (makeRow A n c xs w h.1 hn h.2.1 h.2.2).mono ?_
  rintro e w' ⟨v', rfl, hown, hb⟩
  obtain ⟨A', c', rfl, hnc, hrow⟩ := SpanRow.of_owns hown
  exact ⟨_, _, _, _, rfl, hnc, hrow, rfl, hb⟩

/-- The least of those times that are in, and whether there is one. -/
def leastF (h : Int → Bool) (ts : List Int) : Int × Bool := ts.foldl (fun p t => if h t && (!p.2 || decide (t < p.1)) then (t, true) else p) (0, false)
theorem leastF_step {h : Int → Bool} {ts : List Int} {k : Nat} {t : Int} (ht : ts[k]? = some t) : leastF h (ts.take (k + 1)) = if h t && (!(leastF h (ts.take k)).2 || decide (t < (leastF h (ts.take k)).1)) then (t, true) else leastF h (ts.take k) := by
  have hk := (List.getElem?_eq_some_iff.1 ht).1
  have hs : ts[k] = t := by rw [List.getElem?_eq_getElem hk] at ht; exact Option.some.inj ht
  rw [List.take_succ_eq_append_getElem hk, hs]
  unfold leastF
  rw [List.foldl_append]
  rfl
theorem leastF_spec (h : Int → Bool) (ts : List Int) : ((leastF h ts).2 = false ∧ (leastF h ts).1 = 0 ∧ ∀ t ∈ ts, h t = false) ∨
    ((leastF h ts).2 = true ∧ (leastF h ts).1 ∈ ts ∧ h (leastF h ts).1 = true ∧ ∀ t ∈ ts, h t = true → (leastF h ts).1 ≤ t) := by
  have key : ∀ k, k ≤ ts.length → ((leastF h (ts.take k)).2 = false ∧ (leastF h (ts.take k)).1 = 0 ∧ ∀ t ∈ ts.take k, h t = false) ∨
    ((leastF h (ts.take k)).2 = true ∧ (leastF h (ts.take k)).1 ∈ ts.take k ∧ h (leastF h (ts.take k)).1 = true ∧ ∀ t ∈ ts.take k, h t = true → (leastF h (ts.take k)).1 ≤ t) := by
    intro k
    induction k with
    | zero => intro _; exact .inl ⟨rfl, rfl, by simp⟩
    | succ k ih =>
      intro hk
      have hs : ts[k]? = some (ts[k]'(by omega)) := List.getElem?_eq_getElem (by omega)
      have hst := leastF_step (h := h) hs
      have htk : ts.take (k + 1) = ts.take k ++ [ts[k]'(by omega)] := List.take_succ_eq_append_getElem (by omega)
      generalize ts[k]'(by omega) = t at hs hst htk
      rw [hst, htk]
      generalize leastF h (ts.take k) = p at ih
      rcases ih (by omega) with ⟨h1, h2, h3⟩ | ⟨h1, h2, h3, h4⟩
      · by_cases ht : h t = true
        · rw [ht, h1]
          refine .inr ⟨rfl, by simp, by simpa using ht, ?_⟩
          intro x hx hx'
          rcases List.mem_append.1 hx with hx | hx
          · rw [h3 x hx] at hx'; cases hx'
          · obtain rfl : x = t := by simpa using hx
            simp
        · have ht' : h t = false := by simpa using ht
          rw [ht', Bool.false_and, if_neg (by simp)]
          refine .inl ⟨h1, h2, ?_⟩
          intro x hx
          rcases List.mem_append.1 hx with hx | hx
          · exact h3 x hx
          · obtain rfl : x = t := by simpa using hx
            exact ht'
      · by_cases hc : (h t && (!p.2 || decide (t < p.1))) = true
        · rw [if_pos hc]
          rw [h1] at hc
          simp at hc
          refine .inr ⟨rfl, by simp, hc.1, ?_⟩
          intro x hx hx'
          rcases List.mem_append.1 hx with hx | hx
          · have := h4 x hx hx'; simp only; omega
          · obtain rfl : x = t := by simpa using hx
            simp
        · rw [if_neg hc]
          rw [h1] at hc
          simp at hc
          refine .inr ⟨h1, List.mem_append_left _ h2, h3, ?_⟩
          intro x hx hx'
          rcases List.mem_append.1 hx with hx | hx
          · exact h4 x hx hx'
          · obtain rfl : x = t := by simpa using hx
            exact hc hx'
  have := key ts.length (Nat.le_refl _)
  rwa [List.take_length] at this
/-- The first of a set is the least of its rows' turns. -/
theorem least_first {xs zs : List (Int × Int)} (hg : goodS zs) (hh : ∀ t, hasB zs t = hasB xs t) : leastF (hasB xs) (turnsF xs) = (firstF zs, anyF zs) := by
  have hsp := leastF_spec (hasB xs) (turnsF xs)
  generalize leastF (hasB xs) (turnsF xs) = p at hsp
  obtain ⟨a, b⟩ := p
  cases zs with
  | nil =>
    rcases hsp with ⟨h1, h2, _⟩ | ⟨_, _, h3, _⟩
    · simp only at h1 h2
      rw [h1, h2]
      rfl
    · rw [← hh, hasB_nil] at h3
      cases h3
  | cons s r =>
    have gs := (goodS_cons.1 hg).1
    have hin : hasB (s :: r) s.1 = true := by rw [hasB_cons, (inB_iff _ _ _).2 ⟨Int.le_refl _, gs.2.1⟩]; rfl
    have hmin : ∀ t, hasB (s :: r) t = true → s.1 ≤ t := by
      intro t ht
      rw [hasB_cons, Bool.or_eq_true, inB_iff] at ht
      rcases ht with h | h
      · exact h.1
      · have := goodS_above hg h; omega
    rw [hh] at hin
    obtain ⟨x, hx, hx1, hx2⟩ := (hasB_iff _ _).1 hin
    have hxlo : x.1 = s.1 := by
      have : hasB (s :: r) x.1 = true := by rw [hh]; exact (hasB_iff _ _).2 ⟨x, hx, Int.le_refl _, by omega⟩
      have := hmin _ this
      omega
    have hmem : s.1 ∈ turnsF xs := by
      unfold turnsF
      refine List.mem_append_right _ (List.mem_flatMap.2 ⟨x, hx, ?_⟩)
      rw [← hxlo]
      simp [turn6]
    rcases hsp with ⟨_, _, h3⟩ | ⟨h1, _, h3, h4⟩
    · rw [h3 _ hmem] at hin; cases hin
    · simp only at h1 h3 h4
      have h5 := h4 _ hmem hin
      rw [← hh] at h3
      have h6 := hmin _ h3
      rw [h1, show a = s.1 by omega]
      rfl
theorem cells_turn {w : World} {base m e : Nat} {v : Value} {ts : List Int} (h : w.ownsRow base e 1 v m (ts.map (.int .u64))) : ∀ k t, ts[k]? = some t → ∃ g c, v = .slice (some ⟨g, 0, none⟩) m c ∧ g < w.heap.size ∧ w.cell? ⟨g, k, none⟩ = some (.int .u64 t) := by
  intro k t ht
  have hk := (List.getElem?_eq_some_iff.1 ht).1
  have hm : ts.length = m := by simpa using h.1
  obtain ⟨A, c, rfl, _⟩ := owns_form h
  obtain ⟨g, rfl, _, hlt, hc⟩ := owns_at h (by omega)
  exact ⟨g, c, rfl, hlt, hc k _ (by rw [List.getElem?_map, ht]; rfl)⟩
theorem bne_self' (v : Bool) : (v != v) = false := by cases v <;> rfl
set_option maxHeartbeats 4000000 in
set_option maxRecDepth 100000 in
theorem spansOf_any (A : Option Addr) (n c : Nat) (xs3 : List (Int × Int × Int)) (w : World) (hN : NoneLaid w) (ha : SArg w A n xs3) (hnm : n ≤ maxLen) :
    Calls Tryd.prog 3 #[.slice A n c] w fun e w' => e = .returned (.bool true) ∧ Below w.heap.size w w' := by
  unfold maxLen at hnm
  by_cases hbig : 30 < n
  · have hbig' : (30 : Int) < (n : Int) := by omega
    go_enter Tryd.func3, Tryd.ntmps3
    go_wp2_with (go_at_call 13; refine (awake2_any _ hN).mono ?_; rintro e w1 ⟨rfl, hb1⟩)
    go_ret
    exact ⟨rfl, hb1⟩
  · have hbig' : decide ((30 : Int) < (n : Int)) = false := by simp; omega
    have hHA := Lib.hid ha
    clear ha
    go_enter Tryd.func3, Tryd.ntmps3
    go_wp2_with (go_at_call 13; refine (awake2_any _ hN).mono ?_; rintro e w1 ⟨rfl, hb1⟩)
    refine (make_row A n c xs3 _ (hHA.out.below hb1) (by omega)).mono ?_
    rintro e w2 ⟨A2, n2, c2, xs, rfl, hc2, hr2, hxs, hb2⟩
    have hnx : n2 = n := by
      have := hr2.len
      rw [hxs, List.length_map, hHA.out.1] at this
      exact this.symm
    have hux : AllU xs := by rw [hxs]; exact mkF_all hHA.out.2.1
    have hn2 : n2 ≤ 30 := by omega
    clear hxs hnx hHA
    go_wp2_with (fail)
    refine (cloneAny A2 n2 c2 xs _ hr2.len (by omega) hr2.weak).mono ?_
    rintro e w3 ⟨v3, rfl, hown3, hb3⟩
    obtain ⟨A3, c3, rfl, hc3, hr3⟩ := SpanRow.of_owns hown3
    clear hown3
    go_wp2_with (fail)
    refine (of_set A3 n2 c3 _ xs _ hr3 (by omega) hux).mono ?_
    rintro e w4 ⟨A4, n4, c4, zs, rfl, hc4, hr4, ⟨hg4, hh4, hn4⟩, hb4⟩
    have hzl := hr4.len
    have hn4' : n4 ≤ 30 := by omega
    clear hzl hn4
    go_wp2_with (fail)
    refine (goodAny A4 n4 c4 _ zs _ hr4 (Nat.le_refl _) (by omega) hg4).mono ?_
    rintro e w5 ⟨rfl, hb5⟩
    have hb3' : Below w2.heap.size w2 w5 := hb3.trans ((hb4.trans (hb5.mono hb4.size)).mono hb3.size)
    have hr2' := hr2.below hb3' (Nat.le_refl _)
    have hs2 : w2.heap.size ≤ w5.heap.size := hb3'.size
    go_wp2_with (fail)
    refine (turnsAny A2 n2 c2 _ xs _ hr2' hs2 (by omega)).mono ?_
    rintro e w6 ⟨v6, rfl, hown6, hb6⟩
    have hr2'' := hr2'.below hb6 hs2
    have hr4'' := (hr4.below hb5 (Nat.le_refl _)).below hb6 hb5.size
    have hs2' : w2.heap.size ≤ w6.heap.size := Nat.le_trans hs2 hb6.size
    have hs4' : w4.heap.size ≤ w6.heap.size := Nat.le_trans hb5.size hb6.size
    have hb06 : Below w.heap.size w w6 := hb1.trans ((hb2.trans ((hb3'.trans (hb6.mono hs2)).mono hb2.size)).mono hb1.size)
    have hcel := cells_turn hown6
    have hlt6 := turnsF_length xs
    have hlx : xs.length = n2 := hr2.len
    have hleast := Lib.hid (least_first hg4 hh4)
    obtain ⟨A6, c6, rfl, hc6⟩ := owns_form hown6
    have hst := fun k t => leastF_step (h := hasB xs) (ts := turnsF xs) (k := k) (t := t)
    generalize hT : turnsF xs = ts at *
    generalize hm : ts.length = m at *
    have hm2 : m ≤ 182 := by omega
    have HST := Lib.hid hst
    have HH := Lib.hid hh4
    have HC := Lib.hid hcel
    have HM := Lib.hid hm
    clear hr2 hr3 hr4 hr2' hb1 hb2 hb3 hb4 hb5 hb6 hb3' hown6 hlt6 hlx hT hst hh4 hcel hm hg4 hs2 hux hN
    go_wp2_with (fail)
    go_loopw [5, 6, 8, 27] (fun l a _ i wr => ∃ k : Nat, k ≤ m ∧ i = .int .i64 k ∧ l = .int .u64 (leastF (hasB xs) (ts.take k)).1 ∧ a = .bool (leastF (hasB xs) (ts.take k)).2 ∧ Below w6.heap.size w6 wr) (fun _ _ _ i _ => m - (intOf i).toNat)
    case atStart => exact ⟨0, Nat.zero_le _, rfl, rfl, rfl, Below.refl _ _⟩
    case round =>
      obtain ⟨k, hk, rfl, rfl, rfl, hb⟩ := hrel
      have hsz := hb.size
      by_cases hlt : k < m
      · obtain ⟨t, ht⟩ : ∃ t, ts[k]? = some t := ⟨ts[k]'(by rw [HM.out]; omega), List.getElem?_eq_getElem _⟩
        obtain ⟨g, cc, he, hgl, d0⟩ := HC.out k t ht
        injection he with he1 he2 he3
        subst he1 he3
        replace d0 := cellk hb (p := ⟨g, k, none⟩) hgl d0
        have hin0 : (0 : Int) ≤ (k : Int) := by omega
        have hin1 : (k : Int) < (m : Int) := by omega
        have hX := hr2''.below hb hs2'
        have hZ := hr4''.below hb hs4'
        have hS := HST.out k t ht
        generalize leastF (hasB xs) (ts.take k) = p at *
        obtain ⟨l, a⟩ := p
        have hvz := HH.out t
        generalize hv : hasB xs t = v at *
        have HS := Lib.hid hS
        have HV := Lib.hid hv
        have HVZ := Lib.hid hvz
        clear hS hv hvz ht
        go_wp2_with (fail)
        refine (inAny t v _ _ _ _ xs _ hX (Nat.le_trans hs2' hsz) (by omega) HV.out).mono ?_
        rintro e w7 ⟨rfl, hb7⟩
        have hz7 := hb7.size
        have hX7 := hX.below hb7 (Nat.le_trans hs2' hsz)
        have hZ7 := hZ.below hb7 (Nat.le_trans hs4' hsz)
        clear hX hZ
        go_wp2_with (fail)
        refine (inAny t v _ _ _ _ zs _ hZ7 (by omega) (by omega) HVZ.out).mono ?_
        rintro e w8 ⟨rfl, hb8⟩
        have hz8 := hb8.size
        have hX8 := hX7.below hb8 (by omega)
        have hZ8 := hZ7.below hb8 (by omega)
        have hvv := bne_self' v
        clear hX7 hZ7
        go_wp2_with (fail)
        refine (setHas t v _ _ _ _ zs _ hZ8 (by omega) (by omega) HVZ.out).mono ?_
        rintro e w9 ⟨rfl, hb9⟩
        have hz9 := hb9.size
        have hX9 := hX8.below hb9 (by omega)
        clear hX8 hZ8
        go_wp2_with (fail)
        refine (inAny t v _ _ _ _ xs _ hX9 (by omega) (by omega) HV.out).mono ?_
        rintro e w10 ⟨rfl, hb10⟩
        have hz10 := hb10.size
        have hX10 := hX9.below hb10 (by omega)
        clear hX9
        go_wp2_with (fail)
        refine (inAny t v _ _ _ _ xs _ hX10 (by omega) (by omega) HV.out).mono ?_
        rintro e w11 ⟨rfl, hb11⟩
        have hb' : Below w6.heap.size w6 w11 := hb.trans ((hb7.trans ((hb8.trans ((hb9.trans ((hb10.trans (hb11.mono hz10)).mono hz9)).mono hz8)).mono hz7)).mono hsz)
        clear hX10 hvv hb7 hb8 hb9 hb10 hb11
        cases v with
        | false =>
          go_wp2_with (fail)
          exact ⟨⟨k + 1, by omega, by go_num, by rw [HS.out]; rfl, by rw [HS.out]; rfl, hb'⟩, by simp [intOf]; omega⟩
        | true =>
          cases a with
          | false =>
            go_wp2_with (fail)
            exact ⟨⟨k + 1, by omega, by go_num, by rw [HS.out]; rfl, by rw [HS.out]; rfl, hb'⟩, by simp [intOf]; omega⟩
          | true =>
            by_cases htl : t < l
            · have hd : decide (t < l) = true := decide_eq_true htl
              go_wp2_with (fail)
              exact ⟨⟨k + 1, by omega, by go_num, by rw [HS.out, hd]; rfl, by rw [HS.out, hd]; rfl, hb'⟩, by simp [intOf]; omega⟩
            · have hd : decide (t < l) = false := decide_eq_false htl
              go_wp2_with (fail)
              exact ⟨⟨k + 1, by omega, by go_num, by rw [HS.out, hd]; rfl, by rw [HS.out, hd]; rfl, hb'⟩, by simp [intOf]; omega⟩
      · obtain rfl : k = m := by omega
        rw [show ts.take k = ts from List.take_of_length_le (by rw [HM.out]; omega), hleast.out]
        have hZ := hr4''.below hb hs4'
        clear hr2'' hr4''
        go_wp2_with (fail)
        refine (firstAny A4 n4 c4 _ zs _ hZ (by omega)).mono ?_
        rintro e w7 ⟨rfl, rfl⟩
        clear hZ
        go_wp2_with (fail)
        go_ret
        exact ⟨by simp, hb06.trans (hb.mono hb06.size)⟩
end Go.Proofs.YtccmalpbejednaaDoor
