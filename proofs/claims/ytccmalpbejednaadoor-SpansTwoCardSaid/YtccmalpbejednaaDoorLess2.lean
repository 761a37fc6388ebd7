/- spans.Set.Less: a set with the times of the one that the other one hasn't. Condition: not too many spans. -/
import Derived.Test.YtccmalpbejednaaDoorJoin2
namespace Go.Proofs.YtccmalpbejednaaDoor
open Go Go.Proofs Go.RowKit

theorem lessF_in2 (a b c d k : Int) : (inB (lessF a b c d).1.1 (lessF a b c d).1.2 k || inB (lessF a b c d).2.1 (lessF a b c d).2.2 k) = (inB a b k && !inB c d k) := by
  unfold lessF
  split
  · simp only [plainF_in, one_in, Bool.or_false]
    have : inB c d k = false := by rw [← Bool.not_eq_true, inB_iff]; omega
    rw [this]
    simp
  · simp only [belowF_in, aboveF_in]
    rw [Bool.eq_iff_iff]
    simp [inB]
    omega
/-- What is left of each without one more; rows without times among them. -/
def lessO (o : Int × Int) (xs : List (Int × Int)) : List (Int × Int) := xs.flatMap fun s => [(lessF s.1 s.2 o.1 o.2).1, (lessF s.1 s.2 o.1 o.2).2]
def lessAll (xs ys : List (Int × Int)) : List (Int × Int) := ys.foldl (fun out o => delF (lessO o out)) xs
theorem lessO_step {o : Int × Int} {xs : List (Int × Int)} {k : Nat} {s : Int × Int} (h : xs[k]? = some s) : lessO o (xs.take (k + 1)) = lessO o (xs.take k) ++ [(lessF s.1 s.2 o.1 o.2).1, (lessF s.1 s.2 o.1 o.2).2] := by
  have hk := (List.getElem?_eq_some_iff.1 h).1
  have hs : xs[k] = s := by rw [List.getElem?_eq_getElem hk] at h; exact Option.some.inj h
  rw [List.take_succ_eq_append_getElem hk, hs]
  unfold lessO
  rw [List.flatMap_append]
  simp
theorem lessO_length (o : Int × Int) (xs : List (Int × Int)) : (lessO o xs).length = xs.length * 2 := by
  unfold lessO
  induction xs with
  | nil => rfl
  | cons x xs ih => rw [List.flatMap_cons, List.length_append, ih, List.length_cons]; simp; omega
theorem lessAll_step {xs ys : List (Int × Int)} {k : Nat} {o : Int × Int} (h : ys[k]? = some o) : lessAll xs (ys.take (k + 1)) = delF (lessO o (lessAll xs (ys.take k))) := by
  have hk := (List.getElem?_eq_some_iff.1 h).1
  have hs : ys[k] = o := by rw [List.getElem?_eq_getElem hk] at h; exact Option.some.inj h
  rw [List.take_succ_eq_append_getElem hk, hs]
  unfold lessAll
  rw [List.foldl_append]
  rfl
theorem lessO_has (o : Int × Int) (xs : List (Int × Int)) (t : Int) : hasB (lessO o xs) t = (hasB xs t && !inB o.1 o.2 t) := by
  unfold lessO
  induction xs with
  | nil => rfl
  | cons x xs ih =>
    rw [List.flatMap_cons, hasB_append, ih, hasB_cons, hasB_cons, hasB_cons, hasB_nil, Bool.or_false, lessF_in2]
    cases inB x.1 x.2 t <;> cases inB o.1 o.2 t <;> cases hasB xs t <;> rfl
theorem lessAll_has (ys : List (Int × Int)) (t : Int) : ∀ xs, hasB (lessAll xs ys) t = (hasB xs t && !hasB ys t) := by
  unfold lessAll
  induction ys with
  | nil => intro xs; simp [hasB_nil]
  | cons o ys ih =>
    intro xs
    rw [List.foldl_cons, ih, hasB_delF, lessO_has, hasB_cons]
    cases hasB xs t <;> cases inB o.1 o.2 t <;> cases hasB ys t <;> rfl
theorem lessO_u {o : Int × Int} {xs : List (Int × Int)} (hu : AllU xs) (ho : U64 o.1 ∧ U64 o.2) : AllU (delF (lessO o xs)) := by
  intro x hx
  have hx := (List.mem_filter.1 hx).1
  obtain ⟨s, hs, hx⟩ := List.mem_flatMap.1 hx
  have h := lessF_u64 (hu s hs).1 (hu s hs).2 ho.1 ho.2
  rcases List.mem_cons.1 hx with rfl | hx
  · exact h.1
  · obtain rfl : x = _ := by simpa using hx
    exact h.2
theorem delF_length (xs : List (Int × Int)) : (delF xs).length ≤ xs.length := List.length_filter_le _ _
theorem less_room {L n' k M : Nat} (hk : k < n') (h : L * 2 ^ (n' - k) ≤ M) : L * 2 ≤ M ∧ ∀ L', L' ≤ L * 2 → L' * 2 ^ (n' - (k + 1)) ≤ M := by
  obtain ⟨d, hd⟩ : ∃ d, n' - k = d + 1 := ⟨n' - k - 1, by omega⟩
  rw [hd, Nat.pow_succ] at h
  rw [show n' - (k + 1) = d by omega]
  have h1 : L * (2 ^ d * 2) = L * 2 * 2 ^ d := by rw [Nat.mul_comm (2 ^ d) 2, Nat.mul_assoc]
  rw [h1] at h
  have h2 : 0 < 2 ^ d := Nat.pow_pos (by omega)
  exact ⟨Nat.le_trans (Nat.le_mul_of_pos_right _ h2) h, fun L' hL => Nat.le_trans (Nat.mul_le_mul_right _ hL) h⟩
set_option maxHeartbeats 4000000 in
set_option maxRecDepth 100000 in
theorem lessRow (M : Nat) (A A' : Option Addr) (n c n' c' B B' : Nat) (xs ys : List (Int × Int)) (w : World) (hN : NoneLaid w) (hr : SpanRow w B A n xs) (hr' : SpanRow w B' A' n' ys) (hB' : B' ≤ w.heap.size) (hn : n * 2 ^ n' ≤ M) (hM : M ≤ 1000000000) (hn1 : n ≤ 1000000000) (hn2 : n' ≤ 1000000000) (hu : AllU xs) (hu' : AllU ys) :
    Calls Tryd.prog 35 #[.slice A n c, .slice A' n' c'] w (RetRow w (SetOf (fun t => hasB xs t && !hasB ys t) M)) := by
  obtain ⟨i0, hi, hz0, hz1, hz2⟩ := info_parts info_span
  have HC := cloneAnyS A n c xs w hr.len (by omega) hr.weak
  go_enter Tryd.func35, Tryd.ntmps35
  go_wp2_with (go_at_call 57; refine HC.mono ?_; rintro e w1 ⟨v1, rfl, hown1, hb1⟩)
  clear HC
  go_loopw [5, 17] (fun v i wr => ∃ k : Nat, k ≤ n' ∧ i = .int .i64 k ∧ (lessAll xs (ys.take k)).length * 2 ^ (n' - k) ≤ M ∧ Hid (AllU (lessAll xs (ys.take k))) ∧ wr.ownsRow w.heap.size 31 2 v (lessAll xs (ys.take k)).length (flatS (lessAll xs (ys.take k))) ∧ Below w.heap.size w wr) (fun _ i _ => n' - (intOf i).toNat)
  case atStart => exact ⟨0, Nat.zero_le _, rfl, by show xs.length * _ ≤ _; rw [hr.len]; exact hn, Lib.hid hu, by show w1.ownsRow w.heap.size _ 2 v1 xs.length (flatS xs); rw [hr.len]; exact hown1, hb1⟩
  case round =>
    obtain ⟨k, hk, rfl, hroom, hUa, hown, hb⟩ := hrel
    have hsz := hb.size
    clear hown1 hb1
    by_cases hlt : k < n'
    · have hlen := hr'.len
      obtain ⟨o, ho⟩ : ∃ o, ys[k]? = some o := ⟨ys[k]'(by omega), List.getElem?_eq_getElem (by omega)⟩
      obtain ⟨b, off, rfl, hbl, d0, d1⟩ := hr'.at_ ho
      replace d0 := cellk hb (p := ⟨b, off + k * 2, none⟩) (by simp; omega) d0
      replace d1 := cellk hb (p := ⟨b, off + k * 2 + 1, none⟩) (by simp; omega) d1
      have hin0 : (0 : Int) ≤ (k : Int) := by omega
      have hin1 : (k : Int) < (n' : Int) := by omega
      have hou := hu' o (List.mem_of_getElem? ho)
      have hst := Lib.hid (lessAll_step (xs := xs) ho)
      obtain ⟨hr2, hr3⟩ := less_room hlt hroom
      have HR3 := Lib.hid hr3
      have HHr := Lib.hid hr'
      generalize hL : lessAll xs (ys.take k) = L at *
      obtain ⟨A1, c1, rfl, hc1, hrow⟩ := SpanRow.of_owns hown
      clear ho hlen hr' hL hroom hr3 hown
      go_wp2_with (fail)
      clear d0 d1
      obtain ⟨w0, hw0⟩ : ∃ w0, w0 = wr.alloc (.cells #[.int .u64 o.1, .int .u64 o.2] 31) := ⟨_, rfl⟩
      obtain ⟨g, hg⟩ : ∃ g, g = wr.heap.size := ⟨_, rfl⟩
      have hb0 : Below w.heap.size w w0 := by rw [hw0]; exact hb.alloc hsz _
      have hgs : g < w0.heap.size := by rw [hw0, hg]; simp
      have e0 : w0.cell? ⟨g, 0, none⟩ = some (.int .u64 o.1) := by rw [hw0, hg]; simp
      have e1 : w0.cell? ⟨g, 1, none⟩ = some (.int .u64 o.2) := by rw [hw0, hg]; simp
      have hrow0 : SpanRow w0 w0.heap.size A1 L.length L := by rw [hw0]; exact (hrow.below ((Below.refl wr.heap.size wr).alloc (Nat.le_refl _) _) (Nat.le_refl _)).more (by simp)
      rw [← hg, ← hw0]
      clear hw0 hg hb hsz hrow
      go_loopw [8, 10, 11, 12, 23] (fun v _ _ _ i wq => ∃ j : Nat, j ≤ L.length ∧ i = .int .i64 j ∧ wq.ownsRow w0.heap.size 31 2 v (j * 2) (flatS (lessO o (L.take j))) ∧ Below w0.heap.size w0 wq) (fun _ _ _ _ i _ => L.length - (intOf i).toNat)
      case atStart => exact ⟨0, Nat.zero_le _, rfl, World.ownsRow_nil _ _ _ _, Below.refl _ _⟩
      case round =>
        obtain ⟨j, hj, rfl, hown, hb⟩ := hrel
        have hsz := hb.size
        by_cases hjt : j < L.length
        · obtain ⟨s, hs⟩ : ∃ s, L[j]? = some s := ⟨L[j]'(by omega), List.getElem?_eq_getElem (by omega)⟩
          obtain ⟨b', off', rfl, hbl', f0, f1⟩ := hrow0.at_ hs
          replace f0 := cellk hb (p := ⟨b', off' + j * 2, none⟩) (by simp; omega) f0
          replace f1 := cellk hb (p := ⟨b', off' + j * 2 + 1, none⟩) (by simp; omega) f1
          have hjn0 : (0 : Int) ≤ (j : Int) := by omega
          have hjn1 : (j : Int) < (L.length : Int) := by omega
          have hsu := hUa.out s (List.mem_of_getElem? hs)
          have c0 := calloc (cellk hb (p := ⟨g, 0, none⟩) hgs e0) (.cells #[.int .u64 s.1, .int .u64 s.2] 31)
          have c1' := calloc (cellk hb (p := ⟨g, 1, none⟩) hgs e1) (.cells #[.int .u64 s.1, .int .u64 s.2] 31)
          have HJ := Lib.hid (lessO_step (o := o) hs)
          obtain ⟨A2, k2, rfl, hk2, _⟩ := SpanRow.of_owns (xs := lessO o (L.take j)) hown
          have how := Lib.hid hown
          have HRow := Lib.hid hrow0
          clear hown hs hrow0
          have hNq : NoneLaid wr := (hN.below hb0 hN.lt).below hb (Nat.lt_of_lt_of_le hN.lt hb0.size)
          have hlF := lessF_u64 hsu.1 hsu.2 hou.1 hou.2
          generalize hF : lessF s.1 s.2 o.1 o.2 = F at *
          obtain ⟨⟨F0, F1⟩, ⟨F2, F3⟩⟩ := F
          have HF := Lib.hid hF
          have HLs := less_any s.1 s.2 o.1 o.2 (wr.alloc (.cells #[.int .u64 s.1, .int .u64 s.2] 31)) (hNq.alloc _) hsu.1.1 hsu.2.2 hou.1.2 hou.2.1
          rw [hF] at HLs
          clear hF
          go_wp2_with (first
            | (go_at_call 58; refine HLs.mono ?_; rintro e w4 ⟨rfl, hb4⟩; have hz4 := hb4.size)
            | (at_builtin; (refine wpList_append_own _ rfl (.tmp 33) (.tmp 36) 26 rfl w0.heap.size 31 i0 (.agg #[.int .u64 0, .int .u64 0]) 2 16 Tryd.underlying26 hi hz0 hz1 hz2 rfl (by decide) (.slice A2 (j * 2) k2) (j * 2) (flatS (lessO o (L.take j))) rfl ((((owns_below (how.out.alloc _) hb4 (Nat.le_refl _)).alloc _).alloc _).alloc _) ⟨w4.heap.size + 1 + 1, 0, none⟩ 2 2 [.int .u64 F0, .int .u64 F1, .int .u64 F2, .int .u64 F3] rfl rfl (World.news_of_block (cs := #[.int .u64 F0, .int .u64 F1, .int .u64 F2, .int .u64 F3]) (t := 31) (fr := (0, 0)) (heap_new_at (by simp))) (by simp [Value.oneCell']) (by unfold maxLen; omega) (by omega) (by simp at hz4 ⊢; omega) ?_; intro v5 w5 hown5 hgr5 _)))
          have hz5 := hb4.size
          simp at hz5
          refine ⟨⟨j + 1, by omega, by go_num, ?_, ?_⟩, ?_⟩
          · rw [HJ.out, flatS_append, show (j + 1) * 2 = j * 2 + 2 by omega]
            exact hown5
          · exact (((((hb.alloc hsz _).trans (hb4.mono (by simp; omega))).alloc (by omega) _).alloc (by simp; omega) _).alloc (by simp; omega) _).grown hgr5 (by simp; omega) (fun j hj => (how.out.lt j hj).1)
          · simp [intOf]; omega
        · obtain rfl : j = L.length := by omega
          rw [List.take_of_length_le (Nat.le_refl _)] at hown
          have hlL := lessO_length o L
          rw [← hlL] at hown
          have hdl := delF_length (lessO o L)
          have hroom' := HR3.out (delF (lessO o L)).length (by omega)
          have hU' := Lib.hid (lessO_u hUa.out hou)
          have HD := deleteAnyS w0.heap.size u8 _ (lessO o L) wr hown hsz (by omega)
          clear hrow0 hown hlL
          have HDL := Lib.hid hroom'
          clear hroom'
          go_wp2_with (go_at_call 59; refine HD.mono ?_; rintro e w6 ⟨v6, rfl, hown6, hb6⟩)
          have hb' : Below w.heap.size w w6 := hb0.trans (hb.trans hb6 |>.mono hb0.size)
          refine ⟨⟨k + 1, by omega, by go_num, by rw [hst.out]; exact HDL.out, Lib.hid (by rw [hst.out]; exact hU'.out), ?_, hb'⟩, by simp [intOf]; omega⟩
          rw [hst.out]
          exact owns_lower hown6 hb0.size
    · obtain rfl : k = n' := by omega
      rw [show ys.take k = ys from List.take_of_length_le (by rw [hr'.len]; omega)] at hown hUa hroom
      obtain ⟨A5, c5, rfl, _, hr5⟩ := SpanRow.of_owns hown
      have hH : (lessAll xs ys).length ≤ M := by rw [Nat.sub_self, Nat.pow_zero, Nat.mul_one] at hroom; exact hroom
      clear hown hr hr' hroom
      go_wp2_with (go_at_call 15; refine (of_set A5 _ c5 _ (lessAll xs ys) wr hr5 (Nat.le_trans hH hM) hUa.out).mono ?_; rintro e w6 ⟨A6, n6, c6, zs, rfl, hnc, hr6, hq6, hb6⟩)
      go_ret
      exact ⟨A6, n6, c6, zs, rfl, hnc, hr6, ⟨hq6.1, fun t => by rw [hq6.2.1, lessAll_has], Nat.le_trans hq6.2.2 hH⟩, hb.trans (hb6.mono hb.size)⟩
end Go.Proofs.YtccmalpbejednaaDoor
